/- A text. -/
import Derived.Test.YtkccdnmaaelbiaaGreatFwLW5
set_option linter.all false
set_option maxRecDepth 99999
set_option maxHeartbeats 9999999
namespace Go.Fw
section
attribute [local irreducible] Kp MQ lU rS KO KN KX KE VK Kl ZJ TC aab
open Go.Proofs
def xe (x y:Int):aBuild Tryz.prog 38 [(0,.int .i64 x),(1,.int .i64 y)]=some (UI (x,y)):=Ji
end
end Go.Fw
namespace Go.Fw
open Go.Proofs
section
variable {α : Type} [DecidableEq α]
def setK:List (α×Int)->α->Int->List (α×Int)
 |[],k,v=>[(k,v)]
 |(a,b)::r,k,v=>if a=k then(k,v)::r else(a,b)::setK r k v
def lookK:List (α×Int)->α->Option Int
 |[],_=>none
 |(a,b)::r,k=>if a=k then some b else lookK r k
theorem XR (l:List (α×Int)) (k a:α) (v:Int):lookK (setK l k v) a=if k=a then some v else lookK l a:=by
 induction l<;>grind [setK,lookK]
theorem HU {l:List (α×Int)} {k:α}:lookK l k≠none↔k∈l.map (·.1):=by
 induction l<;>grind [lookK]
theorem Kf (l:List (α×Int)) (k a:α) (v:Int):a∈(setK l k v).map (·.1)↔a=k\/a∈l.map (·.1):=by
 rw[<-HU,XR,<-HU]
 grind
theorem Ek (l:List (α×Int)) (k:α) (v:Int):(lookK l k=none/\setK l k v=l++[(k,v)])\/∃(j:Nat) (b:Int),lookK l k=some b/\l[j]?=some (k,b)/\(∀i,i<j->∀x,l[i]?=some x->x.1≠k)/\setK l k v=l.set j (k,v):=by
 induction l with
 |nil=>exact .inl ⟨rfl,rfl⟩
 |cons x r e=>
  obtain⟨a,b⟩:=x;simp only[setK,lookK];by_cases h:a=k
  .subst h
   rw[if_pos rfl,if_pos rfl];exact .inr ⟨0,b,rfl,rfl,NH,rfl⟩
  .rw [if_neg h, if_neg h]
   rcases e with⟨d,h2⟩|⟨j,c,d,h2,h3,f⟩
   .grind
   .refine .inr ⟨j + 1, c, d, pw, fun i hi x g => ?_, by rw [f]; rfl⟩
    cases i<;>grind
end
def aan (l:List (Pr×Int)):List (Value×Value):=l.map fun x=>(UI x.1,.int .i64 x.2)
theorem afind_mapP (k:Pr):∀(l:List (Pr×Int)) (i:Nat),(lookK l k=none->afind Tryz.prog 38 (UI k) (aan l) i=some none)/\∀(j:Nat) b,l[j]?=some (k,b)->(∀q,q<j->∀x,l[q]?=some x->x.1≠k)->afind Tryz.prog 38 (UI k) (aan l) i=some (some (i+j,.int .i64 b))
 |[],i=>⟨fun _=>rfl,pw⟩
 |(a,b)::r,i=>by
  obtain⟨g,h2⟩:=afind_mapP k r (i+1)
  have un:afind Tryz.prog 38 (UI k) (aan ((a,b)::r)) i=match aEq Tryz.prog 38 (UI k) (UI a)with|some true=>some (some (i,.int .i64 b))|some false=>afind Tryz.prog 38 (UI k) (aan r) (i+1)|none=>none:=rfl
  rw[un,eqP];constructor
  .grind [lookK]
  .intro j c f d
   cases j with
   |zero=>
    grind
   |succ j=>
    have e:a≠k:=d 0 NH (a,b) rfl;have:decide (k=a)=false:=by simpa using Ne.symm e
    rw[this];show afind Tryz.prog 38 (UI k) (aan r) (i+1)=_;rw[h2 j c (by simpa using f) pw];congr 3;omega
def keyP (p:Pr):keyArr Tryz.prog 38 (UI p)=true:=by
 have:allInts [.int .i64 p.1,.int .i64 p.2]=some [(IntKind.i64,p.1),(IntKind.i64,p.2)]:=rfl;simp[keyArr,yU,Mb,UI,this,ts3]
def wD {h:AHeap} {x:Value} (p:Pr) (ok:Bool):aLookup Tryz.prog h 88 x (UI p) ok=none:=by simp only[aLookup,zL,UI]
def afa {h:AHeap} {x v:Value} (p:Pr):aMapSet Tryz.prog h 88 x (UI p) v=none:=by simp only[aMapSet,zL,UI]
theorem Il {h:AHeap} {M:Nat} {l:List (Pr×Int)} (a:h.own M=some (.map (aan l))) (k:Pr) (ok:Bool):
  aLookupA Tryz.prog h 88 (.map (some M)) (UI k) ok=some (bif ok then .tuple #[.int .i64 ((lookK l k).getD 0),.bool (lookK l k).isSome]else .int .i64 ((lookK l k).getD 0)):=by
 have c:azero Tryz.prog 3=some (.int .i64 0):=Ji;simp only[aLookupA,zL,keyP,a,c,show flat (.int .i64 0)=true from rfl,if_true];rcases Ek l k 0 with⟨d,_⟩|⟨j,b,d,h2,h3,_⟩
 .grind [afind_mapP]
 grind [afind_mapP]
theorem pW {h:AHeap} {M:Nat} {l:List (Pr×Int)} (a:h.own M=some (.map (aan l))) (k:Pr) (v:Int):aMapSetA Tryz.prog h 88 (.map (some M)) (UI k) (.int .i64 v)=some (h.put M (.map (aan (setK l k v)))):=by
 simp only[aMapSetA,zL,keyP,a,if_true];rcases Ek l k v with⟨c,d⟩|⟨j,b,c,h2,h3,d⟩
 .grind [afind_mapP,aan]
 grind [afind_mapP,aan,List.map_set]
end Go.Fw
namespace Go.Fw
section
attribute [local irreducible] Kp MQ lU rS KO KN KX KE VK Kl ZJ TC aab
open Go.Proofs
theorem YX (j:LA) (v:Value) (n s:Nat) (es:List Pr) (h:AHeap) (hg:GR h v ⟨(n:Int),es⟩) (f:bX ⟨(n:Int),es⟩) (hs:s<n):
  AC Tryz.prog j 129 [v,.int .i64 (s:Int)] h fun x h'=>∃d U o up,x=.tuple #[d,.slice (some ⟨U,0,none⟩) n n,.int .i64 0]/\GI h' d (aaa o)/\(h'.own U=some (.cells (Bp up))/\blk d≠some U/\h.own U=none)/\Oc n es s o up/\Le h h'/\Z2 h d:=by
 have k:=hg
 obtain⟨ev,rfl,D⟩:=hg.open
 have z:(n:Int)<=200:=f.n1;have A:es.length<=594:=f.len;refine AC.vE ⟨Tryz.func129,rfl,WY⟩ Tryz.ntmps129 Tryz.results129 fun l=>?_;simp only[Br,Nat.reduceAdd];obtain⟨m,E,g,p,-,F⟩:=r8 (n:=(n:Int)) l D
 generalize h.next=B at*
 have q:=F m (Le.refl _);obtain⟨h2,G,l2,w2,H⟩:=Tt p [.int .i64 (s:Int)]
 have rs:RL RP h2 (.slice (some ⟨m.next,0,none⟩) 1 1) [(s:Int)]:=RL.Wh (RS.whole H rfl)
 refine Sk (xU E q.1 @DQ G) ?_
 generalize Value.slice (some ⟨m.next,0,none⟩) 1 1=I at*
 refine TC.intro PJ ⟨qS37,rfl,WY⟩ (N7 j _ I ⟨(n:Int),es⟩ [(s:Int)] h2 (k.le (g.trans l2)) rs Ma) ?_;rintro x h3 J ⟨r,K,e,rfl,L⟩;have c:=(g.trans l2).trans r;have i:∀x∈[(s:Int)],0<=x/\x<(n:Int):=fun x O=>by grind
 rcases L with⟨t,_,_⟩|⟨_,u,_,_⟩|⟨_,_,rfl,a⟩
 .exact absurd f t
 .exact absurd i u
 .simp only [Z6] at a
  refine Sk @bne.eq_1.{0} ?_
  refine TC.intro PJ ⟨Tryz.func114,rfl,WY⟩ (V6 j K n s es h3 a f.GD f.q9 NH NH hs) ?_;rintro x P M ⟨d,N,o,up,rfl,C,w,hd,y,ap⟩;refine Uy ?_;refine⟨d,N,o,up,rfl,C,⟨w.1,w.2.1,c.none w.2.2⟩,hd,c.trans y,?_⟩;intro b hb;cases C:h.own b with
  |none=>rfl
  |some o=>have:=ap b hb;grind [Le.own]
end
end Go.Fw
namespace Go.Fw
open Go.Proofs
abbrev Lw:=Int×Int×Int
def MK (p:Lw):List Value:=[.int .i64 p.1,.int .i64 p.2.1,.int .i64 p.2.2]
def valL (p:Lw):Value:=.agg #[.int .i64 p.1,.int .i64 p.2.1,.int .i64 p.2.2]
def Wo (ps:List Lw):List Value:=ps.flatMap MK
theorem Fx:∀(ps:List Lw) (i:Nat) (p:Lw),ps[i]?=some p->(Wo ps)[i*3]?=some (.int .i64 p.1)/\(Wo ps)[i*3+1]?=some (.int .i64 p.2.1)/\(Wo ps)[i*3+2]?=some (.int .i64 p.2.2)
 |[],i,p,h=>by simp at h
 |q::ps,0,p,h=>by grind [Wo,MK]
 |q::ps,i+1,p,h=>by
  have:=Fx ps i p (by simpa using h);have e:Wo (q::ps)=.int .i64 q.1::.int .i64 q.2.1::.int .i64 q.2.2::Wo ps:=rfl;rw[e,show(i+1)*3=(i*3+2)+1 by omega];simpa using this
theorem cH:∀(ps:List Lw) (i:Nat) (p q:Lw),ps[i]?=some p->
  Wo (ps.set i q)=(((Wo ps).set (i*3) (.int .i64 q.1)).set (i*3+1) (.int .i64 q.2.1)).set (i*3+2) (.int .i64 q.2.2)
 |[],i,p,q,h=>by simp at h
 |r::ps,0,p,q,h=>by simp[Wo,MK]
 |r::ps,i+1,p,q,h=>by
  have:=cH ps i p q (by simpa using h);have e:∀(r:Lw) ps,Wo (r::ps)=.int .i64 r.1::.int .i64 r.2.1::.int .i64 r.2.2::Wo ps:=fun _ _=>rfl
  grind
theorem afb (ps:List Lw) (i:Nat) (p:Lw) (x:Int) (h:ps[i]?=some p):Wo (ps.set i (p.1,p.2.1,x))=(Wo ps).set (i*3+2) (.int .i64 x):=by
 rw[cH ps i p _ h];obtain⟨a,b,c⟩:=Fx ps i p h;apply EH
 grind
def ts51:UA Tryz.prog 108=3:=Ji
def zrow3 (n:Nat):zrow [Value.int .i64 0,.int .i64 0,.int .i64 0] n=Wo (List.replicate n (0,0,0)):=by
 induction n with
 |zero=>rfl
 |succ n a=>rw[zrow,a];rfl
def mkL (h:AHeap) (n:Nat) (e:n<=100000):aMakeSlice Tryz.prog h 104 (.int .i64 n) (.int .i64 n)=some (.slice (some ⟨h.next,0,none⟩) n n,h.alloc (.cells (Wo (List.replicate n (0,0,0))))):=by
 have b:azero Tryz.prog 108=some (.agg #[.int .i64 0,.int .i64 0,.int .i64 0]):=Ji;have hb:Tryz.prog.bytesOf 108=24:=Ji;have c:(24:Int)*n<=140737488355328:=NH;have d:(n:Int)<=140737488355328:=NH;have one:(Wo (List.replicate n (0,0,0))).all (·.oneCell')=true:=by
  rw[LH];intro x a;rw[Wo,QD]at a;obtain⟨p,_,a⟩:=a;simp[MK]at a;rcases a with rfl|rfl|rfl<;>rfl
 simp[aMakeSlice,qS9,qS41,b,hb,ts51,Value.cells,flat,c,d,IF,zrow3,one]
section
variable {h : AHeap} {L n : Nat} {ls : List Lw}
def Is {k:IntKind} {cap:Nat} (v:Nat) (b:v<n):aIndexAddr Tryz.prog 104 (.slice (some ⟨L,0,none⟩) n cap) (.int k v)=some (.pointer (some ⟨L,v*3,none⟩)):=by
 have a:(v:Int)<(n:Int):=NH;simp[aIndexAddr,qS9,qS41,a,ts51,Ip]
def fl0 (a:Addr):aField Tryz.prog 108 (.pointer (some a)) 0=some (.pointer (some (Ip a 0))):=rfl
def fl1 (a:Addr):aField Tryz.prog 108 (.pointer (some a)) 1=some (.pointer (some (Ip a 1))):=rfl
def fl2 (a:Addr):aField Tryz.prog 108 (.pointer (some a)) 2=some (.pointer (some (Ip a 2))):=rfl
def Nh (a:h.own L=some (.cells (Wo ls))) {v:Nat} {p:Lw} (b:ls[v]?=some p):aload Tryz.prog h 3 ⟨L,v*3,none⟩=some (.int .i64 p.1):=by rw[Fq Mb rfl a,(Fx ls v p b).1]
def lUp (a:h.own L=some (.cells (Wo ls))) {v:Nat} {p:Lw} (b:ls[v]?=some p):aload Tryz.prog h 3 ⟨L,v*3+1,none⟩=some (.int .i64 p.2.1):=by rw[Fq Mb rfl a,(Fx ls v p b).2.1]
def jA (a:h.own L=some (.cells (Wo ls))) {v:Nat} {p:Lw} (b:ls[v]?=some p):aload Tryz.prog h 3 ⟨L,v*3+2,none⟩=some (.int .i64 p.2.2):=by rw[Fq Mb rfl a,(Fx ls v p b).2.2]
def sLow (b:h.own L=some (.cells (Wo ls))) {v:Nat} {p:Lw} (a:ls[v]?=some p) (x:Int):
  aStore Tryz.prog h 3 (.pointer (some ⟨L,v*3+2,none⟩)) (.int .i64 x)=some (h.put L (.cells (Wo (ls.set v (p.1,p.2.1,x))))):=by
 rw[afb ls v p x a];exact QB (P:=Tryz.prog) (t:=3) (x:=.int .i64 x) Mb Ji b (off:=v*3+2) (Ny.1 (Fx ls v p a).2.2).1 rfl rfl
def sAll (b:h.own L=some (.cells (Wo ls))) {v:Nat} (c:v<ls.length) (q:Lw):
  aStore Tryz.prog h 108 (.pointer (some ⟨L,v*3,none⟩)) (valL q)=some (h.put L (.cells (Wo (ls.set v q)))):=by
 have a:=CA c;rw[cH ls v _ q a];have e:=(Ny.1 (Fx ls v _ a).2.2).1;have d:v*3+3<=(Wo ls).length:=NH;simp[aStore,b,valL,Value.cells,ts51,putCells,qS41,d,Value.oneCell']
end
end Go.Fw
namespace Go.Fw
section
open Go.Proofs
variable {es:List Pr} {i n s v:Nat} {ls:List Lw} {o:II} {up:RZ}
def Ro (ls:List Lw) (v:Nat):Lw:=ls.getD v (0,0,0)
def putA (up:RZ):II->List Lw×II->List Lw×II
 |[],st=>st
 |v::r,(ls,o)=>putA up r (ls.set v (((o.length+1:Nat):Int),up.getD v 0,((o.length+1:Nat):Int)),o++[v])
def jl (n:Nat) (es:List Pr) (i:Nat) (st:List Lw×II):List Lw×II:=
 if(Ro st.1 i).1=0 then putA (K9 n es i).2 (K9 n es i).1 st else st
def metM (n:Nat) (es:List Pr):Nat->List Lw×II
 |0=>(List.replicate n (0,0,0),[])
 |i+1=>jl n es i (metM n es i)
def bS (ls:List Lw) (e:Pr):List Lw:=
 let a:=e.1.toNat;let b:=e.2.toNat
 if(Ro ls a).2.1=e.2\/(Ro ls b).2.1=e.1 then ls
 else
  let l1:=ls.set a ((Ro ls a).1,(Ro ls a).2.1,min (Ro ls a).2.2 (Ro ls b).1)
  l1.set b ((Ro l1 b).1,(Ro l1 b).2.1,min (Ro l1 b).2.2 (Ro l1 a).1)
def Ke (ls:List Lw) (v:Nat):List Lw:=
 let u:=(Ro ls v).2.1
 if 0<=u then ls.set u.toNat ((Ro ls u.toNat).1,(Ro ls u.toNat).2.1,min (Ro ls u.toNat).2.2 (Ro ls v).2.2)else ls
def Jz (n:Nat) (es:List Pr):List Lw×II:=((metM n es n).2.reverse.foldl Ke (es.foldl bS (metM n es n).1),(metM n es n).2)
theorem V0 (h:v<ls.length):ls[v]?=some (Ro ls v):=by grind [Ro]
structure LowI (n:Nat) (ls:List Lw) (o:II):Prop where
 len:ls.length=n
 up:∀v,v<n->(Ro ls v).2.1<(n:Int)
 lt:∀v∈o,v<n
 nd:o.Nodup
 num:∀v,v<n->((Ro ls v).1=0↔v∉o)
theorem Uw (ls:List Lw) (v:Nat) (q:Lw) (u:Nat):Ro (ls.set v q) u=if v=u/\v<ls.length then q else Ro ls u:=by grind [Ro]
theorem du.upR (a:aV n es) (hs:s<n) (d:du n es s o up):∀v,up.getD v 0<(n:Int):=by
 induction d with
 |start=>
  grind
 |@step o up k v w d c ha hw e hf b=>
  intro x;simp only[mJ,K4];have:=b x;split
  .split
   .have:=(ha.lt a).1;simp;omega
   grind
  .exact this
theorem Rx {n:Nat} {up:RZ} (a:∀v,up.getD v 0<(n:Int)):∀(l:II) {ls:List Lw} {o:II},LowI n ls o->l.Nodup->(∀v∈l,v<n/\v∉o)->
  LowI n (putA up l (ls,o)).1 (putA up l (ls,o)).2/\(putA up l (ls,o)).2=o++l
 |[],ls,o,I,_,_=>by grind [putA]
 |v::r,ls,o,I,c,e=>by
  rw[ZT]at c;have d:LowI n (ls.set v (((o.length+1:Nat):Int),up.getD v 0,((o.length+1:Nat):Int))) (o++[v]):=by
   refine⟨by simp[I.len],fun u b=>?_,fun u b=>?_,?_,fun u b=>?_⟩
   .rw [Uw]; split
    .exact a v
    .exact I.up u b
   .grind [LowI.lt]
   .grind [LowI.nd]
   grind [Uw,LowI.len,LowI.num]
  obtain⟨f,g⟩:=Rx a r d c.2 pw
  grind [putA.eq_2]
theorem PA (a:∀u w,Jp es u w->u∈o->w∈o) (h:Pu es i v):v∈o->i∈o:=by
 induction h<;>grind [Jp.symm]
structure cV (n:Nat) (es:List Pr) (ls:List Lw) (o:II):Prop extends LowI n ls o where
 cl:∀u w,Jp es u w->u∈o->w∈o
def TY (a:aV n es) (I:cV n es ls o) (hi:i<n) (c:(Ro ls i).1=0):
  (K9 n es i).1.Nodup/\∀v∈(K9 n es i).1,v<n/\v∉o:=by
 have D:=Te a hi;refine⟨D.KP.nodup,fun v b=>⟨((D.mem v).1 b).lt a hi,fun d=>(I.num i hi).1 c (PA I.cl ((D.mem v).1 b) d)⟩⟩
theorem fromA_C (b:aV n es) (I:cV n es ls o) (hi:i<n):
  cV n es (jl n es i (ls,o)).1 (jl n es i (ls,o)).2/\i∈(jl n es i (ls,o)).2/\∀v∈o,v∈(jl n es i (ls,o)).2:=by
 unfold jl;split
 .rename_i c
  obtain⟨f,g⟩:=TY b I hi c;have D:=Te b hi;obtain⟨d,h⟩:=Rx (D.KP.upR b hi) (K9 n es i).1 I.toLowI f g;rw[h]at d ⊢;refine⟨⟨d,fun u w ha a=>?_⟩,Ki _ ((D.mem i).2 (Pu.refl es i)),(by grind [List.mem_append_left])⟩;rw[Sb]at a ⊢;rcases a with a|a
  .grind [cV.cl]
  .exact .inr (D.full u a w ha)
 .rename_i c
  refine⟨I,?_,fun v j=>j⟩;by_cases e:i∈o
  .exact e
  .exact absurd ((I.num i hi).2 e) c
theorem ZC {n:Nat} {es:List Pr} (a:aV n es):∀i,i<=n->cV n es (metM n es i).1 (metM n es i).2/\∀v,v<i->v∈(metM n es i).2
 |0,_=>⟨⟨⟨by simp[metM],(by grind [metM,Ro]),by simp[metM],by simp[metM],(by grind [metM,Ro])⟩,by simp[metM]⟩,NH⟩
 |i+1,hi=>by
  obtain⟨I,b⟩:=ZC a i NH;obtain⟨c,d,f⟩:=fromA_C a I (i:=i) NH;refine⟨c,fun v g=>?_⟩;by_cases e:v=i
  .subst e;exact d
  .exact f v (b v NH)
theorem LowI.Em (I:LowI n ls o):o.length<=n:=by
 have:=I.nd.length_le_of_subset (l₂:=List.range n) (by grind [LowI.lt])
 grind
end
section
attribute [local irreducible] Kp MQ lU rS KO KN KX KE VK Kl ZJ TC aab
open Go.Proofs
variable {L LV id n:Nat} {h:AHeap} {ls:List Lw} {o:II} {ov:Value}
def mkCap (h:AHeap) (n:Nat) (d:n<=100000):aMakeSlice Tryz.prog h 49 (.int .i64 0) (.int .i64 n)=some (.slice (some ⟨h.next,0,none⟩) 0 n,h.alloc (.cells (List.replicate n (.int .i64 0)))):=by
 have a:azero Tryz.prog 3=some (.int .i64 0):=Ji;have hb:Tryz.prog.bytesOf 3=8:=Ji;have b:(8:Int)*n<=140737488355328:=NH;have c:(n:Int)<=140737488355328:=NH;simp[aMakeSlice,Ac,Mb,a,hb,ts3,Value.cells,flat,b,c,IF,HW,Value.oneCell']
def GU.cap (a:h.own id=some (.cells (List.replicate n (.int .i64 0)))) (b:n<=100000):GU h (.slice (some ⟨id,0,none⟩) 0 n) []:=
 ⟨by simp[Bp],.inr ⟨id,_,n,rfl,a,by simp[Bp],.inr ⟨aal _,NH,Ma⟩⟩⟩
theorem Dv (a b:Int):aMin (.int .i64 a) [.int .i64 b]=some (.int .i64 (min a b)):=by grind [aMin]
def bL (a b c:Int):aBuild Tryz.prog 108 [(0,.int .i64 a),(1,.int .i64 b),(2,.int .i64 c)]=some (valL (a,b,c)):=Ji
theorem vx (ls:List Lw) (e:Pr):(bS ls e).length=ls.length:=by grind [bS]
def OQ:∀(es:List Pr) (ls:List Lw),(es.foldl bS ls).length=ls.length
 |[],ls=>rfl
 |e::es,ls=>by rw[V9,OQ es,vx]
theorem Bg (ls:List Lw) (a:Nat) (x:Int) (v:Nat):(Ro (ls.set a ((Ro ls a).1,(Ro ls a).2.1,x)) v).1=(Ro ls v).1/\(Ro (ls.set a ((Ro ls a).1,(Ro ls a).2.1,x)) v).2.1=(Ro ls v).2.1:=by grind [Uw]
theorem P1 (ls:List Lw) (e:Pr) (v:Nat):(Ro (bS ls e) v).1=(Ro ls v).1/\(Ro (bS ls e) v).2.1=(Ro ls v).2.1:=by grind [bS,Bg]
theorem RK:∀(es:List Pr) (ls:List Lw) (v:Nat),(Ro (es.foldl bS ls) v).1=(Ro ls v).1/\(Ro (es.foldl bS ls) v).2.1=(Ro ls v).2.1
 |[],ls,v=>⟨rfl,rfl⟩
 |e::es,ls,v=>by
  rw[V9];obtain⟨a1,a2⟩:=RK es (bS ls e) v
  grind [P1]
theorem tU (ls:List Lw) (x v:Nat):(Ro (Ke ls x) v).1=(Ro ls v).1/\(Ro (Ke ls x) v).2.1=(Ro ls v).2.1:=by grind [Ke,Bg]
theorem mE:∀(o:II) (ls:List Lw) (v:Nat),(Ro (o.foldl Ke ls) v).1=(Ro ls v).1/\(Ro (o.foldl Ke ls) v).2.1=(Ro ls v).2.1
 |[],ls,v=>⟨rfl,rfl⟩
 |e::es,ls,v=>by
  rw[V9];obtain⟨a1,a2⟩:=mE es (Ke ls e) v
  grind [tU]
theorem bq (ls:List Lw) (v:Nat):(Ke ls v).length=ls.length:=by grind [Ke]
theorem Qp:∀(o:II) (ls:List Lw),(o.foldl Ke ls).length=ls.length
 |[],ls=>rfl
 |e::es,ls=>by rw[V9,Qp es,bq]
def LG (h:AHeap):aAlloc Tryz.prog h 104=some (.pointer (some ⟨h.next,0,none⟩),h.alloc (.cells [.slice none 0 0])):=rfl
structure TP (h1 hq:AHeap) (LV L n:Nat) (ov:Value) (ls:List Lw) (o:II):Prop where
 oV:hq.own LV=some (.cells [.slice (some ⟨L,0,none⟩) n n])
 oL:hq.own L=some (.cells (Wo ls))
 go:GU hq ov (aaa o)
 nb:blk ov≠some LV/\blk ov≠some L
 le:Le h1 hq
 nn:h1.own LV=none/\h1.own L=none/\LV≠L
 ao:Z2 h1 ov
theorem TP.put {b c:AHeap} {d L n:Nat} {e:Value} {ls:List Lw} {o:II} (S:TP b c d L n e ls o) (a:List Lw):TP b (c.put L (.cells (Wo a))) d L n e a o:=
 ⟨by rw[AHeap.By _ _ _ _ S.nn.2.2];exact S.oV,AHeap.Y3 _ _ _,GT.put S.go _ S.nb.2,S.nb,S.le.put _ S.nn.2.1,S.nn,S.ao⟩
theorem TP.kept {a b c:AHeap} (S:TP a b LV L n ov ls o) (e:Le b c):TP a c LV L n ov ls o:=
 ⟨e.own _ _ S.oV,e.own _ _ S.oL,S.go.le e,S.nb,S.le.trans e,S.nn,S.ao⟩
def Ze (up:RZ):∀(a b:II) (st:List Lw×II),putA up (a++b) st=putA up b (putA up a st)
 |[],b,st=>rfl
 |x::a,b,(ls,o)=>by rw[To,putA,putA,Ze up a b]
theorem TP.push {e a:AHeap} {i L n:Nat} {f:Value} {ls:List Lw} {o:II} (S:TP e a i L n f ls o) (g:WF a) (x:Nat) (r:o.length<=1000):
  ∃v' d c,aBuildSlice Tryz.prog a 49 1 [(0,.int .i64 (x:Int))]=some (.slice (some ⟨a.next,0,none⟩) 1 1,d)/\aAppend Tryz.prog d 49 49 f (.slice (some ⟨a.next,0,none⟩) 1 1)=some (v',c)/\TP e c i L n v' ls (o++[x])/\WF c/\
   (∀b o,a.own b=some o->blk f≠some b->c.own b=some o/\blk v'≠some b):=by
 obtain⟨v',d,c,e4,j,s,k,l4,hf,h⟩:=S.go.push g (x:Int) (by grind [y6]);obtain⟨k1,k2⟩:=h _ _ S.oV S.nb.1;obtain⟨l,m⟩:=h _ _ S.oL S.nb.2;obtain⟨p,q⟩:=hf e S.le S.ao;exact⟨v',d,c,e4,j,⟨k1,l,by grind [aaa],⟨k2,m⟩,p,S.nn,q⟩,k,h⟩
theorem qX (W0:LA) (v:Value) (G:GM) (h:AHeap) (hg:GR h v G):
  AC Tryz.prog W0 84 [v] h fun x h'=>Le h h'/\((¬bX G/\x=.tuple #[.slice none 0 0,.slice none 0 0,.int .i64 20])\/
   (bX G/\∃L m,x=.tuple #[.slice (some ⟨L,0,none⟩) G.n.toNat G.n.toNat,m,.int .i64 0]/\h'.own L=some (.cells (Wo (Jz G.n.toNat G.es).1))/\h.own L=none/\GU h' m (aaa (Jz G.n.toNat G.es).2)/\blk m≠some L/\Z2 h m)):=by
 have ar:=hg;obtain⟨gn,es⟩:=G
 obtain⟨ev,rfl,hp⟩:=hg.open
 refine AC.vE ⟨Tryz.func84,rfl,WY⟩ Tryz.ntmps84 Tryz.results84 fun bx=>?_;simp only[Br,Nat.reduceAdd];obtain⟨h1,b1,T,cN,-,lA⟩:=r8 (n:=gn) bx hp
 generalize h.next=B at*
 have bB:=lA h1 (Le.refl _);simp only[HO,Nat.reduceLT,↓reduceIte,Nat.reduceEqDiff,reduceCtorEq,b1,bB.1];refine TC.intro PJ ⟨qv,rfl,WY⟩ (ak W0 _ _ h1 (ar.le T)) ?_;rintro x h2 av ⟨⟨bb,rfl,bF⟩,r⟩;cases bb with
 |false=>
  refine Uy ?_
  grind [Le.trans]
 |true=>
 have hr:=bF.1 rfl;have h0:0<=gn:=hr.n0;obtain⟨n,rfl⟩:=yY h0;have cz:(n:Int)<=200:=hr.n1;have cC:es.length<=594:=hr.len;have hR:=hr.GD;simp only[Z6];have bH:=lA h2 r;obtain⟨h3,e3,l3,w3,o3⟩:=Tt av (Wo (List.replicate n (0,0,0)));have mk:=mkL h2 n NH;rw[e3]at mk;have al:=LG h3;obtain⟨h4,e4,l4,w4,o4⟩:=Tt w3 [.slice none 0 0];rw[e4]at al
 have st:=QB (P:=Tryz.prog) (t:=104) (x:=.slice (some ⟨h2.next,0,none⟩) n n) qS9 Ji o4 (off:=0) Ma rfl rfl
 have nV:h3.own h3.next=none:=(Le.refl h3).next w3 (qL0 _)
 have nL:h2.own h2.next=none:=(Le.refl h2).next av (qL0 _)
 have w5:=w4.put (.cells ([Value.slice none 0 0].set 0 (.slice (some ⟨h2.next,0,none⟩) n n))) (w4.lt o4)
 have l5:=(l3.trans l4).put (.cells ([Value.slice none 0 0].set 0 (.slice (some ⟨h2.next,0,none⟩) n n))) (l3.none nV)
 have ae:=AHeap.Y3 h4 h3.next (.cells ([Value.slice none 0 0].set 0 (.slice (some ⟨h2.next,0,none⟩) n n)))
 have ne:h3.next≠h2.next:=fun e=>by grind
 have ay:(h4.put h3.next (.cells ([Value.slice none 0 0].set 0 (.slice (some ⟨h2.next,0,none⟩) n n)))).own h2.next=some (.cells (Wo (List.replicate n (0,0,0)))):=by grind [AHeap.By,Le.own]
 have bI:=l3.none nV;simp only[HO,Nat.reduceLT,↓reduceIte,Nat.reduceEqDiff,reduceCtorEq,Ii,Ip,BS,bH.2.1,mk,al,st];clear st al mk e4 o4 e3 o3
 generalize h4.put h3.next (.cells ([Value.slice none 0 0].set 0 (.slice (some ⟨h2.next,0,none⟩) n n)))=I at*
 generalize h3.next=q at*
 generalize h2.next=L at*
 clear l3 w3 nV w4 l4;clear h3 h4;simp only[List.set_cons_zero]at ae;have az:=lA I (r.trans l5);obtain⟨h6,e6,l6,w6,o6⟩:=Tt w5 (List.replicate n (.int .i64 0));have mk:=mkCap I n NH;rw[e6]at mk;have aC:=lA h6 ((r.trans l5).trans l6)
 have nO:I.own I.next=none:=(Le.refl I).next w5 (qL0 _)
 simp only[HO,Nat.reduceLT,↓reduceIte,Nat.reduceEqDiff,reduceCtorEq,Ii,Ip,BS,az.2.1,mk,aC.2.1]
 have S6:TP h2 h6 q L n (.slice (some ⟨I.next,0,none⟩) 0 n) (metM n es 0).1 (metM n es 0).2:=
  ⟨l6.own _ _ ae,l6.own _ _ ay,GU.cap o6 NH,⟨fun e=>(by injection e with e;grind),fun e=>(by injection e with e;grind)⟩,l5.trans l6,⟨bI,nL,ne⟩,fun b hb=>by injection hb with hb;grind [Le.none]⟩
 generalize Value.slice (some ⟨I.next,0,none⟩) 0 n=ag at*
 clear nO aC mk o6 l6 e6 az l5 ay ae w5;refine aab.intro (fun k fr A=>∃(i:Nat) (m:Value),k=n-i/\i<=n/\fr=mkF [(1,.pointer (some ⟨B,0,none⟩)),(5,.pointer (some ⟨q,0,none⟩)),(6,m),(30,.int .i64 n),(31,.int .i64 i)]/\TP h2 A q L n m (metM n es i).1 (metM n es i).2)
  n [(1,.pointer (some ⟨B,0,none⟩)),(5,.pointer (some ⟨q,0,none⟩)),(6,ag),(30,.int .i64 n),(31,.int .i64 (0:Nat))] fD ⟨0,ag,rfl,aal _,rfl,S6⟩ ?_
 clear S6 ag w6;clear h6 I;rintro k fr A J ⟨i,m,rfl,hi,rfl,S⟩;obtain⟨C,aD⟩:=ZC hR i hi;have s:=fun(g:AHeap) (o:g.own q=some (.cells [.slice (some ⟨L,0,none⟩) n n]))=>(Fq (P:=Tryz.prog) qS9 rfl o (off:=0):aload Tryz.prog g 104 ⟨q,0,none⟩=_);simp only[OM]at s;refine Uy ?_;refine Kl.intro (fun Z=>?_) (fun hf=>?_)
 .have f : i < n := CC Z
  clear Z;have bN:=Nh S.oL (V0 (ls:=(metM n es i).1) (v:=i) (by rw[C.len];exact f));simp only[HO,Nat.reduceLT,↓reduceIte,Nat.reduceEqDiff,reduceCtorEq,s A S.oV,Is i f,fl0,Ip,bC,bN,bne];by_cases c:(Ro (metM n es i).1 i).1=0
  .have K := lA A (r.trans S.le)
   simp only[HO,Nat.reduceLT,↓reduceIte,Nat.reduceEqDiff,reduceCtorEq,c,K.1];refine TC.intro PJ ⟨Tryz.func129,rfl,WY⟩ (YX W0 _ n i es A (ar.le ((T.trans r).trans S.le)) hr f) ?_;rintro x h7 w7 ⟨R,U,P,up,rfl,gw,⟨oU,nbU,nU⟩,D,l7,aw⟩;have S7:=S.kept l7;obtain⟨p1,p2⟩:=TY hR C f c;have aH:=D.KP.upR hR f;have cP:=D.KP.len.2;have y:metM n es (i+1)=putA up P (metM n es i):=by grind [Oc.eq,metM.eq_2,jl.eq_1]
   obtain⟨e1,-⟩:=D.eq hR f;rw[<-e1]at p1 p2;clear e1 D;have cR:P.length<=n:=by
    have:=p1.length_le_of_subset (l₂:=List.range n) fun x hx=>uV.2 (p2 x hx).1
    grind
   have cU:U≠L/\U≠q:=⟨fun e=>(by rw[e,S.oL]at nU;cases nU),fun e=>(by grind [TP.oV])⟩;have bQ:blk R≠some L/\blk R≠some q:=⟨fun e=>(by have:=aw _ e;rw[S.oL]at this;cases this),fun e=>(by have:=aw _ e;grind [TP.oV])⟩;have V:blk m≠some U:=fun e=>by
    obtain⟨c,hc⟩:=GT.Sy S.go e
    grind
   have W:∀b,blk R=some b->blk m≠some b:=fun b hb e=>by
    obtain⟨c,hc⟩:=GT.Sy S.go e;rw[aw b hb]at hc;cases hc
   have lo:=fun g=>gw.rl.Uc g;rw[y6]at lo;simp only[HO,Nat.reduceLT,↓reduceIte,Nat.reduceEqDiff,reduceCtorEq,bne,lo];refine aab.intro (fun k fr hh=>∃(j:Nat) (z:Value),k=P.length-j/\j<=P.length/\fr=mkF [(1,.pointer (some ⟨B,0,none⟩)),(5,.pointer (some ⟨q,0,none⟩)),(6,z),(9,.slice (some ⟨U,0,none⟩) n n),(30,.int .i64 n),(31,.int .i64 i),(50,R),(51,.int .i64 P.length),(52,.int .i64 j)]/\
     TP h2 hh q L n z (putA up (P.take j) (metM n es i)).1 (putA up (P.take j) (metM n es i)).2/\GI hh R (aaa P)/\hh.own U=some (.cells (Bp up))/\blk z≠some U/\(∀b,blk R=some b->blk z≠some b))
    P.length [(1,.pointer (some ⟨B,0,none⟩)),(5,.pointer (some ⟨q,0,none⟩)),(6,m),(9,.slice (some ⟨U,0,none⟩) n n),(30,.int .i64 n),(31,.int .i64 i),(50,R),(51,.int .i64 P.length),(52,.int .i64 (0:Nat))] fD
    ⟨0,m,rfl,aal _,rfl,S7,gw,oU,V,W⟩ ?_
   clear S7 oU gw l7 w7 lo V W aw nU S K;clear h7;rintro k fr hh bW ⟨j,z,rfl,hj,rfl,S,gw,oU,V,W⟩;obtain⟨LI,-⟩:=Rx aH (P.take j) C.toLowI (p1.sublist (List.take_sublist _ _)) fun v hv=>p2 v (IK hv);have bZ:(putA up (P.take j) (metM n es i)).2.length<=n:=LI.Em;have aJ:(putA up (P.take j) (metM n es i)).1.length=n:=LI.len;refine Uy ?_;refine Kl.intro (fun Z=>?_) (fun hf=>?_)
   .have F : j < P.length := CC Z
    clear Z;have aK:=CA F;have ad:=gw.rl.TA j (by rw[y6];exact F);have ld:=gw.rl.DH j (by rw[y6];exact F);rw[sY F]at ld;have X:P.take (j+1)=P.take j++[P[j]]:=EL F;generalize P[j]=w at aK ld X;have aP:w<n:=(p2 w (Gc aK)).1;obtain⟨v',h4,I,e4,e5,Y,w5,k5⟩:=S.push bW w NH;obtain⟨b0,aT⟩:=k5 U _ oU V;have b2:GI I R (aaa P):=GS.kept gw fun b o hb ho=>(k5 b o ho (W b hb)).1;have aW:∀b,blk R=some b->blk v'≠some b:=fun b hb=>by
     have:=GS.Sy gw hb;cases ho:hh.own b<;>grind
    have aX:=fun g=>Y.go.rl.Uc g;simp only[y6,vZ,AQ]at aX;have b3:=fun k=>Wc (P:=Tryz.prog) (a:=⟨U,0,none⟩) (n:=n) (cap:=n) (k:=k) Ac Mb Ji w aP;have b4:aload Tryz.prog I 3 ⟨U,w,none⟩=some (.int .i64 (up.getD w 0)):=by
     rw[Fq Mb rfl b0]
     grind [Bp]
    have st:=sAll Y.oL (v:=w) (by grind) (((((putA up (P.take j) (metM n es i)).2.length+1:Nat):Int),up.getD w 0,(((putA up (P.take j) (metM n es i)).2.length+1:Nat):Int)));simp only[HO,Nat.reduceLT,↓reduceIte,Nat.reduceEqDiff,reduceCtorEq,ad,ld,e4,e5];refine gh (tA [0,1,2,3,4,5,6,7,8,9,10,11] (JQ 12 [0,1,2,3,4,5,6,7,8,9,10,11] .done)) ?_;simp only[HO,Nat.reduceLT,↓reduceIte,Nat.reduceEqDiff,reduceCtorEq,Nat.reduceBEq,Qg,s I Y.oV,aX,b3,b4,Is w aP,Ip,BS,bL,st,Tw j NH];have aj:putA up (P.take (j+1)) (metM n es i)=((putA up (P.take j) (metM n es i)).1.set w (((((putA up (P.take j) (metM n es i)).2.length+1:Nat):Int),up.getD w 0,(((putA up (P.take j) (metM n es i)).2.length+1:Nat):Int))),(putA up (P.take j) (metM n es i)).2++[w]):=by rw[X,Ze];rfl
    have S6:=Y.put ((putA up (P.take j) (metM n es i)).1.set w (((((putA up (P.take j) (metM n es i)).2.length+1:Nat):Int),up.getD w 0,(((putA up (P.take j) (metM n es i)).2.length+1:Nat):Int))));refine tn (P.length-(j+1)) [(1,.pointer (some ⟨B,0,none⟩)),(5,.pointer (some ⟨q,0,none⟩)),(6,v'),(9,.slice (some ⟨U,0,none⟩) n n),(30,.int .i64 n),(31,.int .i64 i),(50,R),(51,.int .i64 P.length),(52,.int .i64 (j+1:Nat))] NH fD
     ⟨j+1,v',rfl,F,rfl,(by grind),GS.put b2 _ bQ.1,by grind [AHeap.By],aT,aW⟩
   .have H : P.length <= j := vp hf
    rw[IE H,<-y]at S;simp only[HO,Nat.reduceLT,↓reduceIte,Nat.reduceEqDiff,reduceCtorEq,Tw i NH];exact tn (n-(i+1)) [(1,.pointer (some ⟨B,0,none⟩)),(5,.pointer (some ⟨q,0,none⟩)),(6,z),(30,.int .i64 n),(31,.int .i64 (i+1:Nat))] NH fD ⟨i+1,z,rfl,f,rfl,S⟩
  .have y : metM n es (i + 1) = metM n es i := by rw [metM, jl, if_neg c]
   simp only[HO,Nat.reduceLT,↓reduceIte,Nat.reduceEqDiff,reduceCtorEq,c,Tw i NH];exact tn (n-(i+1)) [(1,.pointer (some ⟨B,0,none⟩)),(5,.pointer (some ⟨q,0,none⟩)),(6,m),(30,.int .i64 n),(31,.int .i64 (i+1:Nat))] NH fD ⟨i+1,m,rfl,f,rfl,by rw[y];exact S⟩
 have H:n<=i:=vp hf;obtain rfl:i=n:=NH;clear hf H hi aD;have K:=lA A (r.trans S.le);have b5:=hp.le (T.trans r);simp only[HO,Nat.reduceLT,↓reduceIte,Nat.reduceEqDiff,reduceCtorEq,Di,Ip,BS,K.2.2,hp.len];refine aab.intro (fun k fr hh=>∃(j:Nat),k=es.length-j/\j<=es.length/\fr=mkF [(5,.pointer (some ⟨q,0,none⟩)),(6,m),(75,ev),(76,.int .i64 es.length),(77,.int .i64 j)]/\TP h2 hh q L i m ((es.take j).foldl bS (metM i es i).1) (metM i es i).2)
  es.length [(5,.pointer (some ⟨q,0,none⟩)),(6,m),(75,ev),(76,.int .i64 es.length),(77,.int .i64 (0:Nat))] fD ⟨0,rfl,aal _,rfl,S⟩ ?_
 clear K S J;clear A;rintro k fr A J ⟨j,rfl,hj,rfl,S⟩;have aJ:((es.take j).foldl bS (metM i es i).1).length=i:=by rw[OQ];exact C.len
 refine Uy ?_;refine Kl.intro (fun Z=>?_) (fun hf=>?_)
 .have f : j < es.length := CC Z
  clear Z;have a6:=CA f;have X:es.take (j+1)=es.take j++[es[j]]:=EL f;have M:=hR es[j] (Og f);generalize es[j]=p at a6 X M;have ad:=hp.addr (k:=.i64) j f;have ld:=(b5.le S.le).load a6;obtain⟨a,c⟩:=p;simp only at M;obtain⟨a,rfl⟩:=yY M.1;obtain⟨c,rfl⟩:=yY (show 0<=c by omega);obtain⟨cZ,h4,e4,b6,b8,c0,o4⟩:=Ut J ((a:Int),(c:Int));have S4:=S.kept b8
  have nE:A.own A.next=none:=(Le.refl A).next J (qL0 _)
  have c3:A.next≠L:=fun e=>by rw[e,S.oL]at nE;cases nE
  generalize A.next=E at*
  have N:=lK o4;have Q:=HY o4;simp only at N Q;have b9:a<i:=NH;have cc:c<i:=NH;generalize c4:(es.take j).foldl bS (metM i es i).1=ls at*;have ga:=V0 (ls:=ls) (v:=a) NH;have gc:=V0 (ls:=ls) (v:=c) NH;have st1:=sLow S4.oL ga (min (Ro ls a).2.2 (Ro ls c).1);have Y:=S4.put (ls.set a ((Ro ls a).1,(Ro ls a).2.1,min (Ro ls a).2.2 (Ro ls c).1));generalize a7:ls.set a ((Ro ls a).1,(Ro ls a).2.1,min (Ro ls a).2.2 (Ro ls c).1)=l at*;have cE:l.length=i:=pw;have cd:=V0 (ls:=l) (v:=a) NH;have a8:=V0 (ls:=l) (v:=c) NH;have st2:=sLow Y.oL a8 (min (Ro l c).2.2 (Ro l a).1);have S6:=Y.put (l.set c ((Ro l c).1,(Ro l c).2.1,min (Ro l c).2.2 (Ro l a).1))
  have hB:bS ls ((a:Int),(c:Int))=if(Ro ls a).2.1=(c:Int)\/(Ro ls c).2.1=(a:Int)then ls else l.set c ((Ro l c).1,(Ro l c).2.1,min (Ro l c).2.2 (Ro l a).1):=by simp only[bS,Z6,a7]
  have cf:(es.take (j+1)).foldl bS (metM i es i).1=bS ls ((a:Int),(c:Int)):=pw;simp only[HO,Nat.reduceLT,↓reduceIte,Nat.reduceEqDiff,reduceCtorEq,ad,ld,e4,b6];refine gh (tA [0,1,2,3,4,5,6,7,8,9] .done) ?_;simp only[HO,Nat.reduceLT,↓reduceIte,Nat.reduceEqDiff,reduceCtorEq,Nat.reduceBEq,Qg,Dh,Z0,Ip,bC,BS,N,Q,s h4 S4.oV,Is a b9,Is c cc];have u1:=lUp S4.oL ga;have u2:=lUp S4.oL gc;by_cases c1:(Ro ls a).2.1=(c:Int)
  .have d1 : decide ((Ro ls a).2.1 = (c : Int)) = true := decide_eq_true c1
   refine gh (tA [0,1,2,3,4,5,6,7,8,9,10,11,12,13,14,15] .done) ?_;simp only[HO,Nat.reduceLT,↓reduceIte,Nat.reduceEqDiff,reduceCtorEq,Nat.reduceBEq,Qg,Dh,Z0,Ip,bC,BS,N,Q,fl0,fl1,fl2,u1,u2,d1,Tw j NH];refine tn (es.length-(j+1)) [(5,.pointer (some ⟨q,0,none⟩)),(6,m),(75,ev),(76,.int .i64 es.length),(77,.int .i64 (j+1:Nat))] NH fD ⟨j+1,rfl,f,rfl,?_⟩
   grind
  have d1:decide ((Ro ls a).2.1=(c:Int))=false:=decide_eq_false c1;by_cases c2:(Ro ls c).2.1=(a:Int)
  .have d2 : decide ((Ro ls c).2.1 = (a : Int)) = true := decide_eq_true c2
   refine gh (tA [0,1,2,3,4,5,6,7,8,9,10,11,12,13,14,15] .done) ?_;simp only[HO,Nat.reduceLT,↓reduceIte,Nat.reduceEqDiff,reduceCtorEq,Nat.reduceBEq,Qg,Dh,Z0,Ip,bC,BS,N,Q,fl0,fl1,fl2,u1,u2,d1,d2,Tw j NH];refine tn (es.length-(j+1)) [(5,.pointer (some ⟨q,0,none⟩)),(6,m),(75,ev),(76,.int .i64 es.length),(77,.int .i64 (j+1:Nat))] NH fD ⟨j+1,rfl,f,rfl,?_⟩
   grind
  have d2:decide ((Ro ls c).2.1=(a:Int))=false:=decide_eq_false c2;refine gh (tA [0,1,2,3,4,5,6,7,8,9,10,11,12,13,14,15] .done) ?_;simp only[HO,Nat.reduceLT,↓reduceIte,Nat.reduceEqDiff,reduceCtorEq,Nat.reduceBEq,Qg,Dh,Z0,Ip,bC,BS,N,Q,fl0,fl1,fl2,u1,u2,d1,d2];refine gh (tA [0,1,2,3,4,5,6,7,8,9,10,11] (JQ 12 [0,1,2,3,4,5,6,7,8,9,11] .done)) ?_;simp only[HO,Nat.reduceLT,↓reduceIte,Nat.reduceEqDiff,reduceCtorEq,Nat.reduceBEq,Qg,Ip,bC,BS,fl0,fl1,fl2,jA S4.oL ga,Nh S4.oL gc,Dv,st1];refine gh (tA [0,1,2,3,4,5,6,7,8,9,10,11] (JQ 12 [0,1,2,3,4,5,6,7,8,9,11] .done)) ?_;simp only[HO,Nat.reduceLT,↓reduceIte,Nat.reduceEqDiff,reduceCtorEq,Nat.reduceBEq,Qg,Ip,bC,BS,fl0,fl1,fl2,jA Y.oL a8,Nh Y.oL cd,Dv,st2,Tw j NH];refine tn (es.length-(j+1)) [(5,.pointer (some ⟨q,0,none⟩)),(6,m),(75,ev),(76,.int .i64 es.length),(77,.int .i64 (j+1:Nat))] NH fD ⟨j+1,rfl,f,rfl,?_⟩
  grind
 have H:es.length<=j:=vp hf;rw[IE H]at S aJ;clear H hf hj;refine Uy ?_;refine TC.intro PJ ⟨Tryz.func130,rfl,WY⟩ (ME W0 m (aaa (metM i es i).2) A S.go.rl) ?_;rintro x h7 w7 ⟨B2,rfl,c5,cg,l7⟩;have S7:=S.kept l7;have c6:B2≠L:=fun e=>by have:=J.lt S.oL;omega
 have bZ:(metM i es i).2.length<=i:=C.toLowI.Em;have ck:(aaa (metM i es i).2).length=(metM i es i).2.length:=y6 _;have bg:∀v∈(metM i es i).2,v<i:=C.lt;generalize hO:(metM i es i).2=O at*;have cM:Jz i es=(O.reverse.foldl Ke (es.foldl bS (metM i es i).1),O):=by rw[Jz,hO]
 have bh:∀v,v<i->(Ro (es.foldl bS (metM i es i).1) v).2.1<(i:Int):=fun v hv=>by rw[(RK es _ v).2];exact C.up v hv
 generalize es.foldl bS (metM i es i).1=LS at*;refine Uy ?_
 refine VK.rangeFunc (gf:=166) (first:=#[]) (cap:=#[.pointer (some ⟨B2,0,none⟩)]) (by simp only[HO,Nat.reduceLT,↓reduceIte,Nat.reduceEqDiff,reduceCtorEq]) ⟨Tryz.func166,rfl,WY⟩ WY fun W1 lp hy=>?_
 refine(Tp W1 lp B2 m (aaa O) (fun k g=>TP h2 g q L i m (((O.drop k).reverse).foldl Ke LS) O/\g.own B2=some (.cells [m])) h7 NH (fun k g hi=>⟨hi.2,hi.1.go.rl⟩) ⟨(by grind),cg⟩ ?_).mono fun _ h8 cm c9=>?_
 .intro k g hk wg hle cp
  obtain⟨S,oB⟩:=cp;refine hy _ _ _ rfl hle ?_;rw[ck]at hk;have bk:=sY hk;have bm:=CA hk;have bo:O.drop k=O[k]::O.drop (k+1):=Qn hk;generalize O[k]=v at bk bm bo;have aq:=bg v (Gc bm);have aj:(O.drop k).reverse.foldl Ke LS=Ke ((O.drop (k+1)).reverse.foldl Ke LS) v:=by rw[bo,List.reverse_cons,aeG];rfl
  have a7:((O.drop (k+1)).reverse.foldl Ke LS).length=i:=by grind [Qp]
  have br:=(mE (O.drop (k+1)).reverse LS v).2;have cq:=bh v aq;rw[<-br]at cq;clear br;generalize (O.drop (k+1)).reverse.foldl Ke LS=ls at*;have gv:=V0 (ls:=ls) (v:=v) NH;simp only[HO,Nat.reduceLT,↓reduceIte,Nat.reduceEqDiff,reduceCtorEq,List.toList_toArray,putPs,bk,s g S.oV,Is v aq,fl1,Ip,lUp S.oL gv];by_cases c:(Ro ls v).2.1>=0
  .obtain ⟨u, hu⟩ := yY c
   have cx:u<i:=NH;have gu:=V0 (ls:=ls) (v:=u) NH;have st:=sLow S.oL gu (min (Ro ls u).2.2 (Ro ls v).2.2);have da:Ke ls v=ls.set u ((Ro ls u).1,(Ro ls u).2.1,min (Ro ls u).2.2 (Ro ls v).2.2):=by grind [Ke,Int.toNat_natCast]
   have d:decide ((u:Int)>=0)=true:=decide_eq_true NH;simp only[hu,d,HO,Nat.reduceLT,↓reduceIte,Nat.reduceEqDiff,reduceCtorEq];refine gh (tA [0,1,2,3,4,5,6,7,8,9,10,11,12,13,14] (JQ 15 [0,1,2,3,4,5,6,7,8,9,10,11,12,14] .done)) ?_;simp only[HO,Nat.reduceLT,↓reduceIte,Nat.reduceEqDiff,reduceCtorEq,Nat.reduceBEq,Qg,s g S.oV,Is v aq,Is u cx,fl2,Ip,jA S.oL gu,jA S.oL gv,Dv,st,aB];refine⟨hle,?_,?_⟩
   .grind [TP.put]
   grind [AHeap.By]
  .have d : decide ((Ro ls v).2.1 >= 0) = false := decide_eq_false c
   simp only[d,HO,Nat.reduceLT,↓reduceIte,Nat.reduceEqDiff,reduceCtorEq,aB]
   grind [Ke.eq_1]
 .obtain ⟨S8, -⟩ := cm
  rw[agi]at S8;simp only[HO,Nat.reduceLT,↓reduceIte,Nat.reduceEqDiff,reduceCtorEq,s h8 S8.oV];have lb:Le h h2:=T.trans r;refine⟨lb.trans S8.le,.inr ⟨hr,L,m,rfl,by grind [TP.oL],lb.none nL,by grind [TP.go],S8.nb.2,fun b hb=>lb.none (S8.ao b hb)⟩⟩
end
end Go.Fw
