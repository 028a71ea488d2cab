/- A text. -/
import Derived.Test.YtnakkbhjoiheoaaGreatFwLZ7
import Derived.Test.YtnakkbhjoiheoaaGreatFwLBR
set_option linter.all false
set_option maxRecDepth 99999
set_option maxHeartbeats 9999999
open Go.Proofs
open Option renaming some→Z,none→Y
open Bool renaming true→tT,false→fF
open List renaming replicate→rP,range→rG
open Go.Value renaming slice→sL,pointer→pT
open Go renaming Value→vV
open Go.Proofs.Tryz renaming prog→pG
open Go.Proofs.Tryz
namespace Go.Fw
def fT(v:vV)(i:Nat):Addr:=aaq v (i*3)
def alloc45'(h:aai):abO pG h 49=Z (pT (Z h.next),h.alloc (.cells [.int .i64 0,.int .i64 0])):=rfl
structure AtS (n:Int) (es:xLP) (bs:List xLP):Prop where
 ne:∀b∈bs,b≠[]
 right:∀b∈bs,bX ⟨n,b⟩
 q9:∀(i:Nat) b b' p q,bs[i]?=Z b->bs[i+1]?=Z b'->b[0]?=Z p->b'[0]?=Z q->p.1<q.1\/p.1=q.1/\p.2<q.2
 mem:∀b∈bs,∀p∈b,p∈es
 TE:∀(i j:Nat) b b' p,bs[i]?=Z b->bs[j]?=Z b'->p∈b->p∈b'->i=j
 all:∀p∈es,∃b∈bs,p∈b
 len:bs.length<=1000
def Met(bs:List xLP)(i j:Nat)(p:Pr)(x:Int):Prop:=∃(k:Nat)(b:xLP),bs[k]?=Z b/\x=(k:Int)/\(k<i/\p∈b\/k=i/\p∈b.take j)
variable {b es:List Pr} {i n:Nat} {p:Pr}
theorem Nl:D3 es↔es.Pairwise fun x y=>x.1<y.1\/x.1=y.1/\x.2<y.2:=by
 rw[qH];constructor
 .intro ha i j hi b a;exact ha.lt a (XJ hi) (XJ b)
 .intro h i j p q a hi b;obtain⟨a1,a2⟩:=Ny.1 hi;obtain⟨d,c⟩:=Ny.1 b;rw[Hv,<-a2,<-c];grind
theorem bX.of(a:n<=200)(c:es.length<=594)(d:aV n es)(ha:D3 es):bX ⟨(n:Int),es⟩:=⟨Ma,hGr,c,fun i hi p b=>⟨d p (BS b),fun q f e=>ha (i-1) i q p NH e b⟩⟩
theorem bX.sub{es a:xLP}(h:bX ⟨(n:Int),es⟩)(hs:a.Sublist es):bX ⟨(n:Int),a⟩:=bX.of (by have:(n:Int)<=200:=h.n1;omega) (EP hs.length_le h.len) (fun p b=>h.GD p (hs.subset b)) (Nl.2 ((Nl.1 h.q9).sublist hs))
theorem Jh(h:(vq n es)[i]?=Z b):∃k,(CY (cQ n es) es)[i]?=Z k/\b=es.filter fun p=>decide (cQ n es p=k):=by grind[aaB]
theorem blocks_in(h:(vq n es)[i]?=Z b){k:Int}(a:(CY (cQ n es) es)[i]?=Z k):p∈b↔p∈es/\cQ n es p=k:=by grind[Jh]
theorem XF(h:bX ⟨(n:Int),es⟩):AtS (n:Int) es (vq n es):=by
 obtain⟨nd,c⟩:=ahE (cQ n es) _ es rfl;have l:∀b∈vq n es,b≠[]:=fun b hb=>by obtain⟨i,hi⟩:=vZ.1 hb;obtain⟨k,m,rfl⟩:=Jh hi;obtain⟨p,d,e⟩:=(c k).1 (BS m);have:p∈es.filter fun p=>decide (cQ n es p=k):=hGr;grind
 refine⟨l,fun b hb=>?_,fun i b B p q hb sZ d C=>?_,fun b hb p d=>?_,fun i j b B p hb sZ d D=>?_,fun p d=>?_,?_⟩
 .grind[List.mem_iff_getElem?,Jh,bX.sub,List.filter_sublist]
 .obtain⟨k,m,e⟩:=Jh hb;obtain⟨E,f,e'⟩:=Jh sZ;obtain⟨x,r,w,h2,h3⟩:=fk_first (cQ n es) _ es rfl i (i+1) k E NH m f;have g:=(blocks_in sZ f).1 (BS C);obtain⟨y,A⟩:=vZ.1 g.1;have o:=h3 y q A g.2;have s:=h.q9.lt o w A;have a:r∈b:=by grind[List.mem_of_getElem?]
  have u:b.Pairwise fun x y=>x.1<y.1\/x.1=y.1/\x.2<y.2:=by rw[e];exact(Nl.1 h.q9).filter _
  cases b with
  |nil=>cases a
  |cons z t=>
   simp at d;subst d;rw[acg]at u;rw[Og]at a;rcases a with rfl|a
   .exact s
   grind
 .grind[List.mem_iff_getElem?,Jh]
 .grind[Jh,List.getElem?_inj]
 .obtain⟨i,hi⟩:=vZ.1 ((c _).2 ⟨p,d,rfl⟩);have v:(vq n es)[i]?=Z (es.filter fun q=>decide (cQ n es q=cQ n es p)):=by grind[aaB]
  exact⟨_,BS v,hGr⟩
 .rw[aaB,fj];have w:(CY (cQ n es) es).length<=(es.map (cQ n es)).length:=nd.length_le_of_subset hGr;have h2:es.length<=594:=h.len;grind
theorem Zg(d:bX ⟨(n:Int),es⟩)(e:p∈es):∃(k:Nat)(b:xLP),(vq n es)[k]?=Z b/\p∈b/\Met (vq n es) (vq n es).length 0 p (k:Int):=by obtain⟨b,hb,a⟩:=(XF d).all p e;obtain⟨k,c⟩:=vZ.1 hb;exact⟨k,b,c,a,k,b,c,rfl,.inl ⟨(Ny.1 c).1,a⟩⟩
def AN(v:Int)(p:Pr):Bool:=decide (p.1=v)||decide (p.2=v)
def woV(es:xLP)(v:Nat):xLP:=es.filter fun p=>!AN (v:Int) p
theorem rI{v x y:Nat}:Jp (woV es v) x y↔Jp es x y/\x≠v/\y≠v:=by grind[Jp,woV,AN]
theorem woV_con{v a b:Nat}(ha:a≠v):Pu (woV es v) a b↔Cn (wo v) es a b:=by
 constructor
 .intro h
  induction h with
  |refl _=>exact .refl (iO ha)
  |step _ a _ d=>exact d.step (rI.1 a).1 (by grind[rI])
 .intro h
  induction h with
  |refl _=>grind[Pu.refl]
  |step c a o d=>exact .step d (by grind[rI,Cn.AB]) rfl
theorem ends(e:aV n es)(d:p∈es):∃a c:Nat,p=((a:Int),(c:Int))/\a<c/\c<n/\Jp es a c:=by have b:=e p d;obtain⟨x,y⟩:=p;obtain⟨a,rfl⟩:=Sb b.1;obtain⟨c,rfl⟩:=Sb (show 0<=y by omega);exact⟨a,c,rfl,NH,NH,.inl d⟩
variable {h:aai} {ps:List Pr} {v:Value}
def Ct(v:vV)(n:Nat):Prop:=∃a cap,v=.slice a n cap/\((cap<UNK/\n<=cap)\/(cap=UNK+2/\a.isSome))
theorem GP.ct(g:GP h v ps):Ct v ps.length:=by
 obtain⟨_,⟨rfl,b⟩|⟨id,c,cap,rfl,_,_,a⟩⟩:=g
 .exact⟨Y,0,by rw[b],.inl ⟨WY,NH⟩⟩
 .refine⟨_,cap,rfl,?_⟩;rcases a with a|⟨rfl,d⟩
  .exact hGr
  .exact .inl ⟨PN d WY,qL0 _⟩
theorem afq(ps:xLP)(i:Nat):Iu (ps.take i)=(Iu ps).take (i*2):=by
 induction ps generalizing i with
 |nil=>simp[Iu]
 |cons p ps a=>
  cases i with
  |zero=>simp[Iu]
  |succ i=>have e:Iu (p::ps)=.int .i64 p.1::.int .i64 p.2::Iu ps:=rfl;have e':Iu (p::ps.take i)=.int .i64 p.1::.int .i64 p.2::Iu (ps.take i):=rfl;rw[adE,e',e,a,show(i+1)*2=i*2+1+1 by omega,adE,adE]
theorem za(ps:xLP)(i:Nat):Iu (ps.drop i)=(Iu ps).drop (i*2):=by
 induction ps generalizing i with
 |nil=>simp[Iu]
 |cons p ps a=>
  cases i with
  |zero=>simp[Iu]
  |succ i=>have e:Iu (p::ps)=.int .i64 p.1::.int .i64 p.2::Iu ps:=rfl;grind
variable {l:II} {x:Nat}
theorem KH{v x:Nat}(h:Pu es v x)(g:x≠v):∃a,Jp es v a/\Pu (woV es v) a x:=by
 induction h with
 |refl _=>grind
 |@step w x c a _ d=>
  by_cases e:w=v
  .grind[Pu.refl]
  .obtain⟨b,hb,f⟩:=d e;exact⟨b,hb,.step f (by grind[rI]) rfl⟩
theorem MS{α:Type}(p:α->Bool):∀(l:List α),l.length=(l.filter p).length+(l.filter fun x=>!p x).length
 |[]=>rfl
 |x::l=>by have:=MS p l;grind
theorem Cq(nd:l.Nodup)(c:x∈l)(h:∀y∈l,y=x):l.length=1:=by
 cases l with
 |nil=>cases c
 |cons a l=>
  cases l with
  |nil=>rfl
  |cons b l=>have d:=h a Ma;have h2:=h b Ma;grind
def jo(p:Pr)(v:Int):Int:=if p.1=v then p.2 else if p.2=v then p.1 else-1
theorem XH(d:aV n es)(e:p∈es)(v:Nat):
  (∃a:Nat,a<n/\jo p (v:Int)=(a:Int)/\Jp es v a/\p=GW v a)\/(jo p (v:Int)=-1/\∀a,p≠GW v a):=by
 obtain⟨a,c,rfl,f,g,b⟩:=ends d e;unfold jo;by_cases h:a=v
 .grind[bj]
 .by_cases h2:c=v
  .grind[Jp.symm,bj]
  .grind[bj]
variable {a v:Nat} {k:Int} {α:Type}
theorem Yt{l:List α}(nd:l.Nodup):1<l.length↔∃x y,x∈l/\y∈l/\x≠y:=by
 constructor
 .intro h
  match l,h with
  |x::y::r,_=>rw[jz]at nd;exact⟨x,y,Ma,Ma,hGr⟩
 .rintro⟨x,y,c,e,d⟩
  match l with
  |[]=>cases c
  |[a]=>grind
  |a::b::r=>simp
def atB(v:Int)(b:xLP):Bool:=b.any (AN v)
theorem inc_pair(b:aV n es)(c:p∈es)(h:AN (v:Int) p=tT):∃a,Jp es v a/\p=GW v a:=by
 rcases XH b c v with⟨a,_,_,d,h2⟩|⟨d,_⟩
 .grind
 .have:=b p c;grind[jo,AN]
theorem zo:AN (v:Int) (GW v a)=tT:=by grind[AN,GW]
theorem at_iff(b:aV n es):atB (v:Int) (es.filter fun p=>decide (cQ n es p=k))=tT↔∃a,Jp es v a/\cQ n es (GW v a)=k:=by grind[atB,inc_pair,T0,zo]
def Sq(n:Nat)(es:xLP)(v:Nat):Nat:=((vq n es).filter (atB (v:Int))).length
def I7(n:Nat)(es:xLP)(v:Nat):RZ:=(CY (cQ n es) es).filter fun k=>atB (v:Int) (es.filter fun p=>decide (cQ n es p=k))
def JW(n:Nat)(es:xLP)(v:Nat):Sq n es v=(I7 n es v).length:=by rw[Sq,aaB,qL218,fj];rfl
theorem PS(n:Nat)(es:xLP)(v:Nat):(I7 n es v).Nodup:=(ahE (cQ n es) _ es rfl).1.sublist N8
theorem dG(b:aV n es):k∈I7 n es v↔∃a,Jp es v a/\cQ n es (GW v a)=k:=by rw[I7,Uz,at_iff b];refine⟨fun h=>h.2,fun⟨a,ha,c⟩=>⟨((ahE (cQ n es) _ es rfl).2 k).2 (by grind[T0]),a,ha,c⟩⟩
theorem YH(c:aV n es)(v:Nat):1<Sq n es v↔Fo.Cut2 es v:=by
 rw[JW,Yt (PS n es v)];constructor
 .rintro⟨x,y,d,f,g⟩;obtain⟨a,ha,rfl⟩:=(dG c).1 d;obtain⟨b,hb,rfl⟩:=(dG c).1 f;exact⟨a,b,ha,hb,(by grind[dR])⟩
 .rintro⟨a,b,ha,hb,h⟩;exact⟨_,_,(dG c).2 ⟨a,ha,rfl⟩,(dG c).2 ⟨b,hb,rfl⟩,fun e=>h ((dR c ha hb).1 e)⟩
section
attribute [local irreducible] Kp MQ lU KO1 KO KN KX KE VK Kl ZJ TC aab
variable {P:Program} {R id m:Nat} {c:List Value} {ev x:Value}
theorem append_in{t xt:TypeId}{k n n' id cap:Nat}{c news:xLV}(a:apT P t xt k=tT)(A:h.own id=Z (.cells c))(b:cap*k<=c.length)(d:cap<1000000000000)(hf:n+n'<=cap)(hs:∀e,UA P e=k->aby P h e x=Z (n',news))(p:news.all (·.oneCell')=tT)(f:news.length=n'*k)(hb:n+n'<=1000000000)(B:n'≠0):
  aaR P h t xt (sL (Z id) n cap) x=Z (sL (Z id) (n+n') cap,h.put id (.cells (putCells c (n*k) news))):=by
 unfold apT at a;split at a
 .rename_i e dx q r;split at a
  .rename_i z s;simp only[zx,beq_iff_eq,uV]at a;obtain⟨⟨⟨⟨⟨g,i⟩,hd⟩,j⟩,u⟩,l⟩:=a;have hs:=hs e u;have v:(n+n')*P.bytesOf e<=140737488355328:=EP (adN hb l) WY;have w:n+n'<=140737488355328:=NH;have o:z.cells.size=UA P e/\z.cells.toList.all (·.oneCell')/\(P.underlying e).isSome/\acL dx/\news.all (·.oneCell')/\(n+n')*P.bytesOf e<=140737488355328/\n+n'<=140737488355328/\news.length=n'*UA P e:=
    ⟨g,i,hd,j,p,v,w,hGr⟩
   have y:¬UNK<=cap:=aiM.2 (PN d WY);have m:n*k+news.length<=c.length:=by rw[f,<-aiL];exact EP (Gg _ hf) b
   simp only[aaR,q,r,s,hs];grind
  .cases a
 .cases a
theorem mkCapP(h:aai)(n:Nat)(f:n<=100000):∃c,abl pG h 22 (.int .i64 0) n=Z (sL (Z h.next) 0 n,h.alloc (.cells c))/\c.length=n*2:=by
 have g:acd pG 49=Z (.agg #[.int .i64 0,.int .i64 0]):=Ji;have b:(vV.agg #[.int .i64 0,.int .i64 0]).cells=#[.int .i64 0,.int .i64 0]:=rfl;have hb:pG.bytesOf 49=16:=Ji;have d:(16:Int)*n<=140737488355328:=NH;have e:(n:Int)<=140737488355328:=NH;have a:(acY [vV.int .i64 0,.int .i64 0] n).all (·.oneCell')=tT:=by
  clear d e f
  induction n with
  |zero=>rfl
  |succ n i=>simp only[acY,ai8,i,akP];rfl
 refine⟨acY [.int .i64 0,.int .i64 0] n,?_,by grind[jY]⟩;simp[abl,eY,qS8,g,b,hb,WE,flat,d,e,IF,a]
theorem push_in(hw:WF h)(l:h.own id=Z (.cells c))(A:c.length=m*2)(B:c.take (ps.length*2)=Iu ps)(q:ps.length<m)(C:m<=100000)(p:Pr):
  ∃a d,aas pG h 22 1 [(0,UI p)]=Z (sL (Z h.next) 1 1,a)/\aaR pG a 22 22 (sL (Z id) ps.length m) (sL (Z h.next) 1 1)=Z (sL (Z id) (ps.length+1) m,d)/\WF d/\
   (∃c',d.own id=Z (.cells c')/\c'.length=m*2/\c'.take ((ps++[p]).length*2)=Iu (ps++[p]))/\(∀f,Le f h->f.own id=Y->Le f d)/\(∀b o,h.own b=Z o->b≠id->d.own b=Z o):=by
 obtain⟨a,e4,l4,j,r⟩:=Tt hw (xM p)
 have s:PR a (sL (Z h.next) 1 1) [p]:=by have:=CS.own (k:=2) (off:=0) (n:=1) (cap:=1) r (by simp[xM]);exact this
 have g:=l4.own _ _ l
 have key:=append_in (P:=pG) (t:=22) (xt:=22) (k:=2) (n:=ps.length) (n':=1) (cap:=m) (x:=sL (Z h.next) 1 1) Ji g NH NH NH (fun e u=>CS.src u s) (WI [p]) (Ta [p]) NH NH
 have v:Iu [p]=xM p:=by simp[Iu]
 have i:ps.length*2+(Iu [p]).length<=c.length:=by grind[Ta]
 refine⟨a,_,by rw[mkP1,e4],key,j.put _ (j.lt g),⟨_,aai.Y3 _ _ _,by grind[O7],?_⟩,fun f w y=>(w.trans l4).put _ y,fun b o hb z=>?_⟩
 all_goals grind[Ta,IW,mZ,aai.By,Le.own]
def aib{x y:vV}{n:Int}(d:h.own R=Z (.cells [x,y]))(one:ev.oneCell'=tT)(b:ev.cells=#[ev]):aaK pG h 24 (pT (Z ⟨R,0,Y⟩)) (.agg #[.int .i64 n,ev])=Z (h.put R (.cells [.int .i64 n,ev])):=by
 have a:UA pG 24=2:=Ji;have e:(vV.agg #[.int .i64 n,ev]).cells=#[.int .i64 n,ev]:=by have c:(vV.int IntKind.i64 n).cells=#[.int .i64 n]:=rfl;simp[vV.cells,b]
 have c:(vV.int IntKind.i64 n).oneCell'=tT:=rfl;simp[aaK,d,e,a,putCells,qS9,one,c]
def ai2{n:Int}(e:h.own R=Z (.cells [n,ev]))(d:∃a l c,ev=.slice a l c):aaC pG h 24 ⟨R,0,Y⟩=Z (.agg #[n,ev]):=by have b:UA pG 24=2:=Ji;obtain⟨a,l,c,rfl⟩:=d;rw[Wx qS9 rfl b e Ma];rfl
def lZ(p:Pr):Pr:=(min p.1 p.2,max p.1 p.2)
structure YG (n:Int) (ps:xLP):Prop where
 n0:0<=n
 n1:n<=200
 len:ps.length<=594
 ok:∀p∈ps,0<=(lZ p).1/\(lZ p).1≠(lZ p).2/\(lZ p).2<n
 nd:(ps.map lZ).Nodup
def agO:vV:=.agg #[.int .i64 0,.slice Y 0 0]
def aew:acB pG 24 []=Z agO:=Ji
def build24s(n:Int)(id m c:Nat):acB pG 24 [(0,n),(1,sL (Z id) m c)]=Z (.agg #[n,sL (Z id) m c]):=Ji
theorem YG.right(k:YG (n:Int) ps):bX ⟨(n:Int),aa5 (ps.map lZ)⟩:=by
 have nd:(aa5 (ps.map lZ)).Nodup:=(YA _).nodup_iff.2 k.nd;have hle:=VH (ps.map lZ);refine bX.of (by have:=k.n1;omega) (by grind[ZS,YG.len]) (fun q a=>?_) (Nl.2 ?_)
 .rw[Wb,Eh]at a;obtain⟨p,b,rfl⟩:=a;obtain⟨c,h2,h3⟩:=k.ok p b;grind[lZ]
 .refine(hle.and nd).imp fun{x y} h=>?_;grind
theorem akV(W0:LA)(n:Int)(v:vV)(ps:xLP)(h:aai)(hp:PR h v ps)(C:ps.length<=100000):
  AC pG W0 26 [n,v] h fun x h'=>Le h h'/\((¬YG n ps/\∃k:Int,k≠0/\x=.tuple #[agO,.int .i64 k])\/(YG n ps/\∃ev,x=.tuple #[.agg #[n,ev],.int .i64 0]/\GP h' ev (aa5 (ps.map lZ))/\Z2 h ev)):=by
 refine AC.vE ⟨yU,rfl,WY⟩ ntmps26 results26 fun K=>?_;simp only[Br,seval];obtain⟨j,e1,l1,w1,L⟩:=Tt K [.int .i64 0,.slice Y 0 0];have l:=Lo h;rw[e1]at l
 have nR:h.own h.next=Y:=(Le.refl h).next K (qL0 _)
 generalize h.next=R at*
 have hlen:=fun g=>hp.len g;have r:∀g:aai,g.own R=Z (.cells [.int .i64 0,.slice Y 0 0])->aaK pG g 24 (pT (Z R)) agO=Z (g.put R (.cells [.int .i64 0,.slice Y 0 0])):=fun g o=>aib o rfl rfl;have ldE:∀g:aai,aaC pG (g.put R (.cells [.int .i64 0,.slice Y 0 0])) 24 ⟨R,0,Y⟩=Z agO:=fun g=>ai2 (aai.Y3 _ _ _) ⟨_,_,_,rfl⟩;have fail:∀(g:aai)(k:Int),k≠0->Le h g->¬YG n ps->Le h (g.put R (.cells [.int .i64 0,.slice Y 0 0]))/\((¬YG n ps/\∃k':Int,k'≠0/\vV.tuple #[agO,.int .i64 k]=.tuple #[agO,k'])\/(YG n ps/\∃ev,vV.tuple #[agO,.int .i64 k]=.tuple #[.agg #[n,ev],.int .i64 0]/\GP (g.put R (.cells [.int .i64 0,.slice Y 0 0])) ev (aa5 (ps.map lZ))/\Z2 h ev)):=fun g k hk lg az=>⟨lg.put _ nR,.inl ⟨az,k,hk,rfl⟩⟩;by_cases c1:n>200
 .have d1:decide (n>200)=tT:=qL7 c1;simp only[HO,seval,l,d1,aew,r j L,ldE j];exact fail j 21 WY l1 (fun k=>by have:=k.n1;omega)
 have d1:decide (n>200)=fF:=WA c1;by_cases c2:(ps.length:Int)>594
 .have d2:decide ((ps.length:Int)>594)=tT:=qL7 c2;simp only[HO,seval,l,d1,hlen,d2,aew,r j L,ldE j];exact fail j 21 WY l1 (fun k=>by grind[YG.len])
 have d2:decide ((ps.length:Int)>594)=fF:=WA c2;by_cases c3:n<0
 .have d3:decide (n<0)=tT:=qL7 c3;simp only[HO,seval,l,d1,hlen,d2,d3,aew,r j L,ldE j];exact fail j 20 WY l1 (fun k=>by have:=k.n0;omega)
 have d3:decide (n<0)=fF:=WA c3
 obtain⟨h2,e2,l2,w2,o2⟩:∃h2,j.alloc (.map [])=h2/\Le j h2/\WF h2/\h2.own j.next=Z (.map []):=⟨_,rfl,(Le.refl j).alloc w1 _,w1.alloc _,aai.zT _ _⟩
 have nM:j.own j.next=Y:=(Le.refl j).next w1 (qL0 _)
 have N:R≠j.next:=fun e=>by grind
 obtain⟨c0,mk,O⟩:=mkCapP h2 ps.length C;obtain⟨h3,e3,l3,w3,o3⟩:=Tt w2 c0;rw[e3]at mk
 have nI:h2.own h2.next=Y:=(Le.refl h2).next w2 (qL0 _)
 simp only[HO,seval,l,d1,hlen,d2,d3,e2,mk];have P:=l3.own _ _ o2;have Q:=l3.own _ _ (l2.own _ _ L)
 have D:h2.next≠j.next:=fun e=>by grind
 have S:h2.next≠R:=fun e=>by grind[Le.own]
 have aC:h.own h2.next=Y:=(l1.trans l2).none nI
 have aD:h.own j.next=Y:=l1.none nM
 have T:=(l1.trans l2).trans l3
 generalize j.next=M at*
 generalize h2.next=I at*
 refine aab.intro (fun k fr t=>∃(i:Nat)(l:List (Pr×Int))(c:xLV),k=ps.length-i/\i<=ps.length/\fr=mkF [(0,n),(4,pT (Z R)),(6,.map (Z M)),(7,sL (Z I) ((ps.take i).map lZ).length ps.length),(28,v),(29,.int .i64 ps.length),(30,.int .i64 i)]/\
   t.own R=Z (.cells [.int .i64 0,.slice Y 0 0])/\t.own M=Z (.map (wy l))/\(∀q,q∈l.map (·.1)↔q∈(ps.take i).map lZ)/\t.own I=Z (.cells c)/\c.length=ps.length*2/\c.take (((ps.take i).map lZ).length*2)=Iu ((ps.take i).map lZ)/\
   (∀p∈ps.take i,0<=(lZ p).1/\(lZ p).1≠(lZ p).2/\(lZ p).2<n)/\((ps.take i).map lZ).Nodup/\Le h t)
  ps.length [(0,n),(4,pT (Z R)),(6,.map (Z M)),(7,sL (Z I) 0 ps.length),(28,v),(29,.int .i64 ps.length),(30,(0:Nat))] fD
  ⟨0,[],c0,rfl,abe _,rfl,Q,P,Ma,o3,O,rfl,Ma,Ma,T⟩ ?_
 clear o3 O P Q w3 l3 T e3 mk o2 w2 l2 e2 nI nM l L w1 l1 e1;clear h3 h2 j c0;rintro k fr t U ⟨i,l,c,rfl,hi,rfl,oR,oM,V,oI,aF,X,aa,F,leq⟩;have ae:((ps.take i).map lZ).length=i:=hGr;refine sSs ?_;refine Kl.intro (fun ht=>?_) (fun hf=>?_)
 rotate_left
 .have bk:ps.length<=i:=vp hf;obtain rfl:i=ps.length:=NH;rw[ae,HV (qL0 _)]at X;rw[HV (qL0 _)]at aa F;have aH:YG n ps:=⟨NH,NH,NH,aa,F⟩;have g:GP t (sL (Z I) ps.length ps.length) (ps.map lZ):=by grind[GS.full,GP.eq_1]
  have ag:Z2 h (sL (Z I) ps.length ps.length):=fun b hb=>by injection hb with hb;grind
  have bs:=build24s n I ps.length ps.length;have bI:blk (sL (Z I) ps.length ps.length)=Z I:=rfl;rw[ae];refine sSs ?_;generalize G:vV.slice (Z I) ps.length ps.length=sv at*;refine kCi func49 (ai1 W0 g (by rw[fj];omega) 50 (enters_of func50 Ji rfl) fun W p q=>(DU _ p q _).mono fun _ _ h=>h.1) ?_;rintro x h4 w4 ⟨rfl,g4,f4⟩;have l4:=f4 h leq ag;have aJ:h4.own R=Z (.cells [.int .i64 0,.slice Y 0 0]):=(aG (v':=sv) (fun f _ lf af=>⟨f4 f lf af,af⟩) U oR hGr).1;have st:=aib (n:=n) (ev:=sv) aJ (by rw[<-G];rfl) (by rw[<-G];rfl);have ld:=ai2 (n:=n) (ev:=sv) (aai.Y3 h4 R _) ⟨_,_,_,G.symm⟩;simp only[HO,seval,bs,st,ld];exact⟨l4.put _ nR,.inr ⟨aH,sv,rfl,GS.put g4 _ hGr,ag⟩⟩
 have u:i<ps.length:=CC ht;clear ht;have ai:=CA u;have A:ps.take (i+1)=ps.take i++[ps[i]]:=EL u;have aj:=aev u;generalize ps[i]=p at ai A aj;have ad:=hp.addr (k:=.i64) i u;have ld:=(hp.le leq).load ai;obtain⟨bm,h7,e7,aK,l7,w7,o7⟩:=Ut U p;obtain⟨bo,m,e8,aL,l8,w8,o8⟩:=Ut w7 (lZ p);have bn:acB pG 49 [(0,.int .i64 (min p.1 p.2)),(1,.int .i64 (max p.1 p.2))]=Z (UI (lZ p)):=bP2 _ _;simp only[HO,seval,ad,ld,e7,aK,Dh,Z0,Ip,Gc,lK o7,HY o7,Dv,z6,bn,e8,aL];have w:=leq.trans (l7.trans l8);have y:=(l7.trans l8).own _ _ oR;have H:=(l7.trans l8).own _ _ oM;have aN:=(l7.trans l8).own _ _ oI
 have aP:h7.next≠M:=fun e=>by grind
 have br:h7.next≠I:=fun e=>by grind[Le.next]
 generalize hE:h7.next=E at*
 have m0:=lK o8;have m1:=HY o8;have bad:¬(0<=(lZ p).1/\(lZ p).1≠(lZ p).2/\(lZ p).2<n)->¬YG n ps:=fun hn k=>hn (k.ok p aj);by_cases q1:(lZ p).1<0
 .have d:decide ((lZ p).1<0)=tT:=qL7 q1;simp only[HO,seval,Dh,Z0,Ip,Gc,m0,m1,d,aew,r m y,ldE m];exact fail m 20 WY w (bad NH)
 have B:decide ((lZ p).1<0)=fF:=WA q1;by_cases q2:(lZ p).1=(lZ p).2
 .have d:decide ((lZ p).1=(lZ p).2)=tT:=qL7 q2;simp only[HO,seval,Dh,Z0,Ip,Gc,m0,m1,B,d,aew,r m y,ldE m];exact fail m 20 WY w (bad NH)
 have J:decide ((lZ p).1=(lZ p).2)=fF:=WA q2;by_cases q3:(lZ p).2>=n
 .have d:decide ((lZ p).2>=n)=tT:=qL7 q3;simp only[HO,seval,Dh,Z0,Ip,Gc,m0,m1,B,J,d,aew,r m y,ldE m];exact fail m 20 WY w (bad NH)
 have aq:decide ((lZ p).2>=n)=fF:=WA q3;have lp:=uM o8;have lk:=Il H (lZ p) tT;by_cases q4:lZ p∈(ps.take i).map lZ
 .have hs:(abo l (lZ p)).isSome=tT:=by
   have:=ahW.2 ((V _).2 q4);cases hh:abo l (lZ p)with
   |none=>grind
   |some x=>rfl
  rw[hs]at lk;simp only[HO,seval,Dh,Z0,Ip,Gc,m0,m1,B,J,aq,lp,acS,lk,aew,r m y,ldE m];refine fail m 20 WY w fun k=>?_;have nd:=k.nd;rw[<-qL91 (i+1) ps,A,Bx,Bx]at nd;have:=(jf.1 nd).1;rw[jf]at this;grind
 have hs:abo l (lZ p)=Y:=by
  cases hh:abo l (lZ p)with
  |none=>rfl
  |some x=>grind[ahW]
 rw[hs]at lk;simp only[Option.isSome_none,Option.getD_none]at lk;have sm:=ajb H (lZ p) (i:Int);have w9:=w8.put (.map (wy (acs l (lZ p) (i:Int)))) (w8.lt H);have aT:=aai.Y3 m M (.map (wy (acs l (lZ p) (i:Int))));have s:∀b o,m.own b=Z o->b≠M->(m.put M (.map (wy (acs l (lZ p) (i:Int))))).own b=Z o:=fun b o ho hb=>by grind[aai.By]
 have aW:=s R _ y N;have aX:=s I _ aN D;have a6:=s E _ o8 aP;have l9:=w.put (.map (wy (acs l (lZ p) (i:Int)))) aD;refine sFa (ahk @Dh @Z0 @Ip.eq_1 @Gc m0 m1 B J aq lp @acS lk @aiP sm) ?_;generalize m.put M (.map (wy (acs l (lZ p) (i:Int))))=h9 at*;have a7:=uM a6;obtain⟨bx,bB,a8,bb,bF,⟨c',ar,av,bh⟩,bg,ay⟩:=push_in w9 aX aF X hGr C (lZ p);have z:(ps.take (i+1)).map lZ=(ps.take i).map lZ++[lZ p]:=by rw[A,Bx];rfl
 refine sFa (ae7 a7 a8 bb (aaa i NH)) ?_;refine tn (ps.length-(i+1)) [(0,n),(4,pT (Z R)),(6,.map (Z M)),(7,sL (Z I) (((ps.take i).map lZ).length+1) ps.length),(28,v),(29,.int .i64 ps.length),(30,(i+1:Nat))] NH fD
  ⟨i+1,_,c',rfl,u,by rw[z,aaf];rfl,ay R _ aW (j3 S),ay M _ aT (j3 D),fun q=>?_,ar,av,hGr,fun q t=>?_,?_,bg h l9 aC⟩
 .rw[setK_keys,V,z,aax];simp;exact or_comm
 .rw[A,aax]at t;rcases t with t|t
  .grind
  .simp at t;grind
 .rw[z,jf];refine⟨F,Ma,fun a ha b hb e=>?_⟩;simp at hb;grind
def endP(p:Pr)(y:Int):RZ:=(if p.1=y then[p.2]else[])++if p.2=y then[p.1]else[]
def endsK(ps:xLP)(y:Int):RZ:=ps.flatMap fun p=>endP p y
end
end Go.Fw
namespace Go.Fw
namespace Fo
variable{n:Nat}{es:List Pr}{num:Nat->Nat}{up:Nat->Option Nat}{hd:Nat->Nat}
theorem Io{a b:Nat}(h:pJ up a b)(ne:a≠b):up b≠Y:=by grind[pJ.last]
def beg(n:Nat)(up:Nat->Option Nat)(hd:Nat->Nat):II:=(rG n).filter fun c=>decide (up c≠Y/\hd c=c)
theorem AF{c:Nat}:c∈beg n up hd↔c<n/\up c≠Y/\hd c=c:=by simp[beg]
theorem beg_nd:(beg n up hd).Nodup:=AQ.sublist N8
def JB(n:Nat)(up:Nat->Option Nat)(hd:Nat->Nat)(v:Nat):II:=(beg n up hd).filter fun c=>decide (up c=Z v)
theorem mF(F:Fo n es num up)(H:abi n es num up hd){v:Nat}(h:v<n)(c:Nat):(∃a,Jp es v a/\hd (lower num v a)=c)↔c∈JB n up hd v\/(up v≠Y/\c=hd v):=by
 rw[JB,Uz,AF,uV];constructor
 .rintro⟨a,ha,rfl⟩;have i:=F.JD ha;have e:=(ha.lt F.rD).2;unfold lower;by_cases q:num a<num v
  .rw[IE q];exact .inr ⟨Io (F.anc a v ha.symm q) hGr,rfl⟩
  .rw[yM q];obtain⟨c,f,b⟩:=(F.anc v a ha NH).child hGr;have d:=(F.yO b e).1;rw[F.zP H f b ha];by_cases hb:ym es num up v c
   all_goals grind[Fo.CJ,Fo.Io,Fo.abi.on,Fo.abi.new]
 .rintro(⟨⟨d,_,hh⟩,f⟩|⟨g,rfl⟩)
  .obtain⟨j,h2⟩:=F.Kd c v d f;grind[Fo.lower]
  .obtain⟨u,g⟩:=VU.1 g;obtain⟨j,h2⟩:=F.Kd v u h g;grind[Jp.symm,Fo.lower]
theorem hd_notAt(F:Fo n es num up)(H:abi n es num up hd){v:Nat}(a:v<n):hd v∉JB n up hd v:=by intro h;rw[JB,Uz,AF,uV]at h;have b:=(F.US H (num v) v (qL0 _) a).1;have h2:=(F.Kd _ v h.1.1 h.2).2;grind[Fo.yO]
end Fo
open Classical in
theorem incN_eq{n:Nat}{es:xLP}{num:Nat->Nat}{up:Nat->Option Nat}(S:aay n es (Jz n es).1 (Jz n es).2 num up){v:Nat}(h:v<n):
  Sq n es v=(Fo.JB n up (Cl n es) v).length+(if up v=Y then 0 else 1):=by
 have F:=S.fo;have H:=(FY S).1;have d:=F.rD;have b:∀k:Int,k∈I7 n es v↔∃c:Nat,k=(c:Int)/\(c∈Fo.JB n up (Cl n es) v\/(up v≠Y/\c=Cl n es v)):=by
  intro k;rw[dG d];constructor
  .rintro⟨a,ha,rfl⟩;exact⟨_,jm S ha,(by grind[Fo.mF])⟩
  grind[Fo.mF,jm]
 have e:(Fo.JB n up (Cl n es) v).Nodup:=Fo.beg_nd.sublist N8;rw[JW];by_cases f:up v=Y
 .rw[IE f];have:(I7 n es v).Perm (kz (Fo.JB n up (Cl n es) v)):=by grind[PS,kz.eq_1]
  rw[this.length_eq,y6];rfl
 .have g:(Cl n es v::Fo.JB n up (Cl n es) v).Nodup:=by grind[Fo.hd_notAt]
  have:(I7 n es v).Perm (kz (Cl n es v::Fo.JB n up (Cl n es) v)):=(qL164 (PS n es v) (by grind[kz.eq_1])).2 (by grind[kz.eq_1]);grind[List.Perm.length_eq,y6]
theorem VV{n:Nat}{es:xLP}{num:Nat->Nat}{up:Nat->Option Nat}(S:aay n es (Jz n es).1 (Jz n es).2 num up):(vq n es).length=(Fo.beg n up (Cl n es)).length:=by
 have F:=S.fo;have H:=(FY S).1;have i:=F.rD;obtain⟨l,mk⟩:=ahE (cQ n es) _ es rfl;have:(CY (cQ n es) es).Perm (kz (Fo.beg n up (Cl n es))):=(qL164 l (by grind[kz.eq_1,Fo.beg_nd])).2 fun k=>by
  rw[mk,kz,Eh];constructor
  .rintro⟨p,m,rfl⟩;obtain⟨a,c,rfl,o,d,b⟩:=ends i m;have q:((a:Int),(c:Int))=GW a c:=by grind[bj]
   have w:=jm S b;have r:=F.JD b;have e:Fo.lower num a c<n:=by grind[Fo.lower]
   have s:up (Cl n es (Fo.lower num a c))≠Y:=by have key:=fun x y f g=>F.link H (fun _ _=>()) (fun _ _=>rfl) hGr (num x) x y (qL0 _) f g;grind[Fo.lower,Jp.symm]
   have t:=F.US H _ (Fo.lower num a c) (qL0 _) e;grind[Fo.AF,Fo.yO]
  .rintro⟨c,v,rfl⟩;obtain⟨d,h,hh⟩:=Fo.AF.1 v;obtain⟨u,h⟩:=VU.1 h;obtain⟨j,h2⟩:=F.Kd c u d h;refine⟨GW c u,T0 i j.symm,?_⟩;rw[jm S j.symm];grind[Fo.lower]
 grind[aaB,List.Perm.length_eq,y6]
end Go.Fw
namespace Go.Fw
theorem sum_add(f g:Nat->Nat):∀l:II,(l.map fun x=>f x+g x).sum=(l.map f).sum+(l.map g).sum
 |[]=>rfl
 |x::l=>by simp only[Lm,V9,sum_add f g l];omega
theorem Zl(u:Nat):∀n,((rG n).map fun v=>if u=v then 1 else 0).sum=if u<n then 1 else 0
 |0=>rfl
 |n+1=>by rw[rY,Bx,List.sum_append,Zl u n];grind
def Rp:∀n,((rG n).map fun _=>0).sum=0
 |0=>rfl
 |n+1=>by rw[rY,Bx,List.sum_append,Rp n];rfl
theorem Lz(n:Nat)(up:Nat->Option Nat):∀(l:II),(∀c∈l,∃u,up c=Z u/\u<n)->((rG n).map fun v=>(l.filter fun c=>decide (up c=Z v)).length).sum=l.length
 |[],_=>by exact Rp n
 |c::l,h=>by
  obtain⟨u,a,b⟩:=h c Ma;have d:=Lz n up l hGr
  have e:(fun v=>((c::l).filter fun c=>decide (up c=Z v)).length)=fun v=>(l.filter fun c=>decide (up c=Z v)).length+(if u=v then 1 else 0):=hGr
  grind[sum_add,Zl]
theorem af8(p:Nat->Prop)[DecidablePred p]:∀l:II,(l.map fun v=>if p v then 0 else 1).sum=(l.filter fun v=>decide (¬p v)).length
 |[]=>rfl
 |x::l=>by rw[Lm,V9,af8 p l,aeU];grind
theorem yA(inc:Nat->Nat):∀l:II,(l.map inc).sum+(l.filter fun v=>decide (1<inc v)).length=((l.filter fun v=>decide (1<inc v)).map inc).sum+(l.filter fun v=>decide (0<inc v)).length
 |[]=>rfl
 |x::l=>by have a:=yA inc l;grind
theorem Yu{A B:II}{R:Nat->Nat->Prop}(c:A.Nodup)(h:∀a∈A,∃b∈B,R a b)(inj:∀a∈A,∀a'∈A,∀b,R a b->R a' b->a=a'):A.length<=B.length:=by
 classical
 let f:Nat->Nat:=fun a=>if h:∃b∈B,R a b then Classical.choose h else 0
 have nd:(A.map f).Nodup:=by grind[List.Pairwise.imp_of_mem]
 have:=nd.length_le_of_subset (l₂:=B) hGr;grind
namespace Fo
variable{n:Nat}{es:List Pr}{num:Nat->Nat}{up:Nat->Option Nat}
def root_ex(F:Fo n es num up):∀(k v:Nat),num v<=k->v<n->∃r,r<n/\up r=Y/\pJ up r v/\Pu es r v:=by
 intro k
 induction k with
 |zero=>
  intro v d b;cases a:up v with
  |none=>exact⟨v,b,a,.refl v,Pu.refl _ _⟩
  |some u=>have:=(F.Kd v u b a).2;omega
 |succ k e=>
  intro v d b;cases a:up v with
  |none=>exact⟨v,b,a,.refl v,Pu.refl _ _⟩
  |some u=>obtain⟨c,h2⟩:=F.Kd v u b a;obtain⟨r,f,h3,g,h⟩:=e u NH (c.lt F.rD).1;exact⟨r,f,h3,g.step a,.step h c rfl⟩
theorem root_con(F:Fo n es num up){r u v:Nat}(a:up r=Y)(h:pJ up r u)(c:Pu es u v):pJ up r v:=by
 induction c<;>grind[Fo.JD,pJ.trans,Fo.anc,Jp.symm,pJ.chain,Fo.Io]
theorem root_uniq(F:Fo n es num up){r s:Nat}(a:up r=Y)(hs:up s=Y)(c:Pu es r s):r=s:=by have h:=F.root_con a (.refl r) c;grind[Fo.Io]
end Fo
open Classical in
theorem HJ{n:Nat}{es:xLP}(b:aV n es){v:Nat}:0<Sq n es v↔∃a,Jp es v a:=by
 rw[JW,List.length_pos_iff_exists_mem];constructor
 .grind[dG]
 .rintro⟨a,ha⟩;exact⟨_,(dG b).2 ⟨a,ha,rfl⟩⟩
theorem FV{es:xLP}{u v:Nat}(h:Pu es u v)(ne:u≠v):(∃a,Jp es u a)/\∃a,Jp es v a:=by
 constructor
 .induction h<;>grind
 .cases h<;>grind[Jp.symm]
open Classical in
theorem tZ{n:Nat}{es:xLP}(f:aV n es):
  (vq n es).length+(JL n es).length=((JL n es).map (Sq n es)).sum+((Es n es).filter fun h=>decide (0<Sq n es h)).length:=by
 obtain⟨num,up,S⟩:=Ob f;have F:=S.fo;have s:JL n es=(rG n).filter fun v=>decide (1<Sq n es v):=by grind[JL.eq_1,List.filter_congr,YH,Cv]
 have j:=yA (Sq n es) (rG n);have h2:((rG n).map (Sq n es)).sum=(Fo.beg n up (Cl n es)).length+((rG n).filter fun v=>decide (¬up v=Y)).length:=by
  have e:(rG n).map (Sq n es)=(rG n).map fun v=>(Fo.JB n up (Cl n es) v).length+(if up v=Y then 0 else 1):=(by grind[List.map_congr_left,incN_eq])
  rw[e,sum_add,af8 (fun v=>up v=Y)];congr 1;exact Lz n up _ fun c g=>by obtain⟨i,d,_⟩:=Fo.AF.1 g;obtain⟨u,d⟩:=VU.1 d;exact⟨u,d,((F.Kd c u i d).1.lt f).1⟩
 have h3:=MS (fun v=>decide (¬up v=Y)) ((rG n).filter fun v=>decide (0<Sq n es v));rw[NC,NC]at h3;have t:(rG n).filter (fun v=>decide (¬up v=Y)&&decide (0<Sq n es v))=(rG n).filter fun v=>decide (¬up v=Y):=by
  refine QD fun v k=>?_;rw[K4]at k;by_cases q:up v=Y
  .simp[q]
  .obtain⟨u,d⟩:=VU.1 q;have:0<Sq n es v:=(HJ f).2 ⟨u,(F.Kd v u k d).1.symm⟩;simp[this]
 have w:((rG n).filter fun v=>(!decide (¬up v=Y))&&decide (0<Sq n es v)).length=((Es n es).filter fun h=>decide (0<Sq n es h)).length:=by
  have l:∀v,v∈((rG n).filter fun v=>(!decide (¬up v=Y))&&decide (0<Sq n es v))↔v<n/\up v=Y/\0<Sq n es v:=fun v=>by simp
  have m:∀v,v∈((Es n es).filter fun h=>decide (0<Sq n es h))↔v∈Es n es/\0<Sq n es v:=fun v=>by simp
  have move:∀{a b:Nat},Pu es a b->0<Sq n es a->0<Sq n es b:=fun{a b} c h=>by
   by_cases e:a=b
   all_goals grind[HJ,FV]
  refine Nat.le_antisymm ?_ ?_
  .refine Yu (R:=fun a b=>Pu es a b) (by grind[List.nodup_range]) (fun a ha=>?_) (fun a ha a' mi b j h2=>?_)
   .obtain⟨k1,k2,o⟩:=(l a).1 ha;obtain⟨h,hh,g⟩:=B6 f a k1;grind[Cn.symm]
   grind[Fo.root_uniq,Cn.trans,Cn.symm]
  .refine Yu (R:=fun a b=>Pu es a b) (by grind[qD]) (fun a ha=>?_) (fun a ha a' mi b j h2=>?_)
   .obtain⟨k1,o⟩:=(m a).1 ha;obtain⟨r,p,x,y,g⟩:=F.root_ex (num a) a (qL0 _) (QO.1 k1).1;grind[Cn.symm]
   grind[rf,Cn.trans,Cn.symm]
 grind[VV]
end Go.Fw
namespace Go.Fw
section
attribute [local irreducible] Kp MQ lU KO1 KO KN KX KE VK Kl ZJ TC aab
structure TM where
 bs:List xLP
 cs:RZ
 ls:xLP
structure LinkOK (b n:Nat) (p:Pr):Prop where
 x0:0<=p.1
 x1:p.1<(b:Int)
 y0:0<=p.2
 y1:(b:Int)+p.2<(n:Int)
end
end Go.Fw
namespace Go.Fw
attribute [local instance] Classical.propDecidable
structure H9 (n:Nat) (es fs:xLP) (π:Nat->Nat):Prop where
 r1:aV n es
 r2:aV n fs
 lt:∀a,a<n->π a<n
 inj:∀a b,a<n->b<n->π a=π b->a=b
 surj:∀x,x<n->∃a,a<n/\π a=x
 Jp:∀a b,a<n->b<n->(Jp fs (π a) (π b)↔Jp es a b)
namespace H9
variable{n:Nat}{es fs:List Pr}{π:Nat->Nat}
end H9
theorem pair_ex{n:Nat}{es:xLP}(d:aV n es){p:Pr}(e:p∈es):∃a b:Nat,a<n/\b<n/\Jp es a b/\p=GW a b:=by obtain⟨a,c,rfl,f,g,h⟩:=ends d e;exact(by grind[bj])
namespace H9
variable{n:Nat}{es fs:List Pr}{π:Nat->Nat}
end H9
namespace H9
variable{n:Nat}{es fs:List Pr}{π:Nat->Nat}
end H9
end Go.Fw
namespace Go.Fw
section
attribute [local instance] Classical.propDecidable
def bU(b:Nat)(ls:xLP):xLP:=ls.map fun p=>(p.1,(b:Int)+p.2)
structure Lk (b n:Nat) (ls:xLP):Prop where
 n0:n≠0
 len:ls.length+1=n
 ok:∀p∈ls,LinkOK b n p
 bp:∀v,v<n->Pu (bU b ls) 0 v
def JS{a j:Nat}(h:j<a):a-(j+1)<a-j:=NH
section
variable{n:Nat}{es:List Pr}{rs:AM}
theorem ajd(a:aV n es)(ha:D3 es){v:Nat}{l:RZ}:qC l=(Zh n es).getD v []↔l.Perm ((Zh n es).getD v []):=by
 constructor
 .intro h;rw[<-h];exact(ahI _ _).symm
 .intro p;have hb:=KW es a ha v;have nd:l.Nodup:=by grind[List.Pairwise.imp]
  have b:=aQ l;have h2:(qC l).Nodup:=(ahI _ _).nodup_iff.2 nd;exact afY _ _ ((b.and h2).imp fun h=>by omega) hb (by grind[Wv])
def ahy(v:Nat)(l:RZ):xLP:=(l.filter fun w=>decide ((v:Int)<w)).map fun w=>((v:Int),w)
def abT(rs:AM):Nat->xLP
 |0=>[]
 |k+1=>abT rs k++ahy k (rs.getD k [])
theorem aiQ{k:Nat}{p:Pr}:p∈abT rs k↔∃v:Nat,v<k/\p.1=(v:Int)/\p.2∈rs.getD v []/\p.1<p.2:=by
 induction k with
 |zero=>simp[abT]
 |succ k a=>grind[abT.eq_2,ahy.eq_1]
theorem aiw(hR:bX ⟨(n:Int),es⟩)(G:Av n es rs):YG (n:Int) (abT rs n)/\aa5 ((abT rs n).map lZ)=es:=by
 have d:=hR.GD;have l:∀p,p∈abT rs n↔p∈es:=fun p=>by
  rw[aiQ];constructor
  .rintro⟨v,m,g,h2,h3⟩;obtain⟨_,w,e,hw,ha⟩:=G.nat d h2;have:=H4 d ha;grind[bj]
  .intro f;obtain⟨a,c,rfl,o,q,ha⟩:=ends d f;exact⟨a,NH,rfl,(G.perm a NH).mem_iff.2 (by grind[EW]),hGr⟩
 have nd:(abT rs n).Nodup:=by
  have key:∀k,k<=n->(abT rs k).Nodup:=by
   intro k
   induction k with
   |zero=>grind[abT]
   |succ k r=>
    intro s;rw[abT,jf];refine⟨r NH,?_,fun a ha b hb e=>?_⟩
    .rw[ahy,Gw,vY];have nd:(rs.getD k []).Nodup:=(G.perm k NH).nodup_iff.2 (Gw.2 ((KW es d hR.q9 k).imp hGr));grind[List.Pairwise.imp]
    .subst e;obtain⟨v,m,g,_⟩:=aiQ.1 ha;obtain⟨w,_,rfl⟩:=Eh.1 hb;grind
  grind
 have i:(abT rs n).map lZ=abT rs n:=by
  conv=>rhs;rw[<-afV (abT rs n)]
  refine EH fun p f=>?_;have:=d p ((l p).1 f);grind[lZ]
 have j:aa5 (abT rs n)=es:=by
  have g:=VH (abT rs n);have h2:(aa5 (abT rs n)).Nodup:=by grind[YA]
  rw[Gw]at h2;refine aiv _ _ ((g.and h2).imp fun{x y} h=>?_) (Nl.1 hR.q9) (by grind[Wb]);grind
 have hlen:(abT rs n).length=es.length:=by grind[ZS]
 refine⟨⟨hR.n0,hR.n1,by rw[hlen];exact hR.len,fun p f=>?_,hGr⟩,hGr⟩;have:=d p ((l p).1 f);grind[lZ]
end
end
section
attribute [local irreducible] Jz JL vq cQ
variable {es:List Pr} {n:Nat}
def lkU(i:Nat)(b:xLP)(cs:II)(k:Nat):xLP:=((rG k).filter fun j=>atB ((cs.getD j 0:Nat):Int) b).map fun(j:Nat)=>((i:Int),(j:Int))
def Rb(bs:List xLP)(cs:II)(i:Nat):xLP:=(rG i).flatMap fun k=>lkU k (bs.getD k []) cs cs.length
theorem lkU_succ(i:Nat)(b:xLP)(cs:II)(k:Nat):lkU i b cs (k+1)=lkU i b cs k++if atB ((cs.getD k 0:Nat):Int) b then[((i:Int),(k:Int))]else[]:=by grind[lkU.eq_1,List.range_succ]
theorem DK(bs:List xLP)(cs:II)(i:Nat):Rb bs cs (i+1)=Rb bs cs i++lkU i (bs.getD i []) cs cs.length:=by grind[Rb.eq_1,List.range_succ]
def acF(n:Nat)(es:xLP):TM:=⟨vq n es,kz (JL n es),Rb (vq n es) (JL n es) (vq n es).length⟩
def JoinG(n:Nat)(es:xLP):Prop:=es≠[]/\(Es n es).length=1
theorem u5(b:bX ⟨(n:Int),es⟩)(a:es≠[]):0<(vq n es).length:=by obtain⟨p,l,rfl⟩:=eR a;grind[Zg,List.mem_cons_self]
end
def mk57(h:aai)(n:Nat)(a:n<=1000):abl pG h 25 n n=Z (sL (Z h.next) n n,h.alloc (.cells (rP n (.slice Y 0 0)))):=Ye (P:=pG) (t:=25) (z:=.slice Y 0 0) h qS6 Ji rfl rfl rfl Ji Mb Ji n NH
def mk100(h:aai)(n:Nat)(a:n<=1000):abl pG h 41 n n=Z (sL (Z h.next) n n,h.alloc (.cells (rP n (.bool fF)))):=Ye (P:=pG) (t:=41) (z:=.bool fF) h Uh rfl rfl rfl rfl Ji AV Ji n NH
def mk35(h:aai)(n:Nat)(a:n<=1000):abl pG h 28 n n=Z (sL (Z h.next) n n,h.alloc (.cells (rP n (.int .i64 0)))):=Ye (P:=pG) (t:=28) (z:=.int .i64 0) h Mb rfl rfl rfl rfl Ji Ac Ji n NH
def rB(ls:xLP)(v:Nat):RZ:=(ls.filter fun p=>decide (p.1=(v:Int))).map (·.2)
def rC(ls:xLP)(v:Nat):RZ:=(ls.filter fun p=>decide (p.2=(v:Int))).map (·.1)
def nbU(b:Nat)(ls:xLP)(v:Nat):II:=if v<b then(rB ls v).map fun x=>b+x.toNat else(rC ls (v-b)).map fun x=>x.toNat
section
variable{b n:Nat}{ls:List Pr}
end
section
attribute [local irreducible] Kp MQ lU KO1 KO KN KX KE VK Kl ZJ TC aab
theorem ajx(b:LA)(v:vV)(xs:RZ)(h:aai)(c:RL RP h v xs):AC pG b 75 [v] h fun x h'=>∃B,x=.func (.func 100) #[] #[pT (Z ⟨B,0,Y⟩)]/\h.next<=B/\h'.own B=Z (.cells [v])/\Le h h':=by
 refine AC.vE ⟨func75,rfl,WY⟩ ntmps75 results75 fun a=>?_;simp only[Br,seval];obtain⟨d,e,l1,w1,g⟩:=Tt a [v]
 have f:zF h v=Z (pT (Z h.next),d):=by rw[<-e];obtain⟨_,_,rfl,_⟩:=c.sl;rfl
 refine sFa f ?_;grind
def aje(m:LA)(e B:Nat)(v:vV)(xs:RZ)(I:Nat->aai->Prop)(h:aai)(u:xs.length<1000000)(c:∀i g,I i g->g.own B=Z (.cells [v])/\RL RP g v xs)(f:I 0 h)(n:∀i g (hi:i<xs.length),WF g->h.next<=g.next->I i g->AY pG m e [.int .i64 xs[i]] g fun x j=>x=.bool tT/\h.next<=j.next/\I (i+1) j):
  AC pG m 100 [Yg e,pT (Z B)] h fun _ h'=>I xs.length h':=by
 have ld:∀i g,I i g->aaC pG g 28 ⟨B,0,Y⟩=Z v:=fun i g hi=>by rw[Fq Mb rfl (c i g hi).1];rfl
 refine AC.vE ⟨func100,rfl,WY⟩ ntmps100 results100 fun o=>?_;simp only[Br,seval];have p:=fun g=>(c _ _ f).2.DH g;simp only[HO,seval,ld _ _ f,p]
 refine lIn (fun k fr g=>∃i:Nat,k=xs.length-i/\i<=xs.length/\fr=mkF [(0,Yg e),(5,v),(6,xs.length),(7,.int .i64 i)]/\h.next<=g.next/\I i g) ⟨0,rfl,abe _,rfl,qL0 _,f⟩ ?_
 rintro k fr g q ⟨i,rfl,hi,rfl,hle,a⟩;refine sSs ?_;refine Kl.intro (fun r=>?_) (fun hf=>?_)
 .have d:i<xs.length:=CC r;have ad:=(c _ _ a).2.addr (k:=.i64) Mb Ac rfl i d;have le:=(c _ _ a).2.Uc i d;simp only[HO,seval,ad,le];refine TC.yield (by simp only[HO,seval,yieldOf]<;>rfl) (n i g d q hle a) ?_;rintro x j s ⟨rfl,b,l⟩;refine sFa (aaa i NH) ?_;exact lgA NH ⟨i+1,rfl,d,rfl,b,l⟩
 .have t:xs.length<=i:=vp hf;obtain rfl:i=xs.length:=NH;refine sSs ?_;exact a
theorem ajy(H:LA)(B:Nat)(v:vV)(xs:RZ)(h:aai)(hB:h.own B=Z (.cells [v]))(I:RL RP h v xs)(X:xs.length<=1000):
  AC pG H 146 [.slice Y 0 0,.func (.func 100) #[] #[pT (Z B)]] h fun x h'=>GI h' x xs/\Le h h'/\Z2 h x:=by
 refine AC.vE ⟨func146,rfl,WY⟩ ntmps146 results146 fun i=>?_;simp only[Br,seval];obtain⟨o,G,l1,w1,J⟩:=Tt i [.slice Y 0 0]
 have K:zF h (.slice Y 0 0)=Z (pT (Z h.next),o):=by rw[<-G];rfl
 have nS:h.own h.next=Y:=(Le.refl h).next i (qL0 _)
 have p:o.next=h.next+1:=by rw[<-G];rfl
 refine sFa K ?_
 generalize h.next=S at*
 refine VK.rangeFunc (gf:=100) (first:=#[]) (cap:=#[pT (Z B)]) (by simp only[HO,seval]) ⟨func100,rfl,WY⟩ WY fun L M N=>?_
 refine(aje L M B v xs (fun k g=>∃d,g.own S=Z (.cells [d])/\GI g d (xs.take k)/\Le h g/\Z2 h d/\blk d≠Z S) o NH (fun k g ⟨_,_,_,j,_⟩=>⟨j.own _ _ hB,I.le Nn.RP j⟩) ⟨_,J,GI.nil _,l1,(fun b hb=>by cases hb),by simp[blk]⟩ ?_).mono fun _ O q Q=>?_
 .intro k g R T hle r;obtain⟨d,oS,s,j,ax,nx⟩:=r;refine N _ _ _ rfl hle ?_;have U:xs.take (k+1)=xs.take k++[xs[k]]:=EL R;have hl:(xs.take k).length=k:=hGr;generalize xs[k]=y at*;have lS:aaC pG g 28 ⟨S,0,Y⟩=Z d:=by rw[Fq Mb rfl oS];rfl
  obtain⟨v',V,l,u,w,f,z,W,A,C⟩:=s.push T y hGr;obtain⟨D,E⟩:=A h j ax;obtain⟨m,n⟩:=C S _ oS nx;have st:=QB (P:=pG) (t:=28) (x:=v') Mb Ji m (off:=0) Ma (by obtain⟨a,c,e,_⟩:=(GS.cs f).sl;rw[e];rfl) (GS.cs f).sl.one;have oo:=aai.Y3 l S (.cells [v']);simp only[HO,seval,aeJ,Array.toList,lS,u,w,st,qL200,aB]
  have F:o.next<=(l.put S (.cells [v'])).next:=by rw[p];exact z.lt m
  refine⟨trivial,F,v',oo,?_,D.put _ nS,E,n⟩;rw[U];exact GS.put f _ n
 .obtain⟨d,oS,s,j,ax,nx⟩:=q;rw[dr]at s;have lS:aaC pG O 28 ⟨S,0,Y⟩=Z d:=by rw[Fq Mb rfl oS];rfl
  simp only[HO,seval,lS];grind
theorem ajf(a:LA)(B:Nat)(v:vV)(xs:RZ)(h:aai)(hB:h.own B=Z (.cells [v]))(b:RL RP h v xs)(c:xs.length<=1000):
  AC pG a 99 [.func (.func 100) #[] #[pT (Z B)]] h fun x h'=>GI h' x xs/\Le h h'/\Z2 h x:=by
 refine AC.vE ⟨func99,rfl,WY⟩ ntmps99 results99 fun d=>?_;simp only[Br,seval];refine sSs ?_;refine kCi func146 (ajy a B v xs h hB b c) ?_;rintro x h2 w2 ⟨e,l2,a2⟩;refine sSs ?_;grind
theorem ajz(a:LA)(B:Nat)(v:vV)(xs:RZ)(h:aai)(hB:h.own B=Z (.cells [v]))(b:RL RP h v xs)(c:xs.length<=1000):
  AC pG a 74 [.func (.func 100) #[] #[pT (Z B)]] h fun x h'=>GI h' x (qC xs)/\Le h h'/\Z2 h x:=by
 refine AC.vE ⟨func74,rfl,WY⟩ ntmps74 results74 fun d=>?_;simp only[Br,seval];refine sSs ?_;refine kCi func99 (ajf a B v xs h hB b c) ?_;rintro x h2 w2 ⟨e,l2,a2⟩;refine sSs ?_;refine kCi qS25 (VQ a e NH) ?_;rintro y h3 f ⟨rfl,g,i⟩;refine sSs ?_;grind
theorem Equal_any(o:LA)(v w:vV)(xs ys:RZ)(h:aai)(j:RL RP h v xs)(hw:RL RP h w ys)(s:xs.length<=100000):
  AC pG o 73 [v,w] h fun x h'=>x=.bool (decide (xs=ys))/\h'=h:=by
 refine AC.vE ⟨func73,rfl,WY⟩ ntmps73 results73 fun p=>?_;simp only[Br,seval];have m:=fun g=>j.DH g;have lw:=fun g=>hw.DH g;by_cases c:(xs.length:Int)=ys.length
 rotate_left
 .have d:decide ((xs.length:Int)=ys.length)=fF:=WA c;simp only[HO,seval,m,lw,bne,d];exact⟨by rw[WA (fun e=>c (by rw[e]))],trivial⟩
 have c':xs.length=ys.length:=NH;have d:decide ((xs.length:Int)=ys.length)=tT:=qL7 c;simp only[HO,seval,m,lw,bne,d];refine lIn (fun k fr hh=>∃i:Nat,k=xs.length-i/\i<=xs.length/\hh=h/\fr=mkF [(0,v),(1,w),(12,xs.length),(13,i)]/\xs.take i=ys.take i) ⟨0,rfl,abe _,rfl,rfl,rfl⟩ ?_;rintro k fr hh-⟨i,rfl,hi,rfl,rfl,n⟩;refine sSs ?_;refine Kl.intro (fun q=>?_) (fun hf=>?_)
 .have a:i<xs.length:=CC q;have t1:xs.take (i+1)=xs.take i++[xs[i]]:=EL a;have r:ys.take (i+1)=ys.take i++[ys[i]'(by omega)]:=EL NH
  have ad:=j.TA i a;have ld:=j.Uc i a;have b:=hw.TA i NH;have f:=hw.Uc i NH;have t:=CA a;have u:=CA (show i<ys.length by omega);generalize xs[i]=x at*;generalize ys[i]'(by omega)=y at*
  refine sSs ?_;refine gh (tA [0,1,2,3,4,5,6,7,8] .done) ?_;by_cases e:x=y
  .have d2:decide (x=y)=tT:=qL7 e;simp only[HO,seval,Qg,ad,ld,b,f,bne,d2,aaa i NH];exact lgA NH ⟨i+1,rfl,a,rfl,rfl,by rw[t1,r,n,e]⟩
  .have d2:decide (x=y)=fF:=WA e;simp only[HO,seval,Qg,ad,ld,b,f,bne,d2];exact by rw[WA (fun e'=>e hGr)]
 .have l:xs.length<=i:=vp hf;rw[HV l,HV NH]at n;refine sSs ?_;grind
end
end Go.Fw
