/- A text. -/
import Derived.Test.YtkccdnmaaelbiaaGreatFwLB17
import Derived.Test.YtkccdnmaaelbiaaGreatFwEmb30
set_option linter.all false
set_option maxRecDepth 99999
set_option maxHeartbeats 9999999
namespace Go.Fw
section
open Go.Proofs
def cX (web l:List Pr) (n:Nat):II:=(List.range n).filter fun v=>SZ web (v:Int)&&SZ l (v:Int)
variable {a b v:Value} {fs:List FM} {g h:AHeap} {i m n:Nat}
theorem FL.len (r:FL h v fs) (g:AHeap):aLen Tryz.prog g 118 v=some (.int .i64 fs.length):=by
 obtain⟨cs,c,_⟩:=r;obtain⟨a,k,rfl,_⟩:=c.sl;simp[aLen,qS23]
def qx (v:Value) (i:Nat):Addr:=elemAddr v (i*2)
theorem FL.addr (r:FL h v fs) {k:IntKind} (i:Nat) (hi:i<fs.length):aIndexAddr Tryz.prog 118 v (.int k i)=some (.pointer (some (qx v i))):=by
 obtain⟨cs,c,_⟩:=r;obtain⟨a,k,rfl,hs⟩:=c.sl;obtain⟨a,rfl⟩:=eR.1 (hs NH);have b:(i:Int)<(fs.length:Int):=NH;simp[aIndexAddr,qS23,sU,b,qx,elemAddr,zB]
def ff0 (a:Addr):aField Tryz.prog 122 (.pointer (some a)) 0=some (.pointer (some (Ip a 0))):=rfl
def ff1 (a:Addr):aField Tryz.prog 122 (.pointer (some a)) 1=some (.pointer (some (Ip a 1))):=rfl
theorem FL.load (r:FL h v fs) {f:FM} (hf:fs[i]?=some f):
  ∃a b,(∀g,Le h g->aload Tryz.prog g 122 (qx v i)=some (.agg #[a,b]))/\PR h a f.zp/\RL RP h b f.Fm:=by
 obtain⟨cs,c,e⟩:=r;obtain⟨a,b,m,n,o,p⟩:=e i f hf;refine⟨a,b,fun g l=>?_,o,p⟩;have q:=l.read (c.get _ _ m);have s:=l.read (c.get _ _ n);obtain⟨ad,k,rfl,hs⟩:=c.sl;obtain⟨ad,rfl⟩:=eR.1 (hs pw);have d:readN g (qx (.slice (some ad) fs.length k) i) 2=some [a,b]:=by
  refine ua [a,b] _ fun j x e=>?_
  grind [qx,fA,Ip]
 simp only[aload,sU,zB,d];rfl
theorem alloc41 (h:AHeap):aAlloc Tryz.prog h 122=some (.pointer (some ⟨h.next,0,none⟩),h.alloc (.cells [.slice none 0 0,.slice none 0 0])):=rfl
theorem new41' (hw:WF h) (ha:xO a n) (hb:xO b m):∃c h2,aAlloc Tryz.prog h 122=some (.pointer (some ⟨h.next,0,none⟩),c)/\aStore Tryz.prog c 122 (.pointer (some ⟨h.next,0,none⟩)) (.agg #[a,b])=some h2/\Le h h2/\WF h2/\h.own h.next=none/\h2.own h.next=some (.cells [a,b]):=by
 obtain⟨c,e,l1,w1,d⟩:=Tt hw [.slice none 0 0,.slice none 0 0]
 have f:h.own h.next=none:=(Le.refl h).next hw (Ny _)
 have st:aStore Tryz.prog c 122 (.pointer (some ⟨h.next,0,none⟩)) (.agg #[a,b])=some (c.put h.next (.cells [a,b])):=by
  obtain⟨_,_,rfl,_⟩:=ha;obtain⟨_,_,rfl,_⟩:=hb;simp[aStore,d,Value.cells,zB,putCells,sU];exact⟨rfl,rfl⟩
 grind [alloc41,Le.put,WF.put,WF.lt,AHeap.Y3]
def eX {C:Nat} (c:g.own C=some (.cells [a,b])):aload Tryz.prog g 122 ⟨C,0,none⟩=some (.agg #[a,b])/\aload Tryz.prog g 22 ⟨C,0,none⟩=some a/\aload Tryz.prog g 49 ⟨C,1,none⟩=some b:=by
 refine⟨?_,?_,?_⟩
 .rw[Wx sU rfl zB c Ma];rfl
 .rw[Fq AV rfl c];rfl
 .rw[Fq Ac rfl c];rfl
end
end Go.Fw
namespace Go.Fw
open Go.Proofs
theorem Ty (p:Pr) (v:Int):aO p v=true↔p.1=v\/p.2=v:=by simp[aO]
theorem onE_iff (web:List Pr) (v:Nat):SZ web (v:Int)=true↔lN web v:=by simp[SZ,lN,Ty]
theorem Fh {n:Nat} {web:List Pr} {u:Nat} (a:u<n):(Cb n web).getD u false=SZ web (u:Int):=by grind [onE_iff,Cb]
section
variable {n : Nat} {es web : List Pr} {L : List Int}
abbrev Qw (n:Nat) (web:List Pr):Nat->Bool:=fun u=>(Cb n web).getD u false
end
end Go.Fw
namespace Go.Fw
section
open Go.Proofs
variable {n:Nat} {α:Type}
theorem feet_eq {es web l:List Pr} (hR:aV n es) (a:∀p∈l,p∈es):YJ (Qw n web) l=kz (cX web l n):=by
 refine wP _ _ (bT (aQ _)) ?_ fun x=>?_
 .rw [kz, vg, cX]
  grind [List.Pairwise.imp,List.pairwise_lt_range]
 .rw [YJ, jn, Wv]
  simp only[BY,AL,Lm,iy,kz,cX,aae,j9,im];constructor
  .rintro ⟨p, b, c, d⟩
   obtain⟨a1,a2,e⟩:=hR p (a p b)
   grind [Fh,SZ.eq_1,Ty]
  grind [SZ.eq_1,Ty,Fh]
def fullU (fr:Pr->Nat->Int) (es web:List Pr) (k:Int):Nat->List Pr
  |0=>[]
  |i+1=>match es[i]? with
    |some p=>if p∈web then fullU fr es web k i else if fr p i=k then fullU fr es web k i++[p]else fullU fr es web k i
    |none=>fullU fr es web k i
theorem U7 (gs:List Gr) (f k:Int) (p:Pr):lstG (addG gs f p) k=if f=k then lstG gs k++[p]else lstG gs k:=by
 induction gs<;>grind [addG,lstG]
theorem ZM (fr:Pr->Nat->Int) (es web:List Pr) (k:Int) (i:Nat):lstG (grpsM fr es web i) k=fullU fr es web k i:=by
 induction i with
 |zero=>rfl
 |succ i a=>
  cases b:es[i]?<;>grind [grpsM,fullU,U7]
theorem Zj (fr:Pr->Nat->Int) (es web:List Pr) (k:Int) (q:Pr) (i:Nat):q∈fullU fr es web k i↔∃j,j<i/\es[j]?=some q/\q∉web/\fr q j=k:=by
 induction i<;>grind [fullU]
theorem PE (F:List Pr->α) (gs:List Gr) (a:(Ea gs).Nodup):gs.map (fun g=>F g.2)=(Ea gs).map fun k=>F (lstG gs k):=by grind [Ea.eq_1,List.map_congr_left,List.mem_iff_getElem?,NI]
end
theorem Tz (gs:List Gr) (f k:Int) (p:Pr):k∈Ea (addG gs f p)↔k∈Ea gs\/k=f:=by
 induction gs<;>grind [addG,Ea]
theorem ae4 (fr:Pr->Nat->Int) (es web:List Pr) (k:Int) (i:Nat):k∈Ea (grpsM fr es web i)↔∃(j:Nat) (p:Pr),j<i/\es[j]?=some p/\p∉web/\fr p j=k:=by
 induction i with
 |zero=>simp[grpsM,Ea]
 |succ i a=>
  cases b:es[i]? with
  |none=>
   grind [grpsM]
  |some q=>
   by_cases c:q∈web
   .grind [JJ]
   .rw [dh b c, Tz, a]
    grind
variable {L:RZ} {es ps:List Pr} {n u w:Nat} {on:Nat->Bool} {x:Int}
theorem sW (fr:Pr->Nat->Int) (es web:List Pr) (k:Int):∀i,(fullU fr es web k i).Sublist (es.take i)
 |0=>by simp[fullU]
 |i+1=>by
  have a:=sW fr es web k i;simp only[fullU];cases b:es[i]? with
  |none=>grind
  |some p=>
   have:es.take (i+1)=es.take i++[p]:=by grind [List.take_add_one]
   grind
theorem E7 {web l:List Pr}:x∈kz (cX web l n)↔∃v:Nat,v<n/\x=(v:Int)/\SZ web (v:Int)=true/\SZ l (v:Int)=true:=by grind [kz,cX]
def DX {v:Int}:SZ ps v=true↔∃p∈ps,aO p v=true:=by simp[SZ]
theorem M9 (a:wx n on es L) (b:u<n) (hw:w<n) (c:on u=false) (d:on w=false):L.getD u 0=L.getD w 0↔Cn on es u w:=by grind [wx.same,wx.off]
end Go.Fw
namespace Go.Fw
open Go.Proofs
attribute [local instance] Classical.propDecidable
def Xl (rs:AM):Nat->II:=fun v=>(rs.getD v []).map Int.toNat
structure Av (n:Nat) (es:List Pr) (rs:AM):Prop where
 len:rs.length=n
 perm:∀v,v<n->(rs.getD v []).Perm ((Zh n es).getD v [])
section
variable {n : Nat} {es : List Pr} {rs : List (List Int)}
theorem Av.nat (c:aV n es) (G:Av n es rs) {v:Nat} {x:Int} (a:x∈rs.getD v []):v<n/\∃w:Nat,x=(w:Int)/\w<n/\Jp es v w:=by
 by_cases b:v<n
 .have d := (G.perm v b).mem_iff.1 a
  grind [Ru,EW]
 grind [Av.len]
theorem Av.mem (a:aV n es) (G:Av n es rs) {v w:Nat}:w∈Xl rs v↔Jp es v w:=by
 rw[Xl,aae];constructor
 .rintro ⟨x, b, rfl⟩
  obtain⟨_,w,rfl,_,h⟩:=G.nat a b;exact h
 .intro h
  have c:=(h.lt a).1;exact⟨(w:Int),(G.perm v c).mem_iff.2 ((EW a v w).2 h),rfl⟩
theorem Av.back (a:aV n es) (G:Av n es rs) (v:Nat):(Xl rs v).map (fun(x:Nat)=>(x:Int))=rs.getD v []:=by
 rw[Xl,Q4]
 conv=>rhs;rw[<-adX (rs.getD v [])]
 refine Yi fun x b=>?_;obtain⟨_,w,rfl,_⟩:=G.nat a b;rfl
theorem Av.jD (a:aV n es) (ha:D3 es) (G:Av n es rs):V7 n (Xl rs):=by
 refine⟨fun v=>?_,fun v w h=>(((G.mem a).1 h).lt a).1,fun v w h=>(G.mem a).2 ((G.mem a).1 h).symm,fun v h=>Xa a ((G.mem a).1 h)⟩;by_cases b:v<n
 .have nd : (rs.getD v []).Nodup := (G.perm v b).nodup_iff.2 (Sb.2 ((KW es a ha v).imp fun h e => by omega))
  grind [Xl.eq_1,List.Pairwise.imp_of_mem,Av.nat]
 grind [Xl.eq_1,Av.len]
end
theorem Qy {l:II} (nd:l.Nodup) {j:Nat} (a:j<l.length):nx l l[j]=l[(j+1)%l.length]'(CG _ NH):=by
 have e:l=l.take j++l[j]::l.drop (j+1):=by grind [List.getElem_cons_drop,List.take_append_drop]
 have f:l[j]∉l.take j:=fun h=>by grind
 have b:nx l l[j]=(l.drop (j+1)++(l.take j++[l[j]])).headD 0:=by grind [ZL]
 rw[b];by_cases c:j+1<l.length
 .grind [List.drop_eq_getElem_cons,List.headD_cons,Nat.mod_eq_of_lt]
 .have g : j + 1 = l.length := NH
  rw[kS NH,js];have d:(j+1)%l.length=0:=by grind [Nat.mod_self]
  cases j with
  |zero=>grind
  |succ j=>
   cases l with
   |nil=>simp at a
   |cons x l=>simp only[d,NC,ab4,sD,qL218]
end Go.Fw
namespace Go.Fw
section
attribute [local instance] Classical.propDecidable
open Go.Proofs
structure wW where
 zp:List Pr
 Fm:RZ
 fits:II
instance:Inhabited wW:=⟨⟨[],[],[]⟩⟩
structure kR where
 on:List Bool
 Jv:Cs
 left:List wW
abbrev Wg (on:List Bool):Nat->Bool:=fun u=>on.getD u false
def eJ (n:Nat) (f:II):List Bool:=(List.range n).map fun v=>decide (v∈f)
def lD (Jv:Cs) (Fm:RZ) (f:Nat):Bool:=Fm.all fun v=>decide (v.toNat∈Jv.getD f [])
def zh (Jv:Cs) (Fm:RZ) (a:II):II:=a.filter (lD Jv Fm)
def LF (left:List wW) (i:Nat):Nat:=(left.getD i default).fits.length
def bestK (left:List wW):Nat->Nat
 |0=>0
 |i+1=>if LF left i<LF left (bestK left i)then i else bestK left i
def dt (start:Nat) (st:RZ×II) (v by_:Nat):RZ×II:=if v≠start/\st.1.getD v 0<0 then(st.1.set v (by_:Int),st.2++[v])else st
def wR (start:Nat) (st:RZ×II) (e:Pr):RZ×II:=if e.1=(start:Int)then dt start st e.2.toNat start else if e.2=(start:Int)then dt start st e.1.toNat start else st
def SL (n start:Nat) (zp:List Pr):RZ×II:=zp.foldl (wR start) (List.replicate n (-1),[])
def abl (start:Nat) (st:RZ×II) (v:Nat) (row:RZ):RZ×II:=row.foldl (fun st w=>dt start st w.toNat v) st
def bfsM (rows:AM) (start:Nat) (s0:RZ×II):Nat->RZ×II
  |0=>s0
  |i+1=>match(bfsM rows start s0 i).2[i]? with
    |some v=>abl start (bfsM rows start s0 i) v (rows.getD v [])
    |none=>bfsM rows start s0 i
def XG (rows:AM) (on:List Bool) (start:Nat) (s0:RZ×II) (i:Nat):Bool:=
 match(bfsM rows start s0 i).2[i]? with
 |some v=>Wg on v
 |none=>true
def traceM (fr:RZ) (start:Nat):Nat->Nat->II
 |0,_=>[start]
 |k+1,v=>if v=start then[start]else traceM fr start k (fr.getD v 0).toNat++[v]
def J6 (n:Nat) (rows:AM) (on:List Bool) (p:wW):II:=
  if p.Fm.length<2 then[]else
  let start:=(p.Fm.headD 0).toNat;let s0:=SL n start p.zp
  match(List.range (n+1)).find? (XG rows on start s0)with
  |some i=>match(bfsM rows start s0 i).2[i]? with
    |some v=>traceM (bfsM rows start s0 i).1 start n v
    |none=>[]
  |none=>[]
def Qk (f:II) (i j:Nat):II:=(List.range ((j+f.length-i)%f.length+1)).map fun t=>f.getD ((i+t)%f.length) 0
def Dn (f:II) (v:Nat):Nat:=f.findIdx fun x=>decide (x=v)
def jc (way:II):II:=(way.drop 1).take (way.length-2)
def Ni (way:II):Nat:=way.getD (way.length-1) 0
def Ee (f way:II):II:=Qk f (Dn f (way.headD 0)) (Dn f (Ni way))++(jc way).reverse
def kP (f way:II):II:=Qk f (Dn f (Ni way)) (Dn f (way.headD 0))++jc way
def KI (n:Nat) (way:II):Nat->RZ
 |0=>List.replicate n (-1)
 |i+1=>(KI n way i).set (way.getD i 0) (i:Int)
def aI (pl:RZ) (e:Pr):Bool:=
 let a:=pl.getD e.1.toNat 0;let b:=pl.getD e.2.toNat 0;decide (a<0)||decide (b<0)||(decide (a-b≠1)&&decide (b-a≠1))
def V8 (n:Nat) (zp:List Pr) (way:II):List Pr:=zp.filter (aI (KI n way way.length))
def Uo (l:RZ) (x:Int):RZ:=if x∈l then l else l++[x]
def kZ (l:RZ):RZ:=l.foldl Uo []
noncomputable def MF (n:Nat) (on:Nat->Bool) (es:List Pr):RZ:=(List.range n).map fun v=>((((List.range n).find? fun u=>decide (Cn on es u v)).getD 0:Nat):Int)
noncomputable def vX (n:Nat) (on:List Bool) (es:List Pr):List wW:=(grpsM (Zo n (Wg on) (MF n (Wg on) es)) es [] es.length).map fun g=>⟨g.2,kZ (BY (Wg on) g.2),[]⟩
def tV (on:List Bool) (way:II):List Bool:=way.foldl (fun o v=>o.set v true) on
def GF (Jv:Cs) (f g:Nat) (q:wW):wW:=if f∈q.fits then{q with fits:=zh Jv q.Fm (q.fits++[g])}else q
noncomputable def AU (n:Nat) (rows:AM) (S:kR):Option kR:=
 let a:=bestK S.left S.left.length;let p:=S.left.getD a default
 if p.fits.length=0 then none else
 let way:=J6 n rows S.on p
 if way.length<2 then none else
 let f:=p.fits.headD 0;let g:=S.Jv.length;let EI:=S.Jv.getD f [];let Jv:=S.Jv.set f (Ee EI way)++[kP EI way];let on:=tV S.on way
 some ⟨on,Jv,(S.left.eraseIdx a).map (GF Jv f g)++(vX n on (V8 n p.zp way)).map fun q=>{q with fits:=zh Jv q.Fm (p.fits++[g])}⟩
end
end Go.Fw
namespace Go.Fw
open Go.Proofs
attribute [local instance] Classical.propDecidable
structure BF (n start:Nat) (A:Nat->Prop) (B:Nat->Nat->Prop) (st:RZ×II):Prop where
 len:st.1.length=n
 nd:st.2.Nodup
 lt:∀v∈st.2,v<n/\v≠start
 mm:∀v,v<n->(v∈st.2↔0<=st.1.getD v 0)
 par:∀(k v:Nat),st.2[k]?=some v->(st.1.getD v 0=(start:Int)/\A v)\/∃j u:Nat,j<k/\st.2[j]?=some u/\st.1.getD v 0=(u:Int)/\B u v
section
variable {n start : Nat} {A : Nat → Prop} {B : Nat → Nat → Prop} {st : List Int × List Nat}
theorem BF.zero:BF n start A B (List.replicate n (-1),[]):=by
 refine⟨Ma,Ma,Ma,fun v a=>?_,fun k v h=>by simp at h⟩
 grind
theorem BF.meet (W:BF n start A B st) {v by_:Nat} (m:v<n) (e:(by_=start/\A v)\/∃j:Nat,st.2[j]?=some by_/\B by_ v):
  BF n start A B (dt start st v by_)/\(∃t,(dt start st v by_).2=st.2++t)/\(v=start\/v∈(dt start st v by_).2):=by
 unfold dt;split
 .rename_i c
  obtain⟨c1,c2⟩:=c;have o:v∉st.2:=fun q=>by grind [BF.mm]
  refine⟨⟨by simp[W.len],?_,fun x d=>?_,fun x d=>?_,fun k x a=>?_⟩,⟨_,rfl⟩,.inr Ma⟩
  .grind [BF.nd]
  .rcases WA.1 d with h | h
   .exact W.lt x h
   grind
  .grind [BF.mm]
  .simp only at a ⊢
   have hg:∀y,y∈st.2->(st.1.set v (by_:Int)).getD y 0=st.1.getD y 0:=fun y p=>by grind
   by_cases f:k<st.2.length
   .rw [fR f] at a
    have g:=Gc a;rw[hg x g];rcases W.par k x a with h|⟨j,u,b,h2,h3⟩
    .exact .inl h
    .exact .inr ⟨j,u,b,pw,h3⟩
   .rw [qy NH] at a
    have i:=(qL0.1 a).1;have:k-st.2.length=0:=pw;rw[this]at a;simp at a;subst a;have l:(st.1.set v (by_:Int)).getD v 0=(by_:Int):=pw;rw[l];rcases e with⟨rfl,h⟩|⟨j,b,h2⟩
    .grind
    .have r := (qL0.1 b).1
     exact .inr ⟨j,by_,NH,pw,rfl,h2⟩
 .rename_i c
  refine⟨W,⟨[],Ma⟩,?_⟩
  grind [BF.mm]
theorem pre_mem {l t:II} {v:Nat} {s:II} (h:s=l++t) (a:v∈l):v∈s:=pw
theorem Z5 {l t:II} {v k:Nat} {s:II} (h:s=l++t) (a:l[k]?=some v):s[k]?=some v:=pw
theorem BF.row {v j:Nat}:∀(row:RZ) {st:RZ×II},BF n start A B st->st.2[j]?=some v->(∀x∈row,∃w:Nat,x=(w:Int)/\w<n/\B v w)->
  BF n start A B (abl start st v row)/\(∃t,(abl start st v row).2=st.2++t)/\∀w:Nat,(w:Int)∈row->w=start\/w∈(abl start st v row).2
 |[],st,W,_,_=>⟨W,⟨[],by simp[abl]⟩,fun w hw=>by cases hw⟩
 |x::row,st,W,b,c=>by
  obtain⟨w,rfl,hw,hB⟩:=c x Ma;obtain⟨d,⟨t1,e⟩,m1⟩:=W.meet (v:=w) (by_:=v) hw (.inr ⟨j,b,hB⟩);obtain⟨f,⟨g,k⟩,m2⟩:=d.row row (Z5 e b) (fun y a=>c y (by simp[a]));have i:abl start st v ((w:Int)::row)=abl start (dt start st w v) v row:=rfl;rw[i];refine⟨f,⟨t1++g,pw⟩,fun y a=>?_⟩;rcases Z6.1 a with h|h
  .have : y = w := NH
   grind
  grind
theorem BF.Vk:∀(zp:List Pr) {st:RZ×II},BF n start A B st->(∀e∈zp,(∃a b:Nat,e=((a:Int),(b:Int))/\a<n/\b<n)/\(∀w:Nat,(e=((start:Int),(w:Int))\/e=((w:Int),(start:Int)))->A w))->
  BF n start A B (zp.foldl (wR start) st)/\(∃t,(zp.foldl (wR start) st).2=st.2++t)/\∀e∈zp,∀w:Nat,(e=((start:Int),(w:Int))\/e=((w:Int),(start:Int)))->w≠start->w∈(zp.foldl (wR start) st).2
 |[],st,W,_=>⟨W,⟨[],Ma⟩,fun e c=>by cases c⟩
 |e::zp,st,W,c=>by
  obtain⟨⟨a,b,rfl,ha,hb⟩,hA⟩:=c e Ma;have s1:BF n start A B (wR start st ((a:Int),(b:Int)))/\(∃t,(wR start st ((a:Int),(b:Int))).2=st.2++t)/\∀w:Nat,((((a:Int),(b:Int)):Pr)=((start:Int),(w:Int))\/(((a:Int),(b:Int)):Pr)=((w:Int),(start:Int)))->w≠start->w∈(wR start st ((a:Int),(b:Int))).2:=by
   unfold wR;simp only[yY];split
   .grind [BF.meet]
   .split
    .grind [BF.meet]
    .rename_i h c1
     refine⟨W,⟨[],Ma⟩,fun w hw d=>?_⟩
     grind
  obtain⟨f,⟨t1,i⟩,m1⟩:=s1;obtain⟨j,⟨k,l⟩,m2⟩:=f.Vk zp (fun x g=>c x (by simp[g]))
  grind
theorem BF.jI (W:BF n start A B st):st.2.length<=n:=by
 have:=tf W.nd (B:=List.range n) fun v a=>j9.2 (W.lt v a).1
 grind
theorem BF.trace (W:BF n start A B st):∀(fuel k v:Nat),k<fuel->st.2[k]?=some v->
  ∃L:II,traceM st.1 start fuel v=start::(L++[v])/\(∀x∈L,∃j:Nat,j<k/\st.2[j]?=some x/\∃y,B x y)/\L.Nodup/\A ((L++[v]).headD 0)/\∀(i x y:Nat),(L++[v])[i]?=some x->(L++[v])[i+1]?=some y->B x y
 |0,k,v,h,_=>absurd h (To _)
 |fuel+1,k,v,h,b=>by
  have g:=W.lt v (Gc b);have e:traceM st.1 start (fuel+1) v=traceM st.1 start fuel (st.1.getD v 0).toNat++[v]:=by grind [traceM.eq_2]
  rcases W.par k v b with⟨c,h2⟩|⟨j,u,c,h2,h3,l⟩
  .refine ⟨[], ?_, fun x a => absurd a ff, Ma, h2, fun i x y a d => ?_⟩
   .rw [e, c]
    have:traceM st.1 start fuel (start:Int).toNat=[start]:=by
     cases fuel<;>grind [traceM.eq_1,traceM.eq_2]
    grind
   grind
  .obtain ⟨L, m, o, nL, hA, ch⟩ := W.trace fuel j u NH h2
   refine⟨L++[u],?_,fun x a=>?_,?_,?_,fun i x y a d=>?_⟩
   .grind
   .grind
   .rw [yM]
    grind [X6,BF.nd]
   .grind
   .by_cases q : i + 1 < (L ++ [u]).length
    .grind
    .have f := (qL0.1 d).1
     simp at f q;have hi:i=L.length:=NH;subst hi
     grind [List.getElem?_append_right]
end
end Go.Fw
namespace Go.Fw
open Go.Proofs
attribute [local instance] Classical.propDecidable
theorem Ix {a b:Nat} (h:a<b):GW a b=((a:Int),(b:Int)):=by grind [GW]
theorem cY {a b:Nat} (h:b<a):GW a b=((b:Int),(a:Int)):=by rw[so,Ix h]
theorem Mf {es:List Pr} {a b:Nat} (c:a≠b) (h:GW a b∈es):Jp es a b:=by
 rcases oZ c with k|k
 .rw[Ix k]at h;exact .inl h
 .rw[cY k]at h;exact .inr h
section
variable {n start : Nat} {es : List Pr} {on : List Bool} {A : Nat → Prop} {s0 : List Int × List Nat}
theorem PH (hR:aV n es) (W:BF n start A (fun u v=>Jp es u v/\Wg on u=false) s0):∀i,(∀j,j<i->XG (Zh n es) on start s0 j=false)->
  BF n start A (fun u v=>Jp es u v/\Wg on u=false) (bfsM (Zh n es) start s0 i)/\(∃t,(bfsM (Zh n es) start s0 i).2=s0.2++t)/\
   ∀j,j<i->∃u:Nat,(bfsM (Zh n es) start s0 i).2[j]?=some u/\Wg on u=false/\∀w,Jp es u w->w=start\/w∈(bfsM (Zh n es) start s0 i).2
 |0,_=>⟨W,⟨[],by simp[bfsM]⟩,fun j a=>absurd a (To _)⟩
 |i+1,hs=>by
  obtain⟨d,⟨t1,m⟩,c1⟩:=PH hR W i fun j a=>hs j NH;have hi:=hs i NH;unfold XG at hi;cases b:(bfsM (Zh n es) start s0 i).2[i]? with
  |none=>grind
  |some v=>
   rw[b]at hi;have f:bfsM (Zh n es) start s0 (i+1)=abl start (bfsM (Zh n es) start s0 i) v ((Zh n es).getD v []):=by rw[bfsM,b]
   rw[f];obtain⟨g,⟨k,c⟩,c2⟩:=d.row ((Zh n es).getD v []) b (fun x o=>by grind [Ru,EW]);refine⟨g,⟨t1++k,pw⟩,fun j a=>?_⟩;by_cases e:j=i
   .grind [EW]
   .obtain ⟨u, l, h2, h3⟩ := c1 j NH
    exact⟨u,Z5 c l,h2,fun w hw=>(h3 w hw).imp id fun h=>pre_mem c h⟩
theorem way_spec (hR:aV n es) {p:wW} (hf:2<=p.Fm.length) (hs:(p.Fm.headD 0).toNat=start) (z:start<n) (C:∀e∈p.zp,e∈es):
    (∃inn b,J6 n (Zh n es) on p=nr start inn b/\(nr start inn b).Nodup/\b<n/\Wg on b=true/\(∀x∈inn,Wg on x=false)/\GW start ((inn++[b]).headD 0)∈p.zp/\
      ∀(i x y:Nat),(nr start inn b)[i]?=some x->(nr start inn b)[i+1]?=some y->Jp es x y)\/
    (J6 n (Zh n es) on p=[]/\∃M:II,(∀w,GW start w∈p.zp->w≠start->w∈M)/\∀u∈M,u≠start/\Wg on u=false/\∀w,Jp es u w->w=start\/w∈M):=by
  have r:=(BF.zero (n:=n) (start:=start) (A:=fun w=>GW start w∈p.zp) (B:=fun u v=>Jp es u v/\Wg on u=false)).Vk p.zp fun e D=>by
    have E:=hR e (C e D);obtain⟨a,ea⟩:=HV E.1;obtain⟨b,eb⟩:=HV (show 0<=e.2 by omega)
    grind [Ix,cY]
  have d:p.zp.foldl (wR start) (List.replicate n (-1),[])=SL n start p.zp:=rfl;rw[d]at r;obtain⟨s,-,m0⟩:=r
  have wd:J6 n (Zh n es) on p=match(List.range (n+1)).find? (XG (Zh n es) on start (SL n start p.zp))with
      |some i=>match(bfsM (Zh n es) start (SL n start p.zp) i).2[i]? with
        |some v=>traceM (bfsM (Zh n es) start (SL n start p.zp) i).1 start n v
        |none=>[]
      |none=>[]:=by grind [J6]
  rw[wd];cases c:(List.range (n+1)).find? (XG (Zh n es) on start (SL n start p.zp))with
  |none=>
    exfalso;rw[aeE]at c;have F:∀j,j<n+1->XG (Zh n es) on start (SL n start p.zp) j=false:=fun j h=>by grind
    obtain⟨l,-,c2⟩:=PH hR s (n+1) F;obtain⟨u,G,-⟩:=c2 n NH
    grind [BF.jI]
  |some i=>
    rw[qL169]at c;obtain⟨G,h2,h3⟩:=c;obtain⟨l,⟨t,Q⟩,c2⟩:=PH hR s i fun j h=>by grind
    cases g:(bfsM (Zh n es) start (SL n start p.zp) i).2[i]? with
    |none=>
      refine .inr ⟨pw,(bfsM (Zh n es) start (SL n start p.zp) i).2,fun w hw H=>?_,fun u I=>?_⟩
      .grind [cY,Ix]
      · obtain ⟨j, h⟩ := Og.1 I
        have R:=List.getElem?_eq_none_iff.1 g;have J:=(qL0.1 h).1;obtain⟨u',S,T,U⟩:=c2 j NH
        grind [BF.lt]
    |some v=>
      have K:Wg on v=true:=by grind [XG]
      have hi:i<n:=by grind [BF.jI]
      obtain⟨L,N,O,nL,hA,ch⟩:=l.trace n i v hi g;have m:=l.lt v (Gc g);have f:∀x∈L,Wg on x=false:=fun x o=>by grind
      have P:∀x∈L,x≠start:=fun x o=>by obtain⟨j,_,q,_⟩:=O x o;grind [BF.lt]
      refine .inl ⟨L,v,by simp only[g];exact N,?_,m.1,K,f,hA,fun k x y o V=>?_⟩
      .grind [nr.eq_1,List.nodup_cons,List.mem_singleton]
      · cases k with
        |zero=>
          grind [yT,Mf,BX]
        |succ k=>
          have e:nr start L v=start::(L++[v]):=rfl
          grind
end
end Go.Fw
namespace Go.Fw
section
attribute [local instance] Classical.propDecidable
open Go.Proofs
variable {A B f:II} {a b i m s t:Nat}
theorem gW (nd:f.Nodup) {k v:Nat} (h:f[k]?=some v):Dn f v=k:=by
 obtain⟨b,e⟩:=qL0.1 h;unfold Dn;rw[List.findIdx_eq b];refine⟨by simp[e],fun j c=>?_⟩;have a:j<f.length:=NH;simp only[decide_eq_false_iff_not];intro q;have:=X6 nd (XJ a) (by rw[h,q]);omega
theorem fk {f g:II} {t:II} (h:Cyc f g) (e:g=a::t):∃u v,f=u++a::v/\g=(a::v)++u:=by
 obtain⟨u,v,rfl,rfl⟩:=h;cases v<;>grind
theorem rot_get {u v:II} (b:t<(u++v).length) (d:v≠[]):(v++u)[t]?=some ((u++v).getD ((u.length+t)%(u++v).length) 0):=by
 have f:0<v.length:=zO.2 d;rw[kc]at b;have a:(u++v).length=u.length+v.length:=kc;by_cases c:t<v.length
 .have g : (u.length + t) % (u ++ v).length = u.length + t := by rw [a]; exact bC NH
  grind
 .have e : u.length + t = (t - v.length) + (u.length + v.length) := NH
  have g:(u.length+t)%(u++v).length=t-v.length:=by rw[a,e,TV,bC NH]
  grind
theorem po (hi:i<m) (hs:s<m):((i+s)%m+m-i)%m=s:=by
 by_cases c:i+s<m
 .rw[bC c,show i+s+m-i=s+m from by omega,TV,bC hs]
 .have : (i + s) % m = i + s - m := by rw [Nat.mod_eq_sub_mod NH, bC NH]
  grind [Nat.mod_eq_of_lt]
theorem U1 (nd:f.Nodup) (cy:Cyc f ((a::A)++(b::B))):Qk f (Dn f a) (Dn f b)=a::(A++[b]):=by
 obtain⟨u,v,d,j⟩:=fk cy rfl;have k:((a::A)++(b::B)).length=f.length:=(cy.perm.length_eq).symm;have hi:Dn f a=u.length:=gW nd pw;have g:f.length=(u++a::v).length:=by rw[d]
 have h:u.length<f.length:=pw;have get:∀t,t<f.length->((a::A)++(b::B))[t]?=some (f.getD ((u.length+t)%f.length) 0):=fun t l=>by grind [rot_get]
 have sl:A.length+1<f.length:=pw;have gb:=get (A.length+1) sl;rw[qy Ma,Uz,uu,OM]at gb;injection gb with gb;have m:=CG (u.length+(A.length+1)) (show 0<f.length by omega);have i:Dn f b=(u.length+(A.length+1))%f.length:=by grind [gW]
 unfold Qk;rw[hi,i,po h sl];have e:a::(A++[b])=((a::A)++(b::B)).take (A.length+1+1):=by
  rw[List.take_append,vZ Ma];simp[show A.length+1+1-(A.length+1)=1 from by omega]
 rw[e];apply EH;intro t;rw[dZ];by_cases c:t<A.length+1+1
 .rw[List.getElem?_range c,List.getElem?_take_of_lt c,get t NH];rfl
 grind
theorem cyc_two (ha:a∈f) (hb:b∈f) (d:a≠b):∃A B,Cyc f ((a::A)++(b::B)):=by
 obtain⟨c,e⟩:=Cyc.front ha;have:b∈a::c:=e.perm.mem_iff.1 hb
 grind [sC]
theorem Oy (a b:Nat) (inn:II):jc (nr a inn b)=inn/\Ni (nr a inn b)=b/\(nr a inn b).headD 0=a:=by
 refine⟨?_,?_,rfl⟩
 .unfold jc
  rw[Eo];show((inn++[b]).take (inn.length+2-2))=inn;simp
 grind [Ni,Eo,Fg]
def Gf {f A B inn:II} (nd:f.Nodup) (cy:Cyc f ((a::A)++(b::B))):
  Ee f (nr a inn b)=half a A b inn/\kP f (nr a inn b)=half b B a inn.reverse:=by
 obtain⟨c,d,e3⟩:=Oy a b inn;unfold Ee kP half;rw[c,d,e3,U1 nd cy,U1 nd cy.shift];simp
theorem set_perm {F:Cs} {f:Nat} {EI one:II} (h:F[f]?=some EI) (nd:F.Nodup):(F.set f one).Perm (one::F.erase EI):=pw
variable {L:RZ} {e:Pr} {es web:List Pr} {fr:Pr->Nat->Int} {j n:Nat} {on:Nat->Bool} {α:Type}
theorem QN {l:List α} (nd:l.Nodup) {x:α} (hi:l[i]?=some x) (a:l[j]?=some x):i=j:=by grind [List.getElem_inj]
structure cK (es:List Pr) (P:Pr->Prop) (same:Pr->Pr->Prop) (gs:List (List Pr)):Prop where
 ne:∀g∈gs,g≠[]
 sub:∀g∈gs,g.Sublist es
 inP:∀g∈gs,∀e∈g,P e
 cov:∀e∈es,P e->∃g∈gs,e∈g
 TE:gs.Pairwise fun g g'=>∀e∈g,e∉g'
 one:∀g∈gs,∀e∈g,∀e'∈es,P e'->(e'∈g↔same e e')
theorem Yn {n:Nat} {same:Pr->Pr->Prop} (nd:es.Nodup)
  (h:∀(j c:Nat) e e',es[j]?=some e->es[c]?=some e'->e∉web->e'∉web->(fr e j=fr e' c↔same e e')):
  cK es (fun e=>e∉web) same ((grpsM fr es web es.length).map (·.2)):=by
 obtain⟨d,f,-,-,-⟩:=Pt fr es web es.length;have o:(grpsM fr es web es.length).map (·.2)=(Ea (grpsM fr es web es.length)).map fun k=>fullU fr es web k es.length:=by
  rw[PE (fun l=>l) _ d]
  grind [ZM]
 have a:∀k q,q∈fullU fr es web k es.length↔∃j:Nat,es[j]?=some q/\q∉web/\fr q j=k:=fun k q=>by grind [Zj]
 refine⟨fun g hg=>?_,fun g hg=>?_,fun g hg e b=>?_,fun e b hw=>?_,?_,fun g hg e b e' i hw=>?_⟩
 .grind
 .grind [sW]
 .grind
 .obtain ⟨j, m⟩ := Og.1 b
  have p:e∈fullU fr es web (fr e j) es.length:=(a _ _).2 ⟨j,m,hw,rfl⟩
  grind [rV,ZM]
 .grind
 grind [List.mem_iff_getElem?]
def FW (on:Nat->Bool) (es:List Pr) (e e':Pr):Prop:=
 e=e'\/∃a b:Nat,((a:Int)=e.1\/(a:Int)=e.2)/\((b:Int)=e'.1\/(b:Int)=e'.2)/\on a=false/\on b=false/\Cn on es a b
theorem jB (hR:aV n es) (c:e∈es):∃a b:Nat,e=((a:Int),(b:Int))/\a<b/\b<n:=by
 obtain⟨d,h2,h3⟩:=hR e c;obtain⟨a,ea⟩:=HV d;obtain⟨b,eb⟩:=HV (show 0<=e.2 by omega)
 grind
theorem K2 (hR:aV n es) (nd:es.Nodup) (J:wx n on es L) {j m:Nat} {e e':Pr} (B:es[j]?=some e) (f:es[m]?=some e'):
  Zo n on L e j=Zo n on L e' m↔FW on es e e':=by
 obtain⟨a,b,rfl,C,hb⟩:=jB hR (Gc B);obtain⟨c,d,rfl,o,hd⟩:=jB hR (Gc f);have ad:=(show Jp es a b from .inl (Gc B));have F:=(show Jp es c d from .inl (Gc f));have val:∀v,v<n->on v=false->∃k:Nat,k<n/\L.getD v 0=(k:Int):=fun v O P=>by grind [wx.off]
 have same:∀u w,u<n->w<n->on u=false->on w=false->(L.getD u 0=L.getD w 0↔Cn on es u w):=fun u w g hw p r=>M9 J g hw p r;have key:∀(a b j:Nat),a<b->b<n->Jp es a b->(Zo n on L ((a:Int),(b:Int)) j=(n:Int)+j/\on a=true/\on b=true)\/
   ∃x,(x=a\/x=b)/\x<n/\on x=false/\Zo n on L ((a:Int),(b:Int)) j=L.getD x 0/\∀y,(y=a\/y=b)->on y=false->Cn on es x y:=fun a b j s h2 q=>by
  unfold Zo;simp only[yY];cases G:on a with
  |false=>
   rw[if_pos rfl];refine .inr ⟨a,.inl rfl,NH,G,rfl,fun y t l=>?_⟩;rcases t with rfl|rfl
   .grind
   .exact .step (.refl G) q l
  |true=>
   grind
 rcases key a b j C hb ad with⟨k1,k2,Q⟩|⟨x,K,H,ox,k1,k2⟩
 .rcases key c d m o hd F with ⟨i, z, M⟩ | ⟨y, t, D, l, i, z⟩
  .rw [k1, i]
   constructor
   .intro h
    have:j=m:=NH;subst this;rw[B]at f;injection f with f;exact .inl f
   .rintro (h | ⟨u, w, g, _, p, _⟩)
    .grind [QN]
    .simp only at g
     rcases g with g|g
     .have : u = a := NH
      grind
     .have : u = b := NH
      grind
  .rw [k1, i]
   obtain⟨k,s,h2⟩:=val y D l;rw[h2];constructor
   .grind
   .rintro (h | ⟨u, w, g, _, p, _⟩)
    .injection h with h3 I
     have A:a=c:=NH;have E:b=d:=NH;subst A E;rcases t with rfl|rfl
     all_goals grind
    .simp only at g
     rcases g with g|g
     .have : u = a := NH
      grind
     .have : u = b := NH
      grind
 .rcases key c d m o hd F with ⟨i, z, M⟩ | ⟨y, t, D, l, i, z⟩
  .rw [k1, i]
   obtain⟨k,s,h2⟩:=val x H ox;rw[h2];constructor
   .grind
   .rintro (h | ⟨u, w, _, hw, _, r, _⟩)
    .injection h with h3 I
     have A:a=c:=NH;have E:b=d:=NH;subst A E;rcases K with rfl|rfl
     all_goals grind
    .simp only at hw
     rcases hw with hw|hw
     .have : w = c := NH
      grind
     .have : w = d := NH
      grind
  .rw [k1, i, same x y H D ox l]
   constructor
   .intro h
    refine .inr ⟨x,y,?_,?_,ox,l,h⟩
    .simp only;omega
    .simp only;omega
   .rintro (h | ⟨u, w, g, hw, p, r, N⟩)
    .injection h with h3 I
     have A:a=c:=NH
     grind
    .simp only at g hw
     have s:=k2 u NH p;have h2:=z w NH r;exact(s.trans N).trans h2.symm
theorem uY:wx n on es (MF n on es):=by
 have look:∀u,u<n->on u=false->∃k:Nat,k<n/\(MF n on es)[u]?=some (k:Int)/\Cn on es k u/\(List.range n).find? (fun x=>decide (Cn on es x u))=some k:=fun u a b=>by
  cases hf:(List.range n).find? (fun x=>decide (Cn on es x u))with
  |none=>
   rw[aeE]at hf;exact absurd (decide_eq_true (Cn.refl (es:=es) b)) (hf u (j9.2 a))
  |some k=>
   have c:=List.find?_some hf;have h2:=j9.1 (qL200 hf);refine⟨k,h2,?_,of_decide_eq_true c,rfl⟩
   grind [MF]
 refine⟨by simp[MF],fun u a b=>?_,fun u w a hw d e=>?_⟩
 .grind
 .obtain ⟨k, c, h2, h3, g⟩ := look u a d
  obtain⟨l,h,f,i,j⟩:=look w hw e;rw[h2,f];constructor
  .grind [Cn.symm,Cn.trans]
  grind [Cn.trans,Cn.symm]
end
end Go.Fw
namespace Go.Fw
open Go.Proofs
attribute [local instance] Classical.propDecidable
abbrev eN (n:Nat) (es:List Pr):Nat->II:=Xl (Zh n es)
theorem qG (n:Nat) (es:List Pr):Av n es (Zh n es):=⟨Xq n es,fun v _=>List.Perm.refl _⟩
def Un (R:Nat->II) (H:Nat->Nat->Prop) (v w:Nat):Prop:=w∈R v/\¬H v w
section
variable {n : Nat} {es : List Pr} {H : Nat → Nat → Prop} {F : List (List Nat)} {p : wW}
theorem vD (hR:aV n es) {v w:Nat}:w∈eN n es v↔Jp es v w:=(qG n es).mem hR
def MG (hR:aV n es) (hA:D3 es):V7 n (eN n es):=(qG n es).jD hR hA
def un_in (hR:aV n es) {v w:Nat} (h:Un (eN n es) H v w):GW v w∈es:=T0 hR ((vD hR).1 h.1)
theorem Dc {a b x y:Nat} (h:GW a b=GW x y):(a=x/\b=y)\/(a=y/\b=x):=by grind [bj]
theorem Sl {v w:Nat} {e:Pr} (h:e=GW v w) (a:Nat):((a:Int)=e.1\/(a:Int)=e.2)↔a=v\/a=w:=by grind [bj]
structure EJ (n:Nat) (es:List Pr) (H:Nat->Nat->Prop) (F:Cs) (p:wW):Prop where
 ne:p.zp≠[]
 sub:p.zp.Sublist es
 un:∀v w:Nat,GW v w∈p.zp->¬H v w
 one:∀v w x y:Nat,Un (eN n es) H v w->Un (eN n es) H x y->GW v w∈p.zp->(GW x y∈p.zp↔QI (eN n es) H x y=QI (eN n es) H v w)
 Fm:∀u:Nat,(u:Int)∈p.Fm↔¬off (eN n es) H u/\∃w,Un (eN n es) H u w/\GW u w∈p.zp
 nat:∀x∈p.Fm,0<=x
 fnd:p.Fm.Nodup
 fits:∀i,i∈p.fits↔i<F.length/\∀x∈p.Fm,x.toNat∈F.getD i []
 tnd:p.fits.Nodup
theorem EJ.UQ (P:EJ n es H F p) (hR:aV n es) {e:Pr} (d:e∈p.zp):∃v w,e=GW v w/\v<w/\Un (eN n es) H v w:=by
 obtain⟨a,b,rfl,c,hb⟩:=jB hR (P.sub.subset d);have f:((a:Int),(b:Int))=GW a b:=(Ix c).symm;exact⟨a,b,f,c,(vD hR).2 (.inl (P.sub.subset d)),P.un a b pw⟩
theorem EJ.XB (P:EJ n es H F p) (hR:aV n es) {v w:Nat} (h:GW v w∈p.zp):Un (eN n es) H v w:=by
 refine⟨(vD hR).2 ?_,P.un v w h⟩;have a:=P.sub.subset h;obtain⟨b,h2,_⟩:=hR _ a
 grind [Mf,bj]
def EJ.key (P:EJ n es H F p) (hR:aV n es) {v w x y:Nat} (h:GW v w∈p.zp) (h':GW x y∈p.zp):QI (eN n es) H x y=QI (eN n es) H v w:=
 (P.one v w x y (P.XB hR h) (P.XB hR h') h).1 h'
theorem EJ.VN (P:EJ n es H F p) (hR:aV n es) {u x:Nat} (h:GW u x∈p.zp) {f:II}:Fits (eN n es) H (QI (eN n es) H u x) f↔∀y∈p.Fm,y.toNat∈f:=by
 constructor
 .intro q y c
  obtain⟨t,rfl⟩:=HV (P.nat y c);obtain⟨b,w,h2,h3⟩:=(P.Fm t).1 c;rw[yY];exact q t w ⟨b,h2.1,h2.2⟩ (P.key hR h h3)
 .intro q z y a d
  have b:=(P.one u x z y (P.XB hR h) ⟨a.mem,a.nh⟩ h).2 d;have:=q z ((P.Fm z).2 ⟨a.on,y,⟨a.mem,a.nh⟩,b⟩)
  grind
def EJ.wm (P:EJ n es H F p) (hR:aV n es) {u:Nat} (h:(u:Int)∈p.Fm):∃w,QP (eN n es) H u w/\GW u w∈p.zp:=by
 obtain⟨a,w,h2,h3⟩:=(P.Fm u).1 h;exact⟨w,⟨a,h2.1,h2.2⟩,h3⟩
def EJ.E8 (P:EJ n es H F p) {u w:Nat} (h:QP (eN n es) H u w) (a:GW u w∈p.zp):(u:Int)∈p.Fm:=(P.Fm u).2 ⟨h.on,w,⟨h.mem,h.nh⟩,a⟩
theorem EJ.two (P:EJ n es H F p) (hR:aV n es) (hA:D3 es) (hs:∀v w,H v w->H w v) (D:QG (eN n es)) (h2:∃p q,p≠q/\¬off (eN n es) H p/\¬off (eN n es) H q):
  (∃u:Nat,(u:Int)∈p.Fm)/\∀u:Nat,(u:Int)∈p.Fm->∃z:Nat,(z:Int)∈p.Fm/\u≠z:=by
 obtain⟨h,i⟩:=JY (MG hR hA) hs D h2;refine⟨?_,fun u j=>?_⟩
 .obtain ⟨e, l, k⟩ := EP P.ne
  obtain⟨v,w,m,_,b⟩:=P.UQ hR (e:=e) (by rw[k];simp);have c:GW v w∈p.zp:=pw;obtain⟨u,x,a,d⟩:=i v w b.1 b.2;exact⟨u,P.E8 a ((P.one v w u x b ⟨a.mem,a.nh⟩ c).2 d.symm)⟩
 .obtain ⟨w, a, c⟩ := P.wm hR j
  obtain⟨z,y,f,g,d⟩:=h u w a;exact⟨z,P.E8 f ((P.one u w z y ⟨a.mem,a.nh⟩ ⟨f.mem,f.nh⟩ c).2 d.symm),g⟩
theorem Up (hR:aV n es) {f:List Pr} (c:∀e∈f,e∈es) {on:Nat->Bool} (k:∀v,v<n->(on v=true↔¬off (eN n es) H v)) {a b:Nat} (ha:a<n) (h:Cn on f a b):Cr (Mm (eN n es) H) a b/\b<n/\off (eN n es) H b:=by
 have g:∀v,v<n->on v=false->off (eN n es) H v:=fun v r o=>IE fun q=>by grind
 induction h with
 |refl o=>exact⟨.refl _,ha,g _ ha o⟩
 |@step w x _ i o l=>
  obtain⟨m,h2,h3⟩:=l;have d:Jp es w x:=i.imp (c _) (c _);have j:=(d.lt hR).2;exact⟨m.step (EM.2 ⟨(vD hR).2 d,h3,g x j o⟩),j,g x j o⟩
theorem BL (hR:aV n es) {d:List Pr} {on:Nat->Bool} (g:∀v,v<n->(on v=true↔¬off (eN n es) H v)) {a b:Nat} (ha:a<n) (i:off (eN n es) H a)
  (e:∀y z,Cr (Mm (eN n es) H) a y->z∈Mm (eN n es) H y->Jp d y z) (h:Cr (Mm (eN n es) H) a b):Cn on d a b:=by
 have f:∀v,v<n->off (eN n es) H v->on v=false:=fun v l o=>by
  cases c:on v<;>grind
 induction h with
 |refl=>exact .refl (f a ha i)
 |@step y z j h2 k=>
  obtain⟨m1,_,m3⟩:=EM.1 h2;exact .step k (e y z j h2) (f z (((vD hR).1 m1).lt hR).2 m3)
theorem Nj (hR:aV n es) (hA:D3 es) (hs:∀v w,H v w->H w v) {f:List Pr} {Q:Pr->Prop} {on:Nat->Bool} (l:∀e∈f,e∈es) (m:∀v,v<n->(on v=true↔¬off (eN n es) H v)) {gs:List (List Pr)}
  (T:cK f Q (FW on f) gs) (z:∀v w,GW v w∈f->Q (GW v w)->Un (eN n es) H v w)
  (cl:∀v w x y,Un (eN n es) H x y->GW v w∈f->Q (GW v w)->QI (eN n es) H x y=QI (eN n es) H v w->GW x y∈f/\Q (GW x y)) {g:List Pr} (hg:g∈gs) {v w x y:Nat} (r:Un (eN n es) H x y) (A:GW v w∈g):
  GW x y∈g↔QI (eN n es) H x y=QI (eN n es) H v w:=by
 have k:=MG hR hA;have m1:=(T.sub g hg).subset A;have B:=T.inP g hg _ A;have i:=z v w m1 B;have lt:∀{v w},Un (eN n es) H v w->v<n/\w<n:=fun h=>((vD hR).1 h.1).lt hR;have toP:FW on f (GW v w) (GW x y)↔jJ (eN n es) H v w x y:=by
  constructor
  .rintro (h | ⟨a, b, ha, hb, t, E, C⟩)
   .rcases Dc h with h | h
    .exact .inl h
    .exact .inr (.inl h)
   .rw [Sl rfl] at ha hb
    have u:a<n:=ha.elim (fun e=>e▸(lt i).1) fun e=>e▸(lt i).2;obtain⟨c1,c2,G⟩:=Up hR l m u C;have D:off (eN n es) H a:=IE fun q=>by grind
    exact .inr (.inr ⟨a,b,ha,hb,D,G,c1⟩)
  .rintro (⟨rfl, rfl⟩ | ⟨rfl, rfl⟩ | ⟨a, b, ha, hb, t, E, C⟩)
   .exact .inl rfl
   .exact .inl (so _ _)
   .have u : a < n := ha.elim (fun e => e ▸ (lt i).1) fun e => e ▸ (lt i).2
    have I:b<n:=hb.elim (fun e=>e▸(lt r).1) fun e=>e▸(lt r).2;have s:∀v,v<n->off (eN n es) H v->on v=false:=fun v i o=>by
     cases c:on v<;>grind
    refine .inr ⟨a,b,(Sl rfl a).2 ha,(Sl rfl b).2 hb,s a u t,s b I E,BL hR m u t (fun c d J h2=>?_) C⟩;obtain⟨k1,k2,N⟩:=EM.1 h2;have K:Un (eN n es) H c d:=⟨k1,k2 d k1⟩;obtain⟨L,M⟩:=cl v w c d K m1 B (by rw[IV k i.1 ha t,M6 k2,(fX k).2 J])
    grind [Mf,V7.ir]
 rw[Uu k r.1 i.1];have j:jJ (eN n es) H x y v w↔jJ (eN n es) H v w x y:=⟨fun h=>h.symm k,fun h=>h.symm k⟩;rw[j,<-toP];constructor
 .intro h
  exact(T.one g hg _ A _ ((T.sub g hg).subset h) (T.inP g hg _ h)).1 h
 .intro h
  obtain⟨L,M⟩:=cl v w x y r m1 B ((Uu k r.1 i.1).2 (j.2 (toP.1 h)))
  grind [cK.one]
end
end Go.Fw
