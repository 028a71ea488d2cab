/- A text. -/
import Derived.Test.YtkccdnmaaelbiaaGreatFwLB17
import Derived.Test.YtkccdnmaaelbiaaGreatFwEmb30
set_option linter.all false
set_option maxRecDepth 99999
set_option maxHeartbeats 9999999
namespace Go.Fw
section
attribute [local instance] Classical.propDecidable
open Go.Proofs
structure wW where
 zp:List Pr
 Fm:RZ
 fits:II
instance:Inhabited wW:=⟨⟨[],[],[]⟩⟩
structure kR where
 on:List Bool
 Jv:Cs
 left:List wW
abbrev Wg (on:List Bool):Nat->Bool:=fun u=>on.getD u false
def eJ (n:Nat) (f:II):List Bool:=(List.range n).map fun v=>decide (v∈f)
def lD (Jv:Cs) (Fm:RZ) (f:Nat):Bool:=Fm.all fun v=>decide (v.toNat∈Jv.getD f [])
def zh (Jv:Cs) (Fm:RZ) (a:II):II:=a.filter (lD Jv Fm)
def LF (left:List wW) (i:Nat):Nat:=(left.getD i default).fits.length
def bestK (left:List wW):Nat->Nat
 |0=>0
 |i+1=>if LF left i<LF left (bestK left i)then i else bestK left i
def aaY (start:Nat) (st:RZ×II) (v by_:Nat):RZ×II:=if v≠start/\st.1.getD v 0<0 then(st.1.set v (by_:Int),st.2++[v])else st
def wR (start:Nat) (st:RZ×II) (e:Pr):RZ×II:=if e.1=(start:Int)then aaY start st e.2.toNat start else if e.2=(start:Int)then aaY start st e.1.toNat start else st
def aaP (n start:Nat) (zp:List Pr):RZ×II:=zp.foldl (wR start) (List.replicate n (-1),[])
def abO (start:Nat) (st:RZ×II) (v:Nat) (row:RZ):RZ×II:=row.foldl (fun st w=>aaY start st w.toNat v) st
def bfsM (rows:AM) (start:Nat) (s0:RZ×II):Nat->RZ×II
  |0=>s0
  |i+1=>match(bfsM rows start s0 i).2[i]? with
    |some v=>abO start (bfsM rows start s0 i) v (rows.getD v [])
    |none=>bfsM rows start s0 i
def XG (rows:AM) (on:List Bool) (start:Nat) (s0:RZ×II) (i:Nat):Bool:=
 match(bfsM rows start s0 i).2[i]? with
 |some v=>Wg on v
 |none=>true
def traceM (fr:RZ) (start:Nat):Nat->Nat->II
 |0,_=>[start]
 |k+1,v=>if v=start then[start]else traceM fr start k (fr.getD v 0).toNat++[v]
def J6 (n:Nat) (rows:AM) (on:List Bool) (p:wW):II:=
  if p.Fm.length<2 then[]else
  let start:=(p.Fm.headD 0).toNat;let s0:=aaP n start p.zp
  match(List.range (n+1)).find? (XG rows on start s0)with
  |some i=>match(bfsM rows start s0 i).2[i]? with
    |some v=>traceM (bfsM rows start s0 i).1 start n v
    |none=>[]
  |none=>[]
def Qk (f:II) (i j:Nat):II:=(List.range ((j+f.length-i)%f.length+1)).map fun t=>f.getD ((i+t)%f.length) 0
def Dn (f:II) (v:Nat):Nat:=f.findIdx fun x=>decide (x=v)
def jc (way:II):II:=(way.drop 1).take (way.length-2)
def Ni (way:II):Nat:=way.getD (way.length-1) 0
def Ee (f way:II):II:=Qk f (Dn f (way.headD 0)) (Dn f (Ni way))++(jc way).reverse
def kP (f way:II):II:=Qk f (Dn f (Ni way)) (Dn f (way.headD 0))++jc way
def KI (n:Nat) (way:II):Nat->RZ
 |0=>List.replicate n (-1)
 |i+1=>(KI n way i).set (way.getD i 0) (i:Int)
def aI (pl:RZ) (e:Pr):Bool:=
 let a:=pl.getD e.1.toNat 0;let b:=pl.getD e.2.toNat 0;decide (a<0)||decide (b<0)||(decide (a-b≠1)&&decide (b-a≠1))
def V8 (n:Nat) (zp:List Pr) (way:II):List Pr:=zp.filter (aI (KI n way way.length))
def Uo (l:RZ) (x:Int):RZ:=if x∈l then l else l++[x]
def kZ (l:RZ):RZ:=l.foldl Uo []
noncomputable def MF (n:Nat) (on:Nat->Bool) (es:List Pr):RZ:=(List.range n).map fun v=>((((List.range n).find? fun u=>decide (Cn on es u v)).getD 0:Nat):Int)
noncomputable def vX (n:Nat) (on:List Bool) (es:List Pr):List wW:=(grpsM (Zo n (Wg on) (MF n (Wg on) es)) es [] es.length).map fun g=>⟨g.2,kZ (BY (Wg on) g.2),[]⟩
def tV (on:List Bool) (way:II):List Bool:=way.foldl (fun o v=>o.set v true) on
def GF (Jv:Cs) (f g:Nat) (q:wW):wW:=if f∈q.fits then{q with fits:=zh Jv q.Fm (q.fits++[g])}else q
noncomputable def AU (n:Nat) (rows:AM) (S:kR):Option kR:=
 let a:=bestK S.left S.left.length;let p:=S.left.getD a default
 if p.fits.length=0 then none else
 let way:=J6 n rows S.on p
 if way.length<2 then none else
 let f:=p.fits.headD 0;let g:=S.Jv.length;let EI:=S.Jv.getD f [];let Jv:=S.Jv.set f (Ee EI way)++[kP EI way];let on:=tV S.on way
 some ⟨on,Jv,(S.left.eraseIdx a).map (GF Jv f g)++(vX n on (V8 n p.zp way)).map fun q=>{q with fits:=zh Jv q.Fm (p.fits++[g])}⟩
end
end Go.Fw
namespace Go.Fw
open Go.Proofs
attribute [local instance] Classical.propDecidable
structure BF (n start:Nat) (A:Nat->Prop) (B:Nat->Nat->Prop) (st:RZ×II):Prop where
 len:st.1.length=n
 nd:st.2.Nodup
 lt:∀v∈st.2,v<n/\v≠start
 mm:∀v,v<n->(v∈st.2↔0<=st.1.getD v 0)
 par:∀(k v:Nat),st.2[k]?=some v->(st.1.getD v 0=(start:Int)/\A v)\/∃j u:Nat,j<k/\st.2[j]?=some u/\st.1.getD v 0=(u:Int)/\B u v
section
variable {n start : Nat} {A : Nat → Prop} {B : Nat → Nat → Prop} {st : List Int × List Nat}
theorem BF.zero:BF n start A B (List.replicate n (-1),[]):=by
 refine⟨Ma,Ma,Ma,fun v a=>?_,pw⟩
 grind
theorem BF.meet (W:BF n start A B st) {v by_:Nat} (i:v<n) (d:(by_=start/\A v)\/∃j:Nat,st.2[j]?=some by_/\B by_ v):
  BF n start A B (aaY start st v by_)/\(∃t,(aaY start st v by_).2=st.2++t)/\(v=start\/v∈(aaY start st v by_).2):=by
 unfold aaY;split
 .have l : v ∉ st.2 := by grind [BF.mm]
  refine⟨⟨by simp[W.len],?_,fun x c=>?_,fun x c=>?_,fun k x a=>?_⟩,⟨_,rfl⟩,.inr Ma⟩
  .grind [BF.nd]
  .rcases Sb.1 c with h | h
   .exact W.lt x h
   grind
  .grind [BF.mm]
  .have hg : ∀ y, y ∈ st.2 -> (st.1.set v (by_ : Int)).getD y 0 = st.1.getD y 0 := pw
   by_cases e:k<st.2.length
   .rw [fR e] at a
    have f:=Gc a;rw[hg x f];rcases W.par k x a with h|⟨j,u,b,h2,h3⟩
    .exact .inl h
    .exact .inr ⟨j,u,b,pw,h3⟩
   .rw [AE NH] at a
    have:k-st.2.length=0:=pw;rw[this]at a;simp at a;subst a;have g:(st.1.set v (by_:Int)).getD v 0=(by_:Int):=pw;rw[g];rcases d with⟨rfl,h⟩|⟨j,b,h2⟩
    .grind
    .have m := (Ny.1 b).1
     exact .inr ⟨j,by_,NH,pw,rfl,h2⟩
 .refine ⟨W, ⟨[], Ma⟩, ?_⟩
  grind [BF.mm]
theorem pre_mem {l t:II} {v:Nat} {s:II} (h:s=l++t) (a:v∈l):v∈s:=pw
theorem Z5 {l t:II} {v k:Nat} {s:II} (h:s=l++t) (a:l[k]?=some v):s[k]?=some v:=pw
theorem BF.row {v j:Nat}:∀(row:RZ) {st:RZ×II},BF n start A B st->st.2[j]?=some v->(∀x∈row,∃w:Nat,x=(w:Int)/\w<n/\B v w)->
  BF n start A B (abO start st v row)/\(∃t,(abO start st v row).2=st.2++t)/\∀w:Nat,(w:Int)∈row->w=start\/w∈(abO start st v row).2
 |[],st,W,_,_=>⟨W,⟨[],by simp[abO]⟩,pw⟩
 |x::row,st,W,a,b=>by
  obtain⟨w,rfl,hw,hB⟩:=b x Ma;obtain⟨c,⟨t1,d⟩,m1⟩:=W.meet (v:=w) (by_:=v) hw pw;obtain⟨e,⟨g,i⟩,m2⟩:=c.row row (Z5 d a) pw;have k:abO start st v ((w:Int)::row)=abO start (aaY start st w v) v row:=rfl;refine⟨e,pw,fun y f=>?_⟩;rcases WA.1 f with h|h
  .have : y = w := NH
   grind
  grind
theorem BF.Vk:∀(zp:List Pr) {st:RZ×II},BF n start A B st->(∀e∈zp,(∃a b:Nat,e=((a:Int),(b:Int))/\a<n/\b<n)/\(∀w:Nat,(e=((start:Int),(w:Int))\/e=((w:Int),(start:Int)))->A w))->
  BF n start A B (zp.foldl (wR start) st)/\(∃t,(zp.foldl (wR start) st).2=st.2++t)/\∀e∈zp,∀w:Nat,(e=((start:Int),(w:Int))\/e=((w:Int),(start:Int)))->w≠start->w∈(zp.foldl (wR start) st).2
 |[],st,W,_=>⟨W,⟨[],Ma⟩,pw⟩
 |e::zp,st,W,c=>by
  obtain⟨⟨a,b,rfl,ha,hb⟩,hA⟩:=c e Ma;have s1:BF n start A B (wR start st ((a:Int),(b:Int)))/\(∃t,(wR start st ((a:Int),(b:Int))).2=st.2++t)/\∀w:Nat,((((a:Int),(b:Int)):Pr)=((start:Int),(w:Int))\/(((a:Int),(b:Int)):Pr)=((w:Int),(start:Int)))->w≠start->w∈(wR start st ((a:Int),(b:Int))).2:=by
   unfold wR;split
   .grind [BF.meet]
   .split
    .grind [BF.meet]
    .refine ⟨W, ⟨[], Ma⟩, fun w hw d => ?_⟩
     grind
  obtain⟨f,⟨t1,g⟩,m1⟩:=s1;obtain⟨h,⟨i,j⟩,m2⟩:=f.Vk zp pw
  grind
theorem BF.jI (W:BF n start A B st):st.2.length<=n:=by
 have:=tf W.nd (B:=List.range n) (by grind [BF.lt])
 grind
theorem BF.trace (W:BF n start A B st):∀(fuel k v:Nat),k<fuel->st.2[k]?=some v->
  ∃L:II,traceM st.1 start fuel v=start::(L++[v])/\(∀x∈L,∃j:Nat,j<k/\st.2[j]?=some x/\∃y,B x y)/\L.Nodup/\A ((L++[v]).headD 0)/\∀(i x y:Nat),(L++[v])[i]?=some x->(L++[v])[i+1]?=some y->B x y
 |0,k,v,h,_=>by grind
 |fuel+1,k,v,h,a=>by
  have f:=W.lt v (Gc a);have g:traceM st.1 start (fuel+1) v=traceM st.1 start fuel (st.1.getD v 0).toNat++[v]:=by grind [traceM.eq_2]
  rcases W.par k v a with⟨d,h2⟩|⟨j,u,d,h2,h3,l⟩
  .refine ⟨[], ?_, pw, Ma, h2, fun i x y b c => ?_⟩
   .have:traceM st.1 start fuel (start:Int).toNat=[start]:=by
     cases fuel<;>grind [traceM.eq_1,traceM.eq_2]
    grind
   grind
  .obtain ⟨L, m, o, nL, hA, ch⟩ := W.trace fuel j u NH h2
   refine⟨L++[u],?_,fun x b=>?_,?_,?_,fun i x y b c=>?_⟩
   .grind
   .grind
   .grind [X6,BF.nd]
   .grind
   .by_cases q : i + 1 < (L ++ [u]).length
    .grind
    .have e := (Ny.1 c).1
     simp at e q;have hi:i=L.length:=NH;subst hi
     grind [List.getElem?_append_right]
end
end Go.Fw
namespace Go.Fw
open Go.Proofs
attribute [local instance] Classical.propDecidable
theorem Ix {a b:Nat} (h:a<b):GW a b=((a:Int),(b:Int)):=by grind [GW]
theorem cY {a b:Nat} (h:b<a):GW a b=((b:Int),(a:Int)):=by rw[aag,Ix h]
theorem Mf {es:List Pr} {a b:Nat} (c:a≠b) (h:GW a b∈es):Jp es a b:=by
 rcases GK c with k|k
 .rw[Ix k]at h;exact .inl h
 .rw[cY k]at h;exact .inr h
section
variable {n start : Nat} {es : List Pr} {on : List Bool} {A : Nat → Prop} {s0 : List Int × List Nat}
theorem PH (hR:aV n es) (W:BF n start A (fun u v=>Jp es u v/\Wg on u=false) s0):∀i,(∀j,j<i->XG (Zh n es) on start s0 j=false)->
  BF n start A (fun u v=>Jp es u v/\Wg on u=false) (bfsM (Zh n es) start s0 i)/\(∃t,(bfsM (Zh n es) start s0 i).2=s0.2++t)/\
   ∀j,j<i->∃u:Nat,(bfsM (Zh n es) start s0 i).2[j]?=some u/\Wg on u=false/\∀w,Jp es u w->w=start\/w∈(bfsM (Zh n es) start s0 i).2
 |0,_=>⟨W,⟨[],by simp[bfsM]⟩,pw⟩
 |i+1,hs=>by
  obtain⟨b,⟨t1,h⟩,c1⟩:=PH hR W i pw;have hi:=hs i NH;unfold XG at hi;cases a:(bfsM (Zh n es) start s0 i).2[i]? with
  |none=>grind
  |some v=>
   have c:bfsM (Zh n es) start s0 (i+1)=abO start (bfsM (Zh n es) start s0 i) v ((Zh n es).getD v []):=by rw[bfsM,a]
   rw[c];obtain⟨d,⟨k,f⟩,c2⟩:=b.row ((Zh n es).getD v []) a (by grind [Ru,EW]);refine⟨d,pw,fun j l=>?_⟩;by_cases e:j=i
   .grind [EW]
   .obtain ⟨u, g, h2, h3⟩ := c1 j NH
    exact⟨u,Z5 f g,h2,(by grind [pre_mem])⟩
theorem way_spec (hR:aV n es) {p:wW} (hf:2<=p.Fm.length) (hs:(p.Fm.headD 0).toNat=start) (q:start<n) (r:∀e∈p.zp,e∈es):
    (∃inn b,J6 n (Zh n es) on p=nr start inn b/\(nr start inn b).Nodup/\b<n/\Wg on b=true/\(∀x∈inn,Wg on x=false)/\GW start ((inn++[b]).headD 0)∈p.zp/\
      ∀(i x y:Nat),(nr start inn b)[i]?=some x->(nr start inn b)[i+1]?=some y->Jp es x y)\/
    (J6 n (Zh n es) on p=[]/\∃M:II,(∀w,GW start w∈p.zp->w≠start->w∈M)/\∀u∈M,u≠start/\Wg on u=false/\∀w,Jp es u w->w=start\/w∈M):=by
  have s:=(BF.zero (n:=n) (start:=start) (A:=fun w=>GW start w∈p.zp) (B:=fun u v=>Jp es u v/\Wg on u=false)).Vk p.zp fun e z=>by
    have C:=hR e (r e z);obtain⟨a,ea⟩:=yY C.1;obtain⟨b,eb⟩:=yY (show 0<=e.2 by omega)
    grind [Ix,cY]
  have l:p.zp.foldl (wR start) (List.replicate n (-1),[])=aaP n start p.zp:=rfl;obtain⟨m,-,m0⟩:=s
  have wd:J6 n (Zh n es) on p=match(List.range (n+1)).find? (XG (Zh n es) on start (aaP n start p.zp))with
      |some i=>match(bfsM (Zh n es) start (aaP n start p.zp) i).2[i]? with
        |some v=>traceM (bfsM (Zh n es) start (aaP n start p.zp) i).1 start n v
        |none=>[]
      |none=>[]:=by grind [J6]
  rw[wd];cases f:(List.range (n+1)).find? (XG (Zh n es) on start (aaP n start p.zp))with
  |none=>
    have D:∀j,j<n+1->XG (Zh n es) on start (aaP n start p.zp) j=false:=pw;obtain⟨g,-,c2⟩:=PH hR m (n+1) D;obtain⟨u,N,-⟩:=c2 n NH
    grind [BF.jI]
  |some i=>
    rw[qL166]at f;obtain⟨g,⟨t,O⟩,c2⟩:=PH hR m i pw;cases d:(bfsM (Zh n es) start (aaP n start p.zp) i).2[i]? with
    |none=>
      refine .inr ⟨pw,(bfsM (Zh n es) start (aaP n start p.zp) i).2,fun w hw E=>?_,fun u F=>?_⟩
      .grind [cY,Ix]
      · obtain ⟨j, G⟩ := yM.1 F
        have P:=List.getElem?_eq_none_iff.1 d;have H:=(Ny.1 G).1;obtain⟨u',Q,R,S⟩:=c2 j NH
        grind [BF.lt]
    |some v=>
      have I:Wg on v=true:=by grind [XG]
      have hi:i<n:=by grind [BF.jI]
      obtain⟨L,J,T,nL,hA,ch⟩:=g.trace n i v hi d;have h:=g.lt v (Gc d);have c:∀x∈L,Wg on x=false:=fun x o=>by grind
      have K:∀x∈L,x≠start:=fun x o=>by grind [BF.lt]
      refine .inl ⟨L,v,by simp only[d];exact J,?_,h.1,I,c,hA,fun k x y o U=>?_⟩
      .grind [nr.eq_1,List.nodup_cons,List.mem_singleton]
      · cases k with
        |zero=>
          grind [yT,Mf,BX]
        |succ k=>
          have e:nr start L v=start::(L++[v]):=rfl
          grind
end
end Go.Fw
namespace Go.Fw
section
attribute [local instance] Classical.propDecidable
open Go.Proofs
variable {A B f:II} {a b i m s t:Nat}
theorem gW (nd:f.Nodup) {k v:Nat} (h:f[k]?=some v):Dn f v=k:=by
 obtain⟨b,e⟩:=Ny.1 h;unfold Dn;rw[List.findIdx_eq b];refine⟨by simp[e],fun j c=>?_⟩;have a:j<f.length:=NH;simp only[decide_eq_false_iff_not];intro q;have:=X6 nd (XJ a) (by rw[h,q]);omega
theorem fk {f g:II} {t:II} (h:Cyc f g) (e:g=a::t):∃u v,f=u++a::v/\g=(a::v)++u:=by
 obtain⟨u,v,rfl,rfl⟩:=h;cases v<;>grind
theorem rot_get {u v:II} (d:t<(u++v).length) (f:v≠[]):(v++u)[t]?=some ((u++v).getD ((u.length+t)%(u++v).length) 0):=by
 have a:(u++v).length=u.length+v.length:=vZ;by_cases c:t<v.length
 .have b : (u.length + t) % (u ++ v).length = u.length + t := by exact U9 NH
  grind
 .have e : u.length + t = (t - v.length) + (u.length + v.length) := NH
  have b:(u.length+t)%(u++v).length=t-v.length:=by rw[a,e,NC,U9 NH]
  grind
theorem po (hi:i<m) (hs:s<m):((i+s)%m+m-i)%m=s:=by
 by_cases c:i+s<m
 .rw[U9 c,show i+s+m-i=s+m from by omega,NC,U9 hs]
 .have : (i + s) % m = i + s - m := by rw [Nat.mod_eq_sub_mod NH, U9 NH]
  grind [Nat.mod_eq_of_lt]
theorem U1 (nd:f.Nodup) (cy:Cyc f ((a::A)++(b::B))):Qk f (Dn f a) (Dn f b)=a::(A++[b]):=by
 obtain⟨u,v,d,j⟩:=fk cy rfl;have k:((a::A)++(b::B)).length=f.length:=(cy.perm.length_eq).symm;have hi:Dn f a=u.length:=gW nd pw;have g:f.length=(u++a::v).length:=by rw[d]
 have h:u.length<f.length:=pw;have get:∀t,t<f.length->((a::A)++(b::B))[t]?=some (f.getD ((u.length+t)%f.length) 0):=by grind [rot_get]
 have sl:A.length+1<f.length:=pw;have gb:=get (A.length+1) sl;rw[AE Ma,vg,ab5,OM]at gb;injection gb with gb;have l:=C4 (u.length+(A.length+1)) (show 0<f.length by omega);have i:Dn f b=(u.length+(A.length+1))%f.length:=by grind [gW]
 unfold Qk;rw[hi,i,po h sl];have e:a::(A++[b])=((a::A)++(b::B)).take (A.length+1+1):=by
  rw[List.take_append,IE Ma];simp[show A.length+1+1-(A.length+1)=1 from by omega]
 rw[e];apply EH;intro t;rw[PN];by_cases c:t<A.length+1+1
 .rw[List.getElem?_range c,List.getElem?_take_of_lt c,get t NH];rfl
 grind
theorem cyc_two (ha:a∈f) (hb:b∈f) (d:a≠b):∃A B,Cyc f ((a::A)++(b::B)):=by
 obtain⟨c,e⟩:=Cyc.front ha;have:b∈a::c:=e.perm.mem_iff.1 hb
 grind [sC]
theorem Oy (a b:Nat) (inn:II):jc (nr a inn b)=inn/\Ni (nr a inn b)=b/\(nr a inn b).headD 0=a:=by
 refine⟨?_,?_,rfl⟩
 .unfold jc
  rw[Eo];show((inn++[b]).take (inn.length+2-2))=inn;simp
 grind [Ni,Eo,Fg]
def Gf {f A B inn:II} (nd:f.Nodup) (cy:Cyc f ((a::A)++(b::B))):
  Ee f (nr a inn b)=half a A b inn/\kP f (nr a inn b)=half b B a inn.reverse:=by
 obtain⟨c,d,e3⟩:=Oy a b inn;unfold Ee kP half;rw[c,d,e3,U1 nd cy,U1 nd cy.shift];simp
theorem set_perm {F:Cs} {f:Nat} {EI one:II} (h:F[f]?=some EI) (nd:F.Nodup):(F.set f one).Perm (one::F.erase EI):=pw
variable {L:RZ} {e:Pr} {es web:List Pr} {fr:Pr->Nat->Int} {j n:Nat} {on:Nat->Bool} {α:Type}
theorem QN {l:List α} (nd:l.Nodup) {x:α} (hi:l[i]?=some x) (a:l[j]?=some x):i=j:=by grind [List.getElem_inj]
structure cK (es:List Pr) (P:Pr->Prop) (same:Pr->Pr->Prop) (gs:List (List Pr)):Prop where
 ne:∀g∈gs,g≠[]
 sub:∀g∈gs,g.Sublist es
 inP:∀g∈gs,∀e∈g,P e
 cov:∀e∈es,P e->∃g∈gs,e∈g
 TE:gs.Pairwise fun g g'=>∀e∈g,e∉g'
 one:∀g∈gs,∀e∈g,∀e'∈es,P e'->(e'∈g↔same e e')
theorem Yn {n:Nat} {same:Pr->Pr->Prop} (nd:es.Nodup)
  (h:∀(j b:Nat) e e',es[j]?=some e->es[b]?=some e'->e∉web->e'∉web->(fr e j=fr e' b↔same e e')):
  cK es (fun e=>e∉web) same ((grpsM fr es web es.length).map (·.2)):=by
 obtain⟨d,f,-,-,-⟩:=Pt fr es web es.length;have m:(grpsM fr es web es.length).map (·.2)=(Ea (grpsM fr es web es.length)).map fun k=>fullU fr es web k es.length:=by
  rw[PE (fun l=>l) _ d]
  grind [ZM]
 have c:∀k q,q∈fullU fr es web k es.length↔∃j:Nat,es[j]?=some q/\q∉web/\fr q j=k:=by grind [Zj]
 refine⟨fun g hg=>?_,fun g hg=>?_,fun g hg e a=>?_,fun e a hw=>?_,?_,fun g hg e a e' i hw=>?_⟩
 .grind
 .grind [sW]
 .grind
 .obtain ⟨j, o⟩ := yM.1 a
  have p:e∈fullU fr es web (fr e j) es.length:=pw
  grind [rV,ZM]
 .grind
 grind [List.mem_iff_getElem?]
def FW (on:Nat->Bool) (es:List Pr) (e e':Pr):Prop:=
 e=e'\/∃a b:Nat,((a:Int)=e.1\/(a:Int)=e.2)/\((b:Int)=e'.1\/(b:Int)=e'.2)/\on a=false/\on b=false/\Cn on es a b
theorem jB (hR:aV n es) (c:e∈es):∃a b:Nat,e=((a:Int),(b:Int))/\a<b/\b<n:=by
 obtain⟨d,h2,h3⟩:=hR e c;obtain⟨a,ea⟩:=yY d;obtain⟨b,eb⟩:=yY (show 0<=e.2 by omega)
 grind
theorem K2 (hR:aV n es) (nd:es.Nodup) (I:wx n on es L) {j l:Nat} {e e':Pr} (s:es[j]?=some e) (f:es[l]?=some e'):
  Zo n on L e j=Zo n on L e' l↔FW on es e e':=by
 obtain⟨a,b,rfl,t,hb⟩:=jB hR (Gc s);obtain⟨c,d,rfl,m,hd⟩:=jB hR (Gc f);have ad:=(show Jp es a b from .inl (Gc s));have C:=(show Jp es c d from .inl (Gc f));have val:∀v,v<n->on v=false->∃k:Nat,k<n/\L.getD v 0=(k:Int):=by grind [wx.off]
 have same:∀u w,u<n->w<n->on u=false->on w=false->(L.getD u 0=L.getD w 0↔Cn on es u w):=by grind [M9]
 have key:∀(a b j:Nat),a<b->b<n->Jp es a b->(Zo n on L ((a:Int),(b:Int)) j=(n:Int)+j/\on a=true/\on b=true)\/
   ∃x,(x=a\/x=b)/\x<n/\on x=false/\Zo n on L ((a:Int),(b:Int)) j=L.getD x 0/\∀y,(y=a\/y=b)->on y=false->Cn on es x y:=fun a b j p h2 o=>by
  unfold Zo;simp only[Z6];cases D:on a with
  |false=>
   refine .inr ⟨a,.inl rfl,NH,D,rfl,fun y z i=>?_⟩;rcases z with rfl|rfl
   .grind
   .exact .step (.refl D) o i
  |true=>
   grind
 rcases key a b j t hb ad with⟨k1,k2,J⟩|⟨x,K,E,ox,k1,k2⟩
 .rcases key c d l m hd C with ⟨q, r, G⟩ | ⟨y, z, A, i, q, r⟩
  .constructor
   .intro h
    have:j=l:=NH;subst this;rw[s]at f;injection f with f;exact .inl f
   .rintro (h | ⟨u, w, g, _, B, _⟩)
    .grind [QN]
    .rcases g with g | g
     .have : u = a := NH
      grind
     .have : u = b := NH
      grind
  .obtain ⟨k, p, h2⟩ := val y A i
   constructor
   .grind
   .rintro (h | ⟨u, w, g, _, B, _⟩)
    .all_goals grind
    .rcases g with g | g
     .have : u = a := NH
      grind
     .have : u = b := NH
      grind
 .rcases key c d l m hd C with ⟨q, r, G⟩ | ⟨y, z, A, i, q, r⟩
  .obtain ⟨k, p, h2⟩ := val x E ox
   constructor
   .grind
   .rintro (h | ⟨u, w, _, hw, _, F, _⟩)
    .all_goals grind
    .rcases hw with hw | hw
     .have : w = c := NH
      grind
     .have : w = d := NH
      grind
  .rw [k1, q, same x y E A ox i]
   constructor
   .intro h
    refine .inr ⟨x,y,?_,?_,ox,i,h⟩
    .omega
    .omega
   .rintro (h | ⟨u, w, g, hw, B, F, H⟩)
    .grind
    .have p := k2 u NH B
     have h2:=r w NH F;exact(p.trans H).trans h2.symm
theorem uY:wx n on es (MF n on es):=by
 have look:∀u,u<n->on u=false->∃k:Nat,k<n/\(MF n on es)[u]?=some (k:Int)/\Cn on es k u/\(List.range n).find? (fun x=>decide (Cn on es x u))=some k:=fun u a b=>by
  cases hf:(List.range n).find? (fun x=>decide (Cn on es x u))with
  |none=>
   rw[List.find?_eq_none]at hf;exact absurd (decide_eq_true (Cn.refl (es:=es) b)) pw
  |some k=>
   grind [MF]
 refine⟨by simp[MF],fun u a b=>?_,fun u w a hw c d=>?_⟩
 .grind
 .constructor
  .grind [Cn.symm,Cn.trans]
  grind [Cn.trans,Cn.symm]
end
end Go.Fw
namespace Go.Fw
open Go.Proofs
attribute [local instance] Classical.propDecidable
abbrev eN (n:Nat) (es:List Pr):Nat->II:=Xl (Zh n es)
theorem qG (n:Nat) (es:List Pr):Av n es (Zh n es):=⟨Xq n es,fun v _=>List.Perm.refl _⟩
def Un (R:Nat->II) (H:Nat->Nat->Prop) (v w:Nat):Prop:=w∈R v/\¬H v w
section
variable {n : Nat} {es : List Pr} {H : Nat → Nat → Prop} {F : List (List Nat)} {p : wW}
theorem vD (hR:aV n es) {v w:Nat}:w∈eN n es v↔Jp es v w:=(qG n es).mem hR
def MG (hR:aV n es) (hA:D3 es):V7 n (eN n es):=(qG n es).jD hR hA
def un_in (hR:aV n es) {v w:Nat} (h:Un (eN n es) H v w):GW v w∈es:=aa4 hR ((vD hR).1 h.1)
theorem Dc {a b x y:Nat} (h:GW a b=GW x y):(a=x/\b=y)\/(a=y/\b=x):=by grind [bj]
theorem Sl {v w:Nat} {e:Pr} (h:e=GW v w) (a:Nat):((a:Int)=e.1\/(a:Int)=e.2)↔a=v\/a=w:=by grind [bj]
structure EJ (n:Nat) (es:List Pr) (H:Nat->Nat->Prop) (F:Cs) (p:wW):Prop where
 ne:p.zp≠[]
 sub:p.zp.Sublist es
 un:∀v w:Nat,GW v w∈p.zp->¬H v w
 one:∀v w x y:Nat,Un (eN n es) H v w->Un (eN n es) H x y->GW v w∈p.zp->(GW x y∈p.zp↔QI (eN n es) H x y=QI (eN n es) H v w)
 Fm:∀u:Nat,(u:Int)∈p.Fm↔¬off (eN n es) H u/\∃w,Un (eN n es) H u w/\GW u w∈p.zp
 nat:∀x∈p.Fm,0<=x
 fnd:p.Fm.Nodup
 fits:∀i,i∈p.fits↔i<F.length/\∀x∈p.Fm,x.toNat∈F.getD i []
 tnd:p.fits.Nodup
theorem EJ.UQ (P:EJ n es H F p) (hR:aV n es) {e:Pr} (d:e∈p.zp):∃v w,e=GW v w/\v<w/\Un (eN n es) H v w:=by
 obtain⟨a,b,rfl,c,hb⟩:=jB hR (P.sub.subset d);have f:((a:Int),(b:Int))=GW a b:=(Ix c).symm;exact⟨a,b,f,c,(vD hR).2 (.inl (P.sub.subset d)),P.un a b pw⟩
theorem EJ.XB (P:EJ n es H F p) (hR:aV n es) {v w:Nat} (h:GW v w∈p.zp):Un (eN n es) H v w:=by
 refine⟨(vD hR).2 ?_,P.un v w h⟩;have a:=P.sub.subset h;obtain⟨b,h2,_⟩:=hR _ a
 grind [Mf,bj]
theorem EJ.key (P:EJ n es H F p) (hR:aV n es) {v w x y:Nat} (h:GW v w∈p.zp) (h':GW x y∈p.zp):QI (eN n es) H x y=QI (eN n es) H v w:=
 (by grind [EJ.one,EJ.XB])
theorem EJ.VN (P:EJ n es H F p) (hR:aV n es) {u x:Nat} (h:GW u x∈p.zp) {f:II}:Fits (eN n es) H (QI (eN n es) H u x) f↔∀y∈p.Fm,y.toNat∈f:=by
 constructor
 .intro q y c
  obtain⟨t,rfl⟩:=yY (P.nat y c);obtain⟨b,w,h2,h3⟩:=(P.Fm t).1 c;exact q t w ⟨b,h2.1,h2.2⟩ (P.key hR h h3)
 .intro q z y a d
  have b:=(P.one u x z y (P.XB hR h) ⟨a.mem,a.nh⟩ h).2 d;have:=q z ((P.Fm z).2 ⟨a.on,y,⟨a.mem,a.nh⟩,b⟩)
  grind
def EJ.wm (P:EJ n es H F p) (hR:aV n es) {u:Nat} (h:(u:Int)∈p.Fm):∃w,QP (eN n es) H u w/\GW u w∈p.zp:=by
 obtain⟨a,w,h2,h3⟩:=(P.Fm u).1 h;exact⟨w,⟨a,h2.1,h2.2⟩,h3⟩
def EJ.E8 (P:EJ n es H F p) {u w:Nat} (h:QP (eN n es) H u w) (a:GW u w∈p.zp):(u:Int)∈p.Fm:=(P.Fm u).2 ⟨h.on,w,⟨h.mem,h.nh⟩,a⟩
theorem EJ.two (P:EJ n es H F p) (hR:aV n es) (hA:D3 es) (hs:∀v w,H v w->H w v) (D:QG (eN n es)) (h2:∃p q,p≠q/\¬off (eN n es) H p/\¬off (eN n es) H q):
  (∃u:Nat,(u:Int)∈p.Fm)/\∀u:Nat,(u:Int)∈p.Fm->∃z:Nat,(z:Int)∈p.Fm/\u≠z:=by
 obtain⟨h,i⟩:=JY (MG hR hA) hs D h2;refine⟨?_,fun u j=>?_⟩
 .obtain ⟨e, l, k⟩ := iy P.ne
  obtain⟨v,w,m,_,b⟩:=P.UQ hR (e:=e) (by rw[k];simp);have c:GW v w∈p.zp:=pw;obtain⟨u,x,a,d⟩:=i v w b.1 b.2;exact⟨u,P.E8 a ((P.one v w u x b ⟨a.mem,a.nh⟩ c).2 d.symm)⟩
 .obtain ⟨w, a, c⟩ := P.wm hR j
  obtain⟨z,y,f,g,d⟩:=h u w a;exact⟨z,P.E8 f ((P.one u w z y ⟨a.mem,a.nh⟩ ⟨f.mem,f.nh⟩ c).2 d.symm),g⟩
theorem Up (hR:aV n es) {d:List Pr} (c:∀e∈d,e∈es) {on:Nat->Bool} (k:∀v,v<n->(on v=true↔¬off (eN n es) H v)) {a b:Nat} (ha:a<n) (h:Cn on d a b):Cr (Mm (eN n es) H) a b/\b<n/\off (eN n es) H b:=by
 have i:∀v,v<n->on v=false->off (eN n es) H v:=pw
 induction h with
 |refl o=>exact⟨.refl _,ha,i _ ha o⟩
 |@step w x _ g o l=>
  obtain⟨m,h2,h3⟩:=l;have f:Jp es w x:=g.imp (c _) (c _);have j:=(f.lt hR).2;exact⟨m.step (EM.2 (by grind [vD])),j,i x j o⟩
theorem BL (hR:aV n es) {c:List Pr} {on:Nat->Bool} (e:∀v,v<n->(on v=true↔¬off (eN n es) H v)) {a b:Nat} (ha:a<n) (f:off (eN n es) H a)
  (d:∀y z,Cr (Mm (eN n es) H) a y->z∈Mm (eN n es) H y->Jp c y z) (h:Cr (Mm (eN n es) H) a b):Cn on c a b:=by
 have g:∀v,v<n->off (eN n es) H v->on v=false:=pw
 induction h with
 |refl=>exact .refl (g a ha f)
 |@step y z i h2 j=>
  obtain⟨m1,_,m3⟩:=EM.1 h2;exact .step j (d y z i h2) (by grind [vD,Jp.lt])
theorem Nj (hR:aV n es) (hA:D3 es) (hs:∀v w,H v w->H w v) {f:List Pr} {Q:Pr->Prop} {on:Nat->Bool} (i:∀e∈f,e∈es) (j:∀v,v<n->(on v=true↔¬off (eN n es) H v)) {gs:List (List Pr)}
  (T:cK f Q (FW on f) gs) (r:∀v w,GW v w∈f->Q (GW v w)->Un (eN n es) H v w)
  (cl:∀v w x y,Un (eN n es) H x y->GW v w∈f->Q (GW v w)->QI (eN n es) H x y=QI (eN n es) H v w->GW x y∈f/\Q (GW x y)) {g:List Pr} (hg:g∈gs) {v w x y:Nat} (s:Un (eN n es) H x y) (t:GW v w∈g):
  GW x y∈g↔QI (eN n es) H x y=QI (eN n es) H v w:=by
 have m:=MG hR hA;have m1:=(T.sub g hg).subset t;have u:=T.inP g hg _ t;have z:=r v w m1 u;have lt:∀{v w},Un (eN n es) H v w->v<n/\w<n:=fun h=>((vD hR).1 h.1).lt hR;have toP:FW on f (GW v w) (GW x y)↔jJ (eN n es) H v w x y:=by
  constructor
  .rintro (h | ⟨a, b, ha, hb, o, B, A⟩)
   .rcases Dc h with h | h
    .exact .inl h
    .exact .inr (.inl h)
   .rw [Sl rfl] at ha hb
    have q:a<n:=pw;obtain⟨c1,c2,K⟩:=Up hR i j q A;have C:off (eN n es) H a:=pw;exact .inr pw
  .rintro (⟨rfl, rfl⟩ | ⟨rfl, rfl⟩ | ⟨a, b, ha, hb, o, B, A⟩)
   .exact .inl rfl
   .exact .inl (aag _ _)
   .have q : a < n := pw
    have D:b<n:=pw;have k:∀v,v<n->off (eN n es) H v->on v=false:=pw;refine .inr ⟨a,b,(Sl rfl a).2 ha,(Sl rfl b).2 hb,k a q o,k b D B,BL hR j q o (fun c d E h2=>?_) A⟩;obtain⟨k1,k2,L⟩:=EM.1 h2;have G:Un (eN n es) H c d:=⟨k1,k2 d k1⟩;obtain⟨I,J⟩:=cl v w c d G m1 u (by rw[IV m z.1 ha o,M6 k2,(fX m).2 E])
    grind [Mf,V7.ir]
 rw[Uu m s.1 z.1];have l:jJ (eN n es) H x y v w↔jJ (eN n es) H v w x y:=by grind [jJ.symm]
 rw[l,<-toP];constructor
 .intro h
  exact(T.one g hg _ t _ ((T.sub g hg).subset h) (T.inP g hg _ h)).1 h
 .intro h
  obtain⟨I,J⟩:=cl v w x y s m1 u ((Uu m s.1 z.1).2 pw)
  grind [cK.one]
end
end Go.Fw
