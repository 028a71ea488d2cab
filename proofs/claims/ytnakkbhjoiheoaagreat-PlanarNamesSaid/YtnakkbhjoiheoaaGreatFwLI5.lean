/- A text. -/
import Derived.ProofKit
import Derived.Deep.Slices
import Derived.OpenShut
import Derived.Deep.Draws
import Derived.Scope
import Derived.Test.YtnakkbhjoiheoaaGreatFwLB17
set_option linter.all false
set_option maxRecDepth 99999
set_option maxHeartbeats 9999999
open Go.Proofs
open Option renaming some→Z,none→Y
open Bool renaming true→tT,false→fF
open List renaming range→rG
open Go.Value renaming slice→sL,pointer→pT
open Go renaming Value→vV
open Go.Proofs.Tryz renaming prog→pG
open Go.Proofs.Tryz
open List
namespace Go.Fw
section
attribute [local instance] Classical.propDecidable
variable {L:RZ} {e:Pr} {es web:List Pr} {fr:Pr->Nat->Int} {i j n:Nat} {on:Nat->Bool} {α:Type}
theorem ajT{l:List α}(nd:l.Nodup){x:α}(hi:l[i]?=Z x)(a:l[j]?=Z x):i=j:=by grind[getElem_inj]
structure GrpE (es:xLP) (P:Pr->Prop) (same:Pr->Pr->Prop) (gs:List xLP):Prop where
 ne:∀g∈gs,g≠[]
 sub:∀g∈gs,g.Sublist es
 inP:∀g∈gs,∀e∈g,P e
 cov:∀e∈es,P e->∃g∈gs,e∈g
 TE:gs.Pairwise fun g g'=>∀e∈g,e∉g'
 one:∀g∈gs,∀e∈g,∀e'∈es,P e'->(e'∈g↔same e e')
theorem Yn{n:Nat}{same:Pr->Pr->Prop}(nd:es.Nodup)(h:∀(j b:Nat) e e',es[j]?=Z e->es[b]?=Z e'->e∉web->e'∉web->(fr e j=fr e' b↔same e e')):
  GrpE es (fun e=>e∉web) same ((aaX fr es web es.length).map (·.2)):=by
 obtain⟨d,f,-,-,-⟩:=Pt fr es web es.length;have m:(aaX fr es web es.length).map (·.2)=(Ea (aaX fr es web es.length)).map fun k=>aez fr es web k es.length:=by rw[grps_map (fun l=>l) _ d];grind[ZM]
 have c:∀k q,q∈aez fr es web k es.length↔∃j:Nat,es[j]?=Z q/\q∉web/\fr q j=k:=by grind[full_mem]
 refine⟨fun g hg=>?_,fun g hg=>?_,fun g hg e a=>?_,fun e a hw=>?_,?_,fun g hg e a e' i hw=>?_⟩
 .grind
 .grind[sW]
 .grind
 .obtain⟨j,o⟩:=Og.1 a;have p:e∈aez fr es web (fr e j) es.length:=hGr;grind[rV,ZM]
 .grind
 grind[mem_iff_getElem?]
def FW(on:Nat->Bool)(es:xLP)(e e':Pr):Prop:=e=e'\/∃a b:Nat,((a:Int)=e.1\/(a:Int)=e.2)/\((b:Int)=e'.1\/(b:Int)=e'.2)/\on a=fF/\on b=fF/\Cn on es a b
theorem jB(hR:aV n es)(c:e∈es):∃a b:Nat,e=((a:Int),(b:Int))/\a<b/\b<n:=by have⟨d,h2,h3⟩:=hR e c;have⟨a,ea⟩:=qL7 d;have⟨b,eb⟩:=qL7 (show 0<=e.2 by omega);grind
theorem K2(hR:aV n es)(nd:es.Nodup)(I:wx n on es L){j l:Nat}{e e':Pr}(s:es[j]?=Z e)(f:es[l]?=Z e'):
  Zo n on L e j=Zo n on L e' l↔FW on es e e':=by
 obtain⟨a,b,rfl,t,hb⟩:=jB hR (BS s);obtain⟨c,d,rfl,m,hd⟩:=jB hR (BS f);have ad:=(show Jp es a b from .inl (BS s));have C:=(show Jp es c d from .inl (BS f));have val:∀v,v<n->on v=fF->∃k:Nat,k<n/\L.getD v 0=(k:Int):=by grind[wx.off]
 have same:∀u w,u<n->w<n->on u=fF->on w=fF->(L.getD u 0=L.getD w 0↔Cn on es u w):=by grind[ajR]
 have key:∀(a b j:Nat),a<b->b<n->Jp es a b->(Zo n on L ((a:Int),(b:Int)) j=(n:Int)+j/\on a=tT/\on b=tT)\/
   ∃x,(x=a\/x=b)/\x<n/\on x=fF/\Zo n on L ((a:Int),(b:Int)) j=L.getD x 0/\∀y,(y=a\/y=b)->on y=fF->Cn on es x y:=fun a b j p h2 o=>by
  unfold Zo;simp only[yM];cases D:on a with
  |false=>
   refine .inr ⟨a,.inl rfl,NH,D,rfl,fun y z i=>?_⟩;rcases z with rfl|rfl
   .grind
   .exact .step (.refl D) o i
  |true=>grind
 rcases key a b j t hb ad with⟨k1,k2,J⟩|⟨x,K,E,ox,k1,k2⟩
 .rcases key c d l m hd C with⟨q,r,G⟩|⟨y,z,A,i,q,r⟩
  .constructor
   .intro h;have:j=l:=NH;subst this;rw[s]at f;injection f with f;exact .inl f
   .rintro(h|⟨u,w,g,_,B,_⟩)
    .grind[ajT]
    .rcases g with g|g
     .have:u=a:=NH;grind
     .have:u=b:=NH;grind
  .obtain⟨k,p,h2⟩:=val y A i;constructor
   .grind
   .rintro(h|⟨u,w,g,_,B,_⟩)
    .all_goals grind
    .rcases g with g|g
     .have:u=a:=NH;grind
     .have:u=b:=NH;grind
 .rcases key c d l m hd C with⟨q,r,G⟩|⟨y,z,A,i,q,r⟩
  .obtain⟨k,p,h2⟩:=val x E ox;constructor
   .grind
   .rintro(h|⟨u,w,_,hw,_,F,_⟩)
    .all_goals grind
    .rcases hw with hw|hw
     .have:w=c:=NH;grind
     .have:w=d:=NH;grind
  .rw[k1,q,same x y E A ox i];constructor
   .intro h;refine .inr ⟨x,y,?_,?_,ox,i,h⟩
    .omega
    .omega
   .rintro(h|⟨u,w,g,hw,B,F,H⟩)
    .grind
    .have p:=k2 u NH B;have h2:=r w NH F;exact(p.trans H).trans h2.symm
theorem uY:wx n on es (MF n on es):=by
 have look:∀u,u<n->on u=fF->∃k:Nat,k<n/\(MF n on es)[u]?=Z (k:Int)/\Cn on es k u/\(rG n).find? (fun x=>decide (Cn on es x u))=Z k:=fun u a b=>by
  cases hf:(rG n).find? (fun x=>decide (Cn on es x u))with
  |none=>rw[List.find?_eq_none]at hf;exact absurd (Z6 (Cn.refl (es:=es) b)) hGr
  |some k=>grind[MF]
 refine⟨by simp[MF],fun u a b=>?_,fun u w a hw c d=>?_⟩
 .grind
 .constructor
  .grind[Cn.symm,Cn.trans]
  grind[Cn.trans,Cn.symm]
abbrev eN(n:Nat)(es:xLP):Nat->II:=Xl (Zh n es)
theorem qG(n:Nat)(es:xLP):Av n es (Zh n es):=⟨Xq n es,fun v _=>List.Perm.refl _⟩
def Un(R:Nat->II)(H:Nat->Nat->Prop)(v w:Nat):Prop:=w∈R v/\¬H v w
section
variable{n:Nat}{es:List Pr}{H:Nat->Nat->Prop}{F:Cs}{p:wW}
theorem vD(hR:aV n es){v w:Nat}:w∈eN n es v↔Jp es v w:=(qG n es).mem hR
def MG(hR:aV n es)(hA:D3 es):V7 n (eN n es):=(qG n es).jD hR hA
def un_in(hR:aV n es){v w:Nat}(h:Un (eN n es) H v w):GW v w∈es:=T0 hR ((vD hR).1 h.1)
theorem Dc{a b x y:Nat}(h:GW a b=GW x y):(a=x/\b=y)\/(a=y/\b=x):=by grind[bj]
theorem Sl{v w:Nat}{e:Pr}(h:e=GW v w)(a:Nat):((a:Int)=e.1\/(a:Int)=e.2)↔a=v\/a=w:=by grind[bj]
structure EJ (n:Nat) (es:xLP) (H:Nat->Nat->Prop) (F:Cs) (p:wW):Prop where
 ne:p.zp≠[]
 sub:p.zp.Sublist es
 un:∀v w:Nat,GW v w∈p.zp->¬H v w
 one:∀v w x y:Nat,Un (eN n es) H v w->Un (eN n es) H x y->GW v w∈p.zp->(GW x y∈p.zp↔QI (eN n es) H x y=QI (eN n es) H v w)
 Fm:∀u:Nat,(u:Int)∈p.Fm↔¬off (eN n es) H u/\∃w,Un (eN n es) H u w/\GW u w∈p.zp
 nat:∀x∈p.Fm,0<=x
 fnd:p.Fm.Nodup
 fits:∀i,i∈p.fits↔i<F.length/\∀x∈p.Fm,x.toNat∈F.getD i []
 tnd:p.fits.Nodup
theorem EJ.UQ(P:EJ n es H F p)(hR:aV n es){e:Pr}(d:e∈p.zp):∃v w,e=GW v w/\v<w/\Un (eN n es) H v w:=by obtain⟨a,b,rfl,c,hb⟩:=jB hR (P.sub.subset d);have f:((a:Int),(b:Int))=GW a b:=(Ix c).symm;exact⟨a,b,f,c,(vD hR).2 (.inl (P.sub.subset d)),P.un a b hGr⟩
theorem EJ.XB(P:EJ n es H F p)(hR:aV n es){v w:Nat}(h:GW v w∈p.zp):Un (eN n es) H v w:=by refine⟨(vD hR).2 ?_,P.un v w h⟩;have a:=P.sub.subset h;have⟨b,h2,_⟩:=hR _ a;grind[Mf,bj]
theorem EJ.key(P:EJ n es H F p)(hR:aV n es){v w x y:Nat}(h:GW v w∈p.zp)(h':GW x y∈p.zp):QI (eN n es) H x y=QI (eN n es) H v w:=(by grind[EJ.one,EJ.XB])
theorem EJ.VN(P:EJ n es H F p)(hR:aV n es){u x:Nat}(h:GW u x∈p.zp){f:II}:Fits (eN n es) H (QI (eN n es) H u x) f↔∀y∈p.Fm,y.toNat∈f:=by
 constructor
 .intro q y c;obtain⟨t,rfl⟩:=qL7 (P.nat y c);have⟨b,w,h2,h3⟩:=(P.Fm t).1 c;exact q t w ⟨b,h2.1,h2.2⟩ (P.key hR h h3)
 .intro q z y a d;have b:=(P.one u x z y (P.XB hR h) ⟨a.mem,a.nh⟩ h).2 d;have:=q z ((P.Fm z).2 ⟨a.on,y,⟨a.mem,a.nh⟩,b⟩);grind
def EJ.wm(P:EJ n es H F p)(hR:aV n es){u:Nat}(h:(u:Int)∈p.Fm):∃w,QP (eN n es) H u w/\GW u w∈p.zp:=by have⟨a,w,h2,h3⟩:=(P.Fm u).1 h;exact⟨w,⟨a,h2.1,h2.2⟩,h3⟩
def EJ.E8(P:EJ n es H F p){u w:Nat}(h:QP (eN n es) H u w)(a:GW u w∈p.zp):(u:Int)∈p.Fm:=(P.Fm u).2 ⟨h.on,w,⟨h.mem,h.nh⟩,a⟩
theorem EJ.two(P:EJ n es H F p)(hR:aV n es)(hA:D3 es)(hs:∀v w,H v w->H w v)(D:QG (eN n es))(h2:∃p q,p≠q/\¬off (eN n es) H p/\¬off (eN n es) H q):
  (∃u:Nat,(u:Int)∈p.Fm)/\∀u:Nat,(u:Int)∈p.Fm->∃z:Nat,(z:Int)∈p.Fm/\u≠z:=by
 have⟨h,i⟩:=feet_two (MG hR hA) hs D h2;refine⟨?_,fun u j=>?_⟩
 .obtain⟨e,l,k⟩:=N8 P.ne;have⟨v,w,m,_,b⟩:=P.UQ hR (e:=e) (by rw[k];simp);have c:GW v w∈p.zp:=hGr;have⟨u,x,a,d⟩:=i v w b.1 b.2;exact⟨u,P.E8 a ((P.one v w u x b ⟨a.mem,a.nh⟩ c).2 d.symm)⟩
 .obtain⟨w,a,c⟩:=P.wm hR j;have⟨z,y,f,g,d⟩:=h u w a;exact⟨z,P.E8 f ((P.one u w z y ⟨a.mem,a.nh⟩ ⟨f.mem,f.nh⟩ c).2 d.symm),g⟩
theorem cn_to_cr(hR:aV n es){d:xLP}(c:∀e∈d,e∈es){on:Nat->Bool}(k:∀v,v<n->(on v=tT↔¬off (eN n es) H v)){a b:Nat}(ha:a<n)(h:Cn on d a b):Cr (Mm (eN n es) H) a b/\b<n/\off (eN n es) H b:=by
 have i:∀v,v<n->on v=fF->off (eN n es) H v:=hGr
 induction h with
 |refl o=>exact⟨.refl _,ha,i _ ha o⟩
 |@step w x _ g o l=>have⟨m,h2,h3⟩:=l;have f:Jp es w x:=g.imp (c _) (c _);have j:=(f.lt hR).2;exact⟨m.step (EM.2 (by grind[vD])),j,i x j o⟩
theorem cr_to_cn(hR:aV n es){c:xLP}{on:Nat->Bool}(e:∀v,v<n->(on v=tT↔¬off (eN n es) H v)){a b:Nat}(ha:a<n)(f:off (eN n es) H a)(d:∀y z,Cr (Mm (eN n es) H) a y->z∈Mm (eN n es) H y->Jp c y z)(h:Cr (Mm (eN n es) H) a b):Cn on c a b:=by
 have g:∀v,v<n->off (eN n es) H v->on v=fF:=hGr
 induction h with
 |refl=>exact .refl (g a ha f)
 |@step y z i h2 j=>have⟨m1,_,m3⟩:=EM.1 h2;exact .step j (d y z i h2) (by grind[vD,Jp.lt])
theorem Nj(hR:aV n es)(hA:D3 es)(hs:∀v w,H v w->H w v){f:xLP}{Q:Pr->Prop}{on:Nat->Bool}(i:∀e∈f,e∈es)(j:∀v,v<n->(on v=tT↔¬off (eN n es) H v)){gs:List xLP}(T:GrpE f Q (FW on f) gs)(r:∀v w,GW v w∈f->Q (GW v w)->Un (eN n es) H v w)(cl:∀v w x y,Un (eN n es) H x y->GW v w∈f->Q (GW v w)->QI (eN n es) H x y=QI (eN n es) H v w->GW x y∈f/\Q (GW x y)){g:xLP}(hg:g∈gs){v w x y:Nat}(s:Un (eN n es) H x y)(t:GW v w∈g):
  GW x y∈g↔QI (eN n es) H x y=QI (eN n es) H v w:=by
 have m:=MG hR hA;have m1:=(T.sub g hg).subset t;have u:=T.inP g hg _ t;have z:=r v w m1 u;have lt:∀{v w},Un (eN n es) H v w->v<n/\w<n:=fun h=>((vD hR).1 h.1).lt hR;have toP:FW on f (GW v w) (GW x y)↔jJ (eN n es) H v w x y:=by
  constructor
  .rintro(h|⟨a,b,ha,hb,o,B,A⟩)
   .rcases Dc h with h|h
    .exact .inl h
    .exact .inr (.inl h)
   .rw[Sl rfl]at ha hb;have q:a<n:=hGr;have⟨c1,c2,K⟩:=cn_to_cr hR i j q A;have C:off (eN n es) H a:=hGr;exact .inr hGr
  .rintro(⟨rfl,rfl⟩|⟨rfl,rfl⟩|⟨a,b,ha,hb,o,B,A⟩)
   .exact .inl rfl
   .exact .inl (so _ _)
   .have q:a<n:=hGr;have D:b<n:=hGr;have k:∀v,v<n->off (eN n es) H v->on v=fF:=hGr;refine .inr ⟨a,b,(Sl rfl a).2 ha,(Sl rfl b).2 hb,k a q o,k b D B,cr_to_cn hR j q o (fun c d E h2=>?_) A⟩;have⟨k1,k2,L⟩:=EM.1 h2;have G:Un (eN n es) H c d:=⟨k1,k2 d k1⟩;have⟨I,J⟩:=cl v w c d G m1 u (by rw[IV m z.1 ha o,M6 k2,(fX m).2 E]);grind[Mf,V7.ir]
 rw[Uu m s.1 z.1];have l:jJ (eN n es) H x y v w↔jJ (eN n es) H v w x y:=by grind[jJ.symm]
 rw[l,<-toP];constructor
 .intro h;exact(T.one g hg _ t _ ((T.sub g hg).subset h) (T.inP g hg _ h)).1 h
 .intro h;have⟨I,J⟩:=cl v w x y s m1 u ((Uu m s.1 z.1).2 hGr);grind[GrpE.one]
end
theorem WV{F:Cs}{Fm:RZ}{c:II}{i:Nat}:i∈zh F Fm c↔i∈c/\∀x∈Fm,x.toNat∈F.getD i []:=by grind[zh,fitsB]
theorem Pe(on:List Bool)(way:II):(tV on way).length=on.length:=by
 unfold tV
 induction way generalizing on<;>grind
theorem mQ{v:Nat}:∀(way:II)(on:List Bool),v<on.length->(Wg (tV on way) v=tT↔Wg on v=tT\/v∈way)
 |[],on,_=>by simp[tV]
 |w::way,on,h=>by have e:tV on (w::way)=tV (on.set w tT) way:=rfl;rw[e,mQ way _ hGr];grind
def kY(F:Cs)(f:Nat)(way:II):Cs:=F.set f (Ee (F.getD f []) way)++[kP (F.getD f []) way]
def Yz{F:Cs}{f:Nat}{way:II}:(kY F f way).length=F.length+1:=by simp[kY]
theorem ade{F:Cs}{f i:Nat}{way:II}(hf:f<F.length):(kY F f way).getD i []=if i=f then Ee (F.getD f []) way else if i=F.length then kP (F.getD f []) way else F.getD i []:=by grind[kY]
theorem half_mem{a b v:Nat}{A inn:II}:v∈half a A b inn↔v=a\/v∈A\/v=b\/v∈inn:=by grind[half]
section
variable{n:Nat}{es:List Pr}{H:Nat->Nat->Prop}{F:Cs}{p q:wW}{a b f:Nat}{inn A B:II}
structure Vf (n:Nat) (es:xLP) (H:Nat->Nat->Prop) (F:Cs) (p:wW) (a:Nat) (inn:II) (b f:Nat) (A B:II):Prop where
 hR:aV n es
 hA:D3 es
 hs:∀v w,H v w->H w v
 I:PU n (eN n es) H F
 P:EJ n es H F p
 W:Ka (eN n es) H a inn b
 fst:GW a ((inn++[b]).headD 0)∈p.zp
 hf:f<F.length
 cy:Cyc (F.getD f []) ((a::A)++(b::B))
theorem Vf.Rl(L:Vf n es H F p a inn b f A B):V7 n (eN n es):=MG L.hR L.hA
def Vf.hs'(L:Vf n es H F p a inn b f A B):∀v w,XZ H a inn b v w->XZ H a inn b w v:=fun v w h=>h.imp (L.hs v w) Ef
theorem Vf.EI(L:Vf n es H F p a inn b f A B):F.getD f []∈F:=by grind[Vf.hf]
def Vf.Gf(L:Vf n es H F p a inn b f A B):Ee (F.getD f []) (nr a inn b)=half a A b inn/\kP (F.getD f []) (nr a inn b)=half b B a inn.reverse:=_root_.Go.Fw.Gf (L.I.O0 L.EI).1 L.cy
theorem Vf.mem_face(L:Vf n es H F p a inn b f A B){v:Nat}:v∈F.getD f []↔v=a\/v∈A\/v=b\/v∈B:=by rw[L.cy.perm.mem_iff];grind
theorem Vf.new_face(L:Vf n es H F p a inn b f A B){i v:Nat}(hi:i=f\/i=F.length)(h:v∈(kY F f (nr a inn b)).getD i []):v∈F.getD f []\/v∈inn:=by rw[ade L.hf]at h;rw[L.mem_face];have hh:=L.Gf;grind[half_mem]
theorem Vf.LY(L:Vf n es H F p a inn b f A B){i:Nat}(c:i≠f)(h2:i≠F.length):(kY F f (nr a inn b)).getD i []=F.getD i []:=by grind[ade,Vf.hf]
theorem Vf.keyK(L:Vf n es H F p a inn b f A B){x y:Nat}(h:Ay a inn b x y):QI (eN n es) H x y=QI (eN n es) H a ((inn++[b]).headD 0):=L.W.PW L.Rl L.hs h
theorem Vf.ajU(L:Vf n es H F p a inn b f A B){v:Nat}(h:v∈inn):off (eN n es) H v:=L.W.off v h
theorem Vf.other(L:Vf n es H F p a inn b f A B)(Q:EJ n es H F q)(hd:∀e∈p.zp,e∉q.zp):EJ n es (XZ H a inn b) (kY F f (nr a inn b)) (GF (kY F f (nr a inn b)) f F.length q):=by
 have hR:=L.hR;have d:=L.Rl;have g:∀{v w},GW v w∈q.zp->QI (eN n es) H v w≠QI (eN n es) H a ((inn++[b]).headD 0):=fun{v w} h e=>hd _ ((L.P.one _ _ v w (L.P.XB hR L.fst) (Q.XB hR h) L.fst).2 e) h;have G:∀{v w},GW v w∈q.zp->¬Ay a inn b v w:=by grind[Vf.keyK]
 have o:∀{v w},GW v w∈q.zp->¬XZ H a inn b v w:=by grind[EJ.un]
 have down:∀{v w},Un (eN n es) (XZ H a inn b) v w->Un (eN n es) H v w:=fun h=>⟨h.1,fun e=>h.2 (.inl e)⟩;have j:∀{v},off (eN n es) (XZ H a inn b) v↔off (eN n es) H v/\v∉inn:=fun{v}=>ahV L.W d;have z:(GF (kY F f (nr a inn b)) f F.length q).zp=q.zp:=by grind[GF]
 have r:(GF (kY F f (nr a inn b)) f F.length q).Fm=q.Fm:=by grind[GF]
 have s:∀x∈q.Fm,x.toNat∉inn:=fun x l C=>by obtain⟨t,rfl⟩:=qL7 (Q.nat x l);grind[Int.toNat_natCast,EJ.Fm,Vf.ajU]
 have D:∀i,(i<F.length+1/\∀x∈q.Fm,x.toNat∈(kY F f (nr a inn b)).getD i [])->i∈q.fits\/(f∈q.fits/\i=F.length):=by grind[EJ.fits,Vf.hf,Vf.new_face,Vf.LY]
 have I:∀i,i∈q.fits->i<F.length:=by grind[EJ.fits]
 refine⟨by grind[EJ.ne],by grind[EJ.sub],hGr,fun v w x y m l h=>?_,fun u=>?_,by rw[r];exact Q.nat,by grind[EJ.fnd],fun i=>?_,?_⟩
 .rw[z]at h ⊢;rw[Q.one v w x y (down m) (down l) h];rw[Uu d l.1 m.1,Uu d l.1 m.1];constructor
  .intro k;exact(((k.symm d).keep L.W d L.hs m.1 (g h))).symm d
  grind[jJ.mono]
 .rw[r,z,Q.Fm u];constructor
  .rintro⟨E,w,h2,h3⟩;exact⟨hGr,w,⟨h2.1,o h3⟩,h3⟩
  .rintro⟨E,w,h2,h3⟩;refine⟨fun k=>E (j.2 ⟨k,fun C=>?_⟩),w,down h2,h3⟩;exact g h3 (by rw[L.W.QC d L.hs C,IV d h2.1 (.inl rfl) k])
 .rw[r,Yz];by_cases c:f∈q.fits
  .grind[GF,WV]
  .have e:(GF (kY F f (nr a inn b)) f F.length q).fits=q.fits:=by grind[GF]
   grind[EJ.fits,Vf.LY]
 .unfold GF;split
  .refine qL218 Tn ?_;grind[EJ.tnd]
  .exact Q.tnd
end
theorem Ou(n:Nat)(way:II):∀i,(KI n way i).length=n
 |0=>by simp[KI]
 |i+1=>by rw[KI,WZ,Ou n way i]
theorem Lc{n:Nat}{way:II}(nd:way.Nodup){v:Nat}(d:v<n):∀i,i<=way.length->
  (∃k:Nat,k<i/\way[k]?=Z v/\(KI n way i).getD v 0=(k:Int))\/((∀k,k<i->way[k]?≠Z v)/\(KI n way i).getD v 0=-1)
 |0,_=>by grind[KI.eq_1]
 |i+1,hi=>by have e:=Lc nd d i NH;have c:way.getD i 0=way[i]:=D4 NH;rw[KI,cA,Ou,c];grind
theorem Ph{n a b:Nat}{inn:II}(nd:(nr a inn b).Nodup){v w:Nat}(s:v<n)(hw:w<n):aI (KI n (nr a inn b) (nr a inn b).length) (GW v w)=tT↔¬Ay a inn b v w:=by
 have key:∀{x y:Nat},x<n->y<n->(aI (KI n (nr a inn b) (nr a inn b).length) ((x:Int),(y:Int))=tT↔¬Ay a inn b x y):=fun{x y} d g=>by
  simp only[aI,yM,ai4,Cg,abV];generalize h:nr a inn b=l at*;unfold Ay;rw[h];rcases Lc nd d l.length (qL0 _)with⟨k,j,h2,h3⟩|⟨j,h2⟩
  .rcases Lc nd g l.length (qL0 _)with⟨m,o,c,t⟩|⟨o,c⟩
   .constructor
    .intro q r;rcases r with⟨i,r1,r2⟩|⟨i,r1,r2⟩
     all_goals grind[X6]
    .intro q;refine .inr ⟨fun e=>q (.inr ⟨m,c,?_⟩),fun e=>q (.inl ⟨k,h2,?_⟩)⟩
     all_goals grind
   .refine⟨fun _ r=>?_,hGr⟩;rcases r with⟨i,_,r2⟩|⟨i,r1,_⟩
    all_goals grind
  .refine⟨fun _ r=>?_,hGr⟩;rcases r with⟨i,r1,_⟩|⟨i,_,r2⟩
   all_goals grind
 grind[Ef,bj]
theorem ddS_mem{l:RZ}{x y:Int}:y∈Uo l x↔y∈l\/y=x:=by grind[Uo]
theorem ddS_nd{l:RZ}{x:Int}(h:l.Nodup):(Uo l x).Nodup:=by grind[Uo]
theorem KC:∀(l acc:RZ),acc.Nodup->(l.foldl Uo acc).Nodup/\∀y,y∈l.foldl Uo acc↔y∈acc\/y∈l
 |[],acc,h=>by grind
 |x::l,acc,h=>by have⟨c,h2⟩:=KC l (Uo acc x) (ddS_nd h);grind[ddS_mem]
theorem VW(l:RZ):(kZ l).Nodup/\∀y,y∈kZ l↔y∈l:=by grind[KC,kZ]
theorem zS{on:Nat->Bool}{g:xLP}{x:Int}:x∈BY on g↔on x.toNat=tT/\∃e∈g,x=e.1\/x=e.2:=by grind[BY,ftP]
section
variable{n:Nat}{es:List Pr}{H:Nat->Nat->Prop}{F:Cs}{p q:wW}{a b f:Nat}{inn A B:II}{on:List Bool}
def Vf.left(L:Vf n es H F p a inn b f A B){v w:Nat}:GW v w∈V8 n p.zp (nr a inn b)↔GW v w∈p.zp/\¬Ay a inn b v w:=by
 unfold V8;rw[xD];constructor
 .rintro⟨c,h2⟩;have d:=L.P.XB L.hR c;have⟨l1,l2⟩:=((vD L.hR).1 d.1).lt L.hR;exact⟨c,(Ph L.W.nd l1 l2).1 h2⟩
 .rintro⟨c,h2⟩;have d:=L.P.XB L.hR c;have⟨l1,l2⟩:=((vD L.hR).1 d.1).lt L.hR;exact⟨c,(Ph L.W.nd l1 l2).2 h2⟩
theorem Vf.uq(L:Vf n es H F p a inn b f A B){v w:Nat}(h:GW v w∈V8 n p.zp (nr a inn b)):Un (eN n es) (XZ H a inn b) v w:=by have⟨d,h2⟩:=L.left.1 h;have c:=L.P.XB L.hR d;exact⟨c.1,fun q=>q.elim c.2 h2⟩
theorem Vf.left_of(L:Vf n es H F p a inn b f A B){v w x y:Nat}(c:Un (eN n es) (XZ H a inn b) x y)(h:GW v w∈V8 n p.zp (nr a inn b))(j:QI (eN n es) (XZ H a inn b) x y=QI (eN n es) (XZ H a inn b) v w):
  GW x y∈V8 n p.zp (nr a inn b):=by
 have d:=L.Rl;have g:=L.uq h;have i:=(L.left.1 h).1;have k:=(Uu d c.1 g.1).1 j;have k2:=(Uu d c.1 g.1).2 (k.mono fun _ _=>wayH_sub);exact L.left.2 ⟨(L.P.one v w x y (L.P.XB L.hR i) ⟨c.1,fun e=>c.2 (.inl e)⟩ i).2 k2,fun e=>c.2 (.inr e)⟩
theorem Vf.on'(L:Vf n es H F p a inn b f A B)(i:on.length=n)(c:∀v,v<n->(Wg on v=tT↔¬off (eN n es) H v)):∀v,v<n->(Wg (tV on (nr a inn b)) v=tT↔¬off (eN n es) (XZ H a inn b) v):=fun v g=>by
 rw[mQ _ _ hGr,c v g,ahV L.W L.Rl];constructor
 .rintro(h|h) ⟨k1,k2⟩
  .exact h k1
  .rw[nr,HV,vZ,iy]at h;rcases h with rfl|h|rfl
   .obtain⟨z,d,e⟩:=L.W.ona;exact k1 z d e
   .exact k2 h
   .obtain⟨z,d,e⟩:=L.W.onb;exact k1 z d e
 grind[nr.eq_1]
theorem Vf.groups(L:Vf n es H F p a inn b f A B):GrpE (V8 n p.zp (nr a inn b)) (fun e=>e∉([]:xLP)) (FW (Wg (tV on (nr a inn b))) (V8 n p.zp (nr a inn b)))
  ((aaX (Zo n (Wg (tV on (nr a inn b))) (MF n (Wg (tV on (nr a inn b))) (V8 n p.zp (nr a inn b)))) (V8 n p.zp (nr a inn b)) [] (V8 n p.zp (nr a inn b)).length).map (·.2)):=by
 have sl:(V8 n p.zp (nr a inn b)).Sublist es:=qL193 Tn L.P.sub;have nd:(V8 n p.zp (nr a inn b)).Nodup:=L.hA.nodup.sublist sl;have c:aV n (V8 n p.zp (nr a inn b)):=fun e d=>L.hR e (sl.subset d);exact Yn (n:=n) nd (by grind[K2,uY])
theorem Vf.fresh(L:Vf n es H F p a inn b f A B)(K:on.length=n)(N:∀v,v<n->(Wg on v=tT↔¬off (eN n es) H v))(aq:f∈p.fits){q:wW}(hq:q∈vX n (tV on (nr a inn b)) (V8 n p.zp (nr a inn b))):
  EJ n es (XZ H a inn b) (kY F f (nr a inn b)) {q with fits:=zh (kY F f (nr a inn b)) q.Fm (p.fits++[F.length])}/\q.zp.Sublist (V8 n p.zp (nr a inn b)):=by
 have hR:=L.hR;have o:=L.Rl;have D:=L.on' K N;have T:=L.groups (on:=on);have sl:(V8 n p.zp (nr a inn b)).Sublist es:=qL193 Tn L.P.sub;obtain⟨gr,ar,rfl⟩:=si.1 hq;have hg:gr.2∈((aaX (Zo n (Wg (tV on (nr a inn b))) (MF n (Wg (tV on (nr a inn b))) (V8 n p.zp (nr a inn b)))) (V8 n p.zp (nr a inn b)) [] (V8 n p.zp (nr a inn b)).length).map (·.2)):=hGr;generalize gr.2=g at hg;have one:∀{v w x y:Nat},Un (eN n es) (XZ H a inn b) x y->GW v w∈g->(GW x y∈g↔QI (eN n es) (XZ H a inn b) x y=QI (eN n es) (XZ H a inn b) v w):=fun{v w x y} m s=>Nj hR L.hA L.hs' (fun e C=>sl.subset C) D T (by grind[Vf.uq]) (by grind[Vf.left_of]) hg m s;have j:=T.sub g hg;have un:∀{v w},GW v w∈g->Un (eN n es) (XZ H a inn b) v w:=by grind[Vf.uq]
 have⟨fn,fm⟩:=VW (BY (Wg (tV on (nr a inn b))) g);have Fm:∀u:Nat,(u:Int)∈kZ (BY (Wg (tV on (nr a inn b))) g)↔¬off (eN n es) (XZ H a inn b) u/\∃w,Un (eN n es) (XZ H a inn b) u w/\GW u w∈g:=fun u=>by
  rw[fm,zS,yM];constructor
  .rintro⟨ho,e,C,m⟩;obtain⟨c,d,rfl,O,hd⟩:=jB hR (sl.subset (j.subset C));have e1:((c:Int),(d:Int))=GW c d:=(Ix O).symm;rcases m with m|m
   .have hu:u=c:=NH;grind
   grind[so]
  .rintro⟨M,w,h2,h3⟩;have hu:=(((vD hR).1 h2.1).lt hR).1;grind[Sl]
 have aj:∀{v},off (eN n es) (XZ H a inn b) v↔off (eN n es) H v/\v∉inn:=fun{v}=>ahV L.W o;have E:∃c∈inn,(c:Int)∈kZ (BY (Wg (tV on (nr a inn b))) g):=by
  have⟨e,l,C⟩:=N8 (T.ne g hg);have s:e∈g:=by rw[C];simp
  obtain⟨v,w,rfl,Q,hd⟩:=jB hR (sl.subset (j.subset s));rw[show(((v:Int),(w:Int)):Pr)=GW v w from(Ix Q).symm]at s;have R:=un s;have K:=L.left.1 (j.subset s);have hU:=L.P.XB hR K.1;have k:=L.P.key hR L.fst K.1;cases hi:inn with
  |nil=>
   subst hi;have e0:((([]:II)++[b]).headD 0)=b:=rfl;rw[e0]at k;have⟨z,z1,z2⟩:=L.W.ona;have⟨z',S,U⟩:=L.W.onb;rw[rj (fun q=>q z z1 z2) (fun q=>q z' S U)]at k;have av:Ay a [] b a b:=.inl ⟨0,rfl,rfl⟩;by_cases c1:off (eN n es) H v
   .grind[M6]
   by_cases c2:off (eN n es) H w
   .grind[Jn]
   rw[rj c1 c2]at k
   all_goals grind[Ef]
  |cons c t=>
   rw[<-hi];have V:c∈inn:=by rw[hi];simp
   rw[L.W.QC o L.hs V]at k;have ht:∃t,(t=v\/t=w)/\off (eN n es) H t:=by grind[rj]
   have⟨t,G,ot⟩:=ht;rw[IV o hU.1 G ot]at k;injection k with _ k;injection k with k _;have X:=(fX o).1 k;by_cases ct:t∈inn
   .all_goals grind[so]
   .have J:off (eN n es) (XZ H a inn b) t:=hGr;rcases tq (H:=XZ H a inn b) o (r:=Mm (eN n es) H) (fun v w h=>(EM.1 h).1) X J with h|⟨y,z,M,h2,h3,h4⟩
    .grind
    .obtain⟨m1,m2,m3⟩:=EM.1 h4;have aa:Un (eN n es) (XZ H a inn b) y z:=⟨m1,h2 z m1⟩;have ay:GW y z∈g:=(one aa s).2 (by rw[M6 h2,IV o R.1 G J,(fX o).2 M]);grind[so]
 have az:∀i,i∈p.fits->i<F.length:=fun i h=>((L.P.fits i).1 h).1;refine⟨⟨T.ne g hg,j.trans sl,fun v w h=>(un h).2,hGr,Fm,fun x m=>?_,fn,fun i=>?_,?_⟩,j⟩
 .have:=((zS.1 ((fm x).1 m)).2);have⟨e,C,h⟩:=this;have⟨M,h2,_⟩:=hR e (sl.subset (j.subset C));grind
 .rw[WV,Yz,vZ,iy];constructor
  .grind
  .rintro⟨M,h2⟩;refine⟨?_,h2⟩;by_cases c1:i=f
   .grind
   by_cases c2:i=F.length
   .exact .inr c2
   exfalso;have⟨c,V,ae⟩:=E;have:=h2 _ ae;rw[yM,L.LY c1 c2]at this;have ai:F.getD i []∈F:=by rw[D4 NH];grind
   exact L.I.on_face ai this (L.ajU V)
 .refine qL218 Tn ?_;rw[ZT];refine⟨L.P.tnd,Ma,fun x m y hy e=>?_⟩;grind
end
theorem vd{l:II}(h:l.length=1){x y:Nat}(b:x∈l)(c:y∈l):x=y:=by
 match l,h with
 |[a],_=>grind
noncomputable def OW(es:xLP)(H:Nat->Nat->Prop):Nat:=(es.filter fun e=>decide (¬H e.1.toNat e.2.toNat)).length
structure Z8 (n:Nat) (es:xLP) (H:Nat->Nat->Prop) (S:ShM):Prop where
 inv:PU n (eN n es) H S.Jv
 ZA:S.on.length=n
 on:∀v,v<n->(Wg S.on v=tT↔¬off (eN n es) H v)
 Aa:∀p∈S.left,EJ n es H S.Jv p
 cov:∀v w,Un (eN n es) H v w->∃p∈S.left,GW v w∈p.zp
 TE:S.left.Pairwise fun p q=>∀e∈p.zp,e∉q.zp
 OT:S.Jv.length+OW es H<=es.length+2
theorem EY(left:List wW):∀k,(0<k->abx left k<k)/\∀j,j<k->LF left (abx left k)<=LF left j
 |0=>by grind
 |k+1=>by have⟨a,h2⟩:=EY left k;grind[abx.eq_1,abx.eq_2]
theorem unN_lt{es:xLP}{H a:Nat->Nat->Prop}(c:∀v w,H v w->a v w){e:Pr}(b:e∈es)(d:¬H e.1.toNat e.2.toNat)(h2:a e.1.toNat e.2.toNat):OW es a<OW es H:=by
 unfold OW
 induction es with
 |nil=>cases b
 |cons x es f=>
  have le:∀l:xLP,(l.filter fun e=>decide (¬a e.1.toNat e.2.toNat)).length<=(l.filter fun e=>decide (¬H e.1.toNat e.2.toNat)).length:=fun l=>by
   induction l<;>grind
  grind
section
variable{n:Nat}{es:List Pr}{H:Nat->Nat->Prop}{S:ShM}
theorem Z8.way(I:Z8 n es H S)(hR:aV n es)(hA:D3 es)(D:QG (eN n es)){p:wW}(O:p∈S.left):
  ∃a inn b,J6 n (Zh n es) S.on p=nr a inn b/\Ka (eN n es) H a inn b/\GW a ((inn++[b]).headD 0)∈p.zp:=by
 have r:=MG hR hA;have P:=I.Aa p O;have hs:=I.inv.sym;have⟨⟨T,s⟩,tw⟩:=P.two hR hA hs D I.inv.Re;have w:2<=p.Fm.length:=by
  have⟨z,Q,A⟩:=tw T s
  match O:p.Fm with
  |[]=>grind
  |[x]=>grind
  |x::y::l=>simp
 have B:∃a:Nat,p.Fm.headD 0=(a:Int)/\(a:Int)∈p.Fm:=by have⟨x,l,e⟩:=N8 (show p.Fm≠[]from fun e=>by grind);have⟨a,ha⟩:=qL7 (P.nat x (by rw[e];simp));grind
 have⟨a,ea,h⟩:=B;have⟨sa,d,j⟩:=P.wm hR h;have C:a<n:=r.lt _ _ d.mem;have c:∀v,v<n->Wg S.on v=fF->off (eN n es) H v:=by grind[Z8.on]
 rcases way_spec (on:=S.on) hR (p:=p) w hGr C (fun e U=>P.sub.subset U)with⟨inn,b,V,nd,hb,W,R,k,ch⟩|⟨_,M,E,F⟩
 .refine⟨a,inn,b,V,⟨nd,fun i x y g h2=>?_,fun x q=>?_,Q7 d.on,Q7 ((I.on b hb).1 W)⟩,k⟩
  .have m:=ch i x y g h2;refine⟨by grind[vD],?_⟩;cases i with
   |zero=>grind[yT,EJ.un]
   |succ i=>have X:=(Ny.1 h2).1;rw[Eo]at X;have e:nr a inn b=a::(inn++[b]):=rfl;rw[e,ah7,EP NH]at g;have q:x∈inn:=BS g;exact c x (m.lt hR).1 (R x q) y (by grind[vD])
  .obtain⟨i,y,g,h2⟩:=qm (a:=a) (b:=b) (inn:=inn) (v:=x) (.inr q);exact c x (((ch i _ _ g h2).lt hR).2) (R x q)
 .exfalso;have has:sa≠a:=by grind[V7.ir,QP.mem]
  have o:=E sa j has;have G:sa<n:=(((vD hR).1 d.mem).lt hR).2;have J:=c sa G (F sa o).2.1;have⟨z,Q,A⟩:=tw a h;have⟨y,K,L⟩:=P.wm hR Q;have f:=P.key hR j L;rw[Jn d.on J]at f;have N:off (eN n es) H y:=by grind[rj,QP.on]
  rw[Jn K.on N]at f;injection f with _ f;injection f with f _;have aa:=((fX r).1 f).symm (QM r);have clo:∀t,Cr (Mm (eN n es) H) sa t->t∈M:=fun t ht=>by
   induction ht with
   |refl=>exact o
   |@step t u g h2 ih=>have⟨m1,m2,m3⟩:=EM.1 h2;grind[vD,QP.on]
  grind[vD,QP.mem,Jp.symm,QP.on,V7.lt]
theorem Z8.lay(I:Z8 n es H S)(hR:aV n es)(hA:D3 es)(D:QG (eN n es))(az:S.left≠[]):
  (AU n (Zh n es) S=Y/\¬XU n (eN n es))\/∃S' H',AU n (Zh n es) S=Z S'/\Z8 n es H' S'/\OW es H'<OW es H:=by
 have hr:=MG hR hA;have hs:=I.inv.sym;have hlen:0<S.left.length:=kS.2 az;have⟨aC,bb⟩:=EY S.left S.left.length;have X:=aC hlen;unfold AU;generalize abx S.left S.left.length=m at*;have aD:S.left.getD m default=S.left[m]:=D4 X;have aa:S.left[m]∈S.left:=aev X;have ae:S.left=S.left.take m++S.left[m]::S.left.drop (m+1):=by grind[drop_eq_getElem_cons,take_append_drop]
 have J:S.left.eraseIdx m=S.left.take m++S.left.drop (m+1):=qL156 _ _;have a8:∀q∈S.left,(S.left[m]).fits.length<=q.fits.length:=fun q t=>by have⟨j,hj,e⟩:=Bx.1 t;grind[LF]
 simp only[aD];generalize S.left[m]=p at*;have P:=I.Aa p aa;have⟨⟨u0,aF⟩,_⟩:=P.two hR hA hs D I.inv.Re;by_cases c0:p.fits.length=0
 .rw[Sb c0];refine .inl ⟨rfl,?_⟩;have⟨x,hF,C⟩:=P.wm hR aF;refine I.inv.fail D hF fun f hf k=>?_;have⟨i,hi,e⟩:=Bx.1 hf;have:=(P.fits i).2 ⟨hi,fun y hy=>by grind[EJ.VN]⟩;grind
 rw[WA c0];have⟨a,inn,b,ew,W,o⟩:=I.way hR hA D aa;rw[ew];have aH:¬(nr a inn b).length<2:=by grind[Eo]
 simp only[aH,if_false];have M:p.fits.headD 0∈p.fits:=by grind[Lt]
 generalize p.fits.headD 0=f at*;have⟨aJ,ai⟩:=(P.fits f).1 M;have N:S.Jv.getD f []∈S.Jv:=hGr;obtain⟨sa,bg⟩:∃s,s=(inn++[b]).headD 0:=⟨_,rfl⟩;have F:=P.XB hR o;have F0:QP (eN n es) H a ((inn++[b]).headD 0):=⟨fun q=>by have⟨z,z1,z2⟩:=W.ona;exact q z z1 z2,F.1,F.2⟩;have aj:Fits (eN n es) H (QI (eN n es) H a ((inn++[b]).headD 0)) (S.Jv.getD f []):=by grind[EJ.VN]
 have aq:a∈S.Jv.getD f []:=by have:=ai _ (P.E8 F0 o);grind[Int.toNat_natCast]
 have ar:b∈S.Jv.getD f []:=by have V:=W.lst hr hs;have wb:Ay a inn b b ((inn.reverse++[a]).headD 0):=(W.wE_b hr hs).2 rfl;have hk:=W.PW hr hs wb;have C:=(P.one _ _ b _ F ⟨V.1,V.2⟩ o).2 hk;have:=ai _ ((P.Fm b).2 ⟨fun q=>by have⟨z,z1,z2⟩:=W.onb;exact q z z1 z2,_,⟨V.1,V.2⟩,C⟩);grind[Int.toNat_natCast]
 have⟨A,B,cy⟩:=cyc_two aq ar W.ab;have L:Vf n es H S.Jv p a inn b f A B:=⟨hR,hA,hs,I.inv,P,W,o,aJ,cy⟩;have O:(∀h∈S.Jv,Fits (eN n es) H (QI (eN n es) H a ((inn++[b]).headD 0)) h->h=S.Jv.getD f [])\/
   ∀u x,QP (eN n es) H u x->∃E∈S.Jv,∃h2∈S.Jv,E≠h2/\Fits (eN n es) H (QI (eN n es) H u x) E/\Fits (eN n es) H (QI (eN n es) H u x) h2:=by
  by_cases c1:p.fits.length=1
  .refine .inl fun h hh k=>?_;have⟨i,hi,e⟩:=Bx.1 hh;have C:=(P.fits i).2 (by grind[EJ.VN]);grind[vd]
  .refine .inr fun u x hF=>?_;have⟨q,t,C⟩:=I.cov u x ⟨hF.mem,hF.nh⟩;have Q:=I.Aa q t;have h2:2<=q.fits.length:=hGr
   match bh:q.fits with
   |[]=>grind
   |[_]=>grind
   |i::j::l=>
    have hi:=(Q.fits i).1 hGr;have hj:=(Q.fits j).1 hGr;have aK:i≠j:=by grind[EJ.tnd]
    refine⟨S.Jv.getD i [],by grind[getElem_mem],S.Jv.getD j [],by grind[getElem_mem],fun e=>aK ?_,(Q.VN hR C).2 hi.2,(Q.VN hR C).2 hj.2⟩;rw[D4 hi.1,D4 hj.1]at e;exact(qL232 I.inv.nodup).1 e
 have I1:=I.inv.step D hr N F0 aj O W rfl cy;have hh:=L.Gf;have aL:S.Jv.set f (Ee (S.Jv.getD f []) (nr a inn b))++[kP (S.Jv.getD f []) (nr a inn b)]=kY S.Jv f (nr a inn b):=rfl;have R:(half a A b inn::half b B a inn.reverse::S.Jv.erase (S.Jv.getD f [])).Perm (kY S.Jv f (nr a inn b)):=by unfold kY;rw[hh.1,hh.2];refine List.Perm.trans ?_ (qL205 (l₁:=[half b B a inn.reverse]));refine(List.Perm.swap _ _ _).trans (List.Perm.cons _ ?_);exact(set_perm hGr I.inv.nodup).symm
 have I2:=I1.perm R;rw[aL];have K:=I.TE;rw[ae,aiL,afC]at K;have⟨d1,⟨d2,d3⟩,d4⟩:=K;have av:∀q∈S.left.eraseIdx m,q∈S.left/\∀e∈p.zp,e∉q.zp:=fun q t=>by
  rw[J]at t;rcases vZ.1 t with h|h
  .grind
  grind
 have T:=L.groups (on:=S.on);have aN:OW es (XZ H a inn b)<OW es H:=by
  have C:=P.sub.subset o;have⟨c,d,e,ay,hd⟩:=jB hR C;have wf:Ay a inn b a ((inn++[b]).headD 0):=W.Fp.2 rfl;refine unN_lt hGr C ?_ ?_
  .rw[e];simp only[yM];rw[<-Ix ay]at e;rcases Dc e with⟨E,h2⟩|⟨E,h2⟩
   .rw[<-E,<-h2];exact F.2
   .rw[<-E,<-h2];exact fun q=>F.2 (hs _ _ q)
  .rw[e];simp only[yM];rw[<-Ix ay]at e;rcases Dc e with⟨E,h2⟩|⟨E,h2⟩
   all_goals grind[Ef]
 refine .inr ⟨_,XZ H a inn b,rfl,⟨I2,by grind[Pe,Z8.ZA],L.on' I.ZA I.on,fun q t=>?_,fun v w hU=>?_,?_,?_⟩,aN⟩
 .simp only at t ⊢;rcases vZ.1 t with h|h
  .obtain⟨q0,G,rfl⟩:=si.1 h;have⟨E,h2⟩:=av q0 G;exact L.other (I.Aa q0 E) h2
  .obtain⟨q0,G,rfl⟩:=si.1 h;exact(L.fresh I.ZA I.on M G).1
 .have aP:Un (eN n es) H v w:=⟨hU.1,fun q=>hU.2 (.inl q)⟩;have⟨q,t,C⟩:=I.cov v w aP;rw[ae]at t;have U:q=p\/q∈S.left.eraseIdx m:=hGr;rcases U with rfl|h
  .have V:=L.left.2 ⟨C,fun e=>hU.2 (.inr e)⟩;have⟨g,hg,aT⟩:=T.cov _ V Ma;obtain⟨gr,aW,rfl⟩:=si.1 hg;refine⟨_,aho _ (si.2 ⟨_,si.2 ⟨gr,aW,rfl⟩,rfl⟩),aT⟩
  .refine⟨_,bC _ (si.2 ⟨q,h,rfl⟩),?_⟩;unfold GF;split<;>exact C
 .simp only;have r:∀q,(GF (kY S.Jv f (nr a inn b)) f S.Jv.length q).zp=q.zp:=fun q=>by unfold GF;split<;>rfl
  rw[aiL];refine⟨?_,?_,fun q t q' aX e he a6=>?_⟩
  .rw[V3,J,aiL];refine⟨d1.imp fun{x y} h=>by rw[r,r];exact h,d3.imp fun{x y} h=>by rw[r,r];exact h,fun x hx y hy=>?_⟩;rw[r,r];exact d4 x hx y (by simp[hy])
  .rw[V3];unfold vX;have:=T.TE;grind
  .obtain⟨q0,G,rfl⟩:=si.1 t;obtain⟨q1,a7,rfl⟩:=si.1 aX;rw[r]at he;have E:=(L.fresh I.ZA I.on M a7).2.subset a6;have h2:e∈p.zp:=(Tn (l:=p.zp)).subset E;grind
 .simp only;rw[Yz];have:=I.OT;omega
theorem Z8.done(I:Z8 n es H S)(h:S.left=[]):∃r,abK n r S.Jv/\Flat n r/\∀x y,y∈r x↔y∈eN n es x:=I.inv.done fun x y a=>j9 fun q=>by have⟨p,b,_⟩:=I.cov x y ⟨a,q⟩;grind
end
end
section
open Go.ChangeShapes Go.WideShapes Go.RowKit
def MR(W:World):aai:=⟨fun b off=>(W.cell? ⟨b,off,Y⟩).bind tag,0,.leaf⟩
theorem Mn(W:World)(i:Nat):(MR W).own i=Y:=by simp[MR,aai.own,Trie.get]
theorem Rel.start(W:World)(m:abd):Rel (LA.of W) m (MR W) W:=⟨qL0 _,fun _ _=>rfl,fun _ _=>rfl,(by grind[Mn]),(by grind[Mn]),(by grind[Mn]),(by grind[Mn]),rfl,rfl,⟨rfl,qL0 _⟩,⟨fun _ h=>(nomatch h),aax _,.nil,fun _ _ h=>(nomatch h),fun _ _ h=>(nomatch h),fun _ _ _ h=>(nomatch h)⟩⟩
theorem Rel.below{W w':World}{m:abd}{h:aai}(R:Rel (LA.of W) m h w'):Below W.heap.size W w':=⟨R.os,R.tape.1,R.output,R.size,R.qi⟩
section
variable{H:Type}{enc:TypeId×vV->H}{P:Program}{W:World}
def Rd{α:Type}(enc:TypeId×vV->H)(P:Program)(W:World)(t:TypeId)(R:aai->vV->α->Prop):Prop:=∀fuel cs x,DataW.trod enc P W 0 (fun _=>tT) tT fuel t cs=Z x->∃v' v a,cs=[v']/\tag v'=Z v/\R (MR W) v a
def rd_i64{t:TypeId}(a:P.underlying t=Z (.int .i64)):Rd enc P W t RP:=by intro fuel cs x h;obtain⟨n,rfl,_,_⟩:=DataW.trod_int a h;exact⟨_,n,n,rfl,rfl,rfl⟩
theorem tL{a:Addr}(h:a.spot=Y)(i:Nat):a.add i=⟨a.block,a.off+i,Y⟩:=by have⟨b,off,sp⟩:=a;simp only at h;subst h;unfold Addr.add;grind
theorem rd_slice{α:Type}{R:aai->vV->α->Prop}{t e:TypeId}(f:P.underlying t=Z (.slice e))(s:P.cellsOf e=1)(w:Rd enc P W e R):Rd enc P W t (RL R):=by
 intro fuel cs x h;rcases Go.Deep.open_slice1 f s h with⟨rfl,_⟩|⟨a,len,cap,m,n,V,D,J,rfl,hb,K,A,c,_,g⟩
 .exact⟨_,.slice Y 0 0,[],rfl,rfl,RL.nil⟩
 .simp only[if_true]at c;have d:=c.symm;subst d;have L:cap<UNK:=QU A WY;by_cases B:cap=0
  .subst B;have:len=0:=NH;subst this;refine⟨_,sL (Z ⟨a.block,a.off,Z 0⟩) 0 0,[],rfl,?_,[],⟨⟨_,0,rfl,Ma⟩,Ma⟩,rfl,Ma⟩;have⟨b,off,sp⟩:=a;cases sp<;>grind[tag]
  .have j:a.spot=Y:=by
    have:=(g 0 NH).1;rw[show a.add 0=a from rfl]at this;simp only[World.cell?]at this;split at this
    .split at this
     .cases this
     .rename_i hs;simpa using hs
    .cases this
   have key:∀k,k<=len->∃(vs:xLV)(xs:List α),vs.length=k/\xs.length=k/\(∀(i:Nat) u,vs[i]?=Z u->tag (V i)=Z u)/\∀(i:Nat) u y,vs[i]?=Z u->xs[i]?=Z y->R (MR W) u y:=by
    intro k
    induction k with
    |zero=>intro _;exact⟨[],[],rfl,rfl,Ma,Ma⟩
    |succ k C=>
     intro M;have⟨vs,xs,l,h2,h3,q⟩:=C NH;have⟨v',v,y,o,N,e3⟩:=w _ _ _ (g k NH).2;injection o with o;subst o;refine⟨vs++[v],xs++[y],by simp[l],by simp[h2],fun i u hi=>?_,fun i u z hi E=>?_⟩
     .by_cases p:i<k
      .grind
      .rw[jf NH]at hi;have:i=k:=hGr;grind
     .by_cases p:i<k
      .grind
      .rw[jf NH]at hi E;grind
   have⟨vs,xs,l,h2,h3,q⟩:=key len (qL0 _);refine⟨_,sL (Z ⟨a.block,a.off,Z 0⟩) len cap,xs,rfl,?_,vs,⟨⟨_,cap,by rw[l],Ma⟩,fun i u hi=>?_⟩,NH,fun i y u F G=>q i u y G F⟩
   .obtain⟨b,off,sp⟩:=a;grind[tag]
   .have I:i<len:=hGr;have r:=(g i NH).1;rw[tL j]at r;have f:=h3 i u hi;rw[fA];simp only[Ip,aai.read,MR,r,alL];exact f
end
section
variable{H:Type}{enc:TypeId×vV->H}{P:Program}{W:World}
def RdK(enc:TypeId×vV->H)(P:Program)(W:World)(t:TypeId)(k:Nat)(Q:xLV->Prop):Prop:=∀fuel cs x,DataW.trod enc P W 0 (fun _=>tT) tT fuel t cs=Z x->∃us:xLV,us.length=k/\cs.length=k/\(∀(i:Nat) u v',us[i]?=Z u->cs[i]?=Z v'->tag v'=Z u)/\Q us
theorem rd_sliceK{t e:TypeId}{k:Nat}{Q:xLV->Prop}(s:P.underlying t=Z (.slice e))(G:P.cellsOf e=k)(I:0<k)(E:RdK enc P W e k Q):
  ∀fuel cs x,DataW.trod enc P W 0 (fun _=>tT) tT fuel t cs=Z x->∃v' v n C,cs=[v']/\tag v'=Z v/\CS k (MR W) v n C/\∀i,i<n->Q ((C.drop (i*k)).take k):=by
 intro fuel cs x h;rcases Go.Deep.open_slice s h with⟨rfl,_⟩|⟨a,len,cap,m,n,D,O,rfl,hb,R,J,o,_,w⟩
 .exact⟨_,.slice Y 0 0,0,[],rfl,rfl,CS.nil k _,fun i hi=>absurd hi NH⟩
 .simp only[if_true]at o;have p:=o.symm;subst p;rw[G]at w;have S:cap<UNK:=QU J WY;by_cases K:cap=0
  .subst K;have:len=0:=NH;subst this;refine⟨_,sL (Z ⟨a.block,a.off,Z 0⟩) 0 0,0,[],rfl,?_,⟨⟨_,0,rfl,Ma⟩,Ma,Ma⟩,fun i hi=>absurd hi NH⟩;have⟨b,off,sp⟩:=a;cases sp<;>grind[tag]
  .have y:a.spot=Y:=by
    have⟨f,r,h2⟩:=w 0 NH;have⟨us,_,L,_⟩:=E _ _ _ h2;have⟨_,hlen,c⟩:=World.cells?_some r;have g:=c 0 I;rw[show(a.add (0*k)).add 0=a from by simp[Addr.add]]at g;cases z:f[0]? with
    |none=>grind
    |some q=>
     rw[z]at g;simp only[World.cell?]at g;split at g
     .split at g
      .cases g
      .rename_i hs;simpa using hs
     .cases g
   have key:∀j,j<=len->∃C:xLV,C.length=j*k/\(∀(i:Nat) u,C[i]?=Z u->(MR W).read ⟨a.block,a.off+i,Z 0⟩=Z u)/\∀i,i<j->Q ((C.drop (i*k)).take k):=by
    intro j
    induction j with
    |zero=>intro _;exact⟨[],Ma,Ma,fun i hi=>absurd hi NH⟩
    |succ j M=>
     intro T;have⟨C,r,h2,h3⟩:=M NH;have⟨f,g,s⟩:=w j NH;have⟨us,l1,l2,l3,q⟩:=E _ _ _ s;have⟨_,hlen,c⟩:=World.cells?_some g;refine⟨C++us,hGr,fun i u hi=>?_,fun i hi=>?_⟩
     .by_cases A:i<j*k
      .grind
      .rw[jf NH,r]at hi;have N:i-j*k<k:=hGr;have l:=c (i-j*k) NH;have d:f[i-j*k]?=Z f[i-j*k]:=Gc NH;have F:=l3 _ u _ hi d;rw[d,tL y,tL rfl]at l;simp only at l;rw[show a.off+j*k+(i-j*k)=a.off+i by omega]at l;grind[aai.read,MR]
     .by_cases B:i<j
      .have A:i*k+k<=j*k:=by rw[<-Nat.succ_mul];exact WS _ B
       grind
      grind
   have⟨C,r,h2,h3⟩:=key len (qL0 _);refine⟨_,sL (Z ⟨a.block,a.off,Z 0⟩) len cap,len,C,rfl,?_,⟨⟨_,cap,rfl,Ma⟩,r,fun i u hi=>?_⟩,h3⟩
   .obtain⟨b,off,sp⟩:=a;grind[tag]
   .rw[fA];exact h2 i u hi
def rd_pair{t e:TypeId}(p:P.underlying t=Z (.array 2 e))(j:P.underlying e=Z (.int .i64))(q:P.cellsOf e=1)(f:P.cellsOf t=2):
  RdK enc P W t 2 (fun us=>∃a b,us=[.int .i64 a,.int .i64 b]):=by
 intro fuel cs x h;have⟨xs,m,_,_,k,g,l⟩:=DataW.trod_array p h;rw[f]at k
 match cs,k,xs,g with
 |[r,c1],_,[x0,x1],_=>
  have n:=l 0 NH;have o:=l 1 NH;simp[q]at n o;have⟨a,ea,_,_⟩:=DataW.trod_int j n;have⟨b,eb,_,_⟩:=DataW.trod_int j o;injection ea with ea;injection eb with eb;subst ea eb;refine⟨[.int .i64 a,.int .i64 b],rfl,rfl,fun i u v' c d=>?_,a,b,rfl⟩
  match i with
  |0=>simp at c d;subst c d;rfl
  |1=>simp at c d;subst c d;rfl
  |i+2=>simp at c
end
end
section
variable{P:Program}{W0:LA}{m:abd}{h:aai}{w:World}
theorem Rel.rowV(R:Rel W0 m h w){id:Nat}{c:xLV}{ys:xLV}(D:∀y∈ys,flat y=tT/\y.oneCell'=tT)(I:h.own id=Z (.cells c))(hl:ys.length<=c.length)(q:Nat)(os:Array Obj):
  Rel W0 m (h.put id (.cells (ys++c.drop ys.length))) (Sort.grow (Sort.putRow (fun v:vV=>v) (Sort.ahead w q) (m id).blk (m id).base ys.toArray) os):=by
 have s:h.own id≠Y:=by rw[I];simp
 have⟨C,e,lo,hi,hb,hs,M,N,J,hf⟩:=R.own id _ I;have O:(m id).blk<w.heap.size:=(Fu.1 hb).1;generalize t:ys++c.drop ys.length=K;have L:K.length=c.length:=hGr;have a:∀i,(h.put id (.cells K)).own i≠Y->h.own i≠Y:=by grind[aai.By]
 have n:∀i,h.own i≠Y->i≠id->(m i).blk≠(m id).blk:=fun i f l E=>l (R.inj i id f s E);have heq:∀b,b<w.heap.size->b≠(m id).blk->(Sort.grow (Sort.putRow (fun v:vV=>v) (Sort.ahead w q) (m id).blk (m id).base ys.toArray) os).heap[b]?=w.heap[b]?:=fun b Q S=>by simp only[Sort.grow,Sort.putRow,Sort.mapBlock,Sort.ahead];grind
 have z:(Sort.grow (Sort.putRow (fun v:vV=>v) (Sort.ahead w q) (m id).blk (m id).base ys.toArray) os).heap[(m id).blk]?=Z (.cells (Sort.putCells (fun v:vV=>v) (m id).base ys.toArray C) e (lo,hi)):=by simp only[Sort.grow,Sort.putRow,Sort.mapBlock,Sort.ahead];rw[qL180 hGr,aeu,Sb rfl,hb];rfl
 have F:(Sort.grow (Sort.putRow (fun v:vV=>v) (Sort.ahead w q) (m id).blk (m id).base ys.toArray) os).heap.size=w.heap.size+os.size:=by simp[Sort.grow,Sort.putRow,Sort.mapBlock,Sort.ahead]
 refine⟨by rw[F];have:=R.size;omega,fun b sZ=>?_,R.ext,fun i f=>R.lt i (a i f),fun i f=>R.new i (a i f),fun i o g=>?_,fun i j f G=>R.inj i j (a i f) (a j G),R.os,R.output,⟨R.tape.1,ff R.tape.2 (qL228 _ _)⟩,R.aah.put a (fun b hb T=>heq b hb (fun e=>T id s e.symm))⟩
 .grind[Rel.new,Rel.qi]
 .by_cases l:i=id
  .subst l;rw[aai.Y3]at g;injection g with g;subst g;have U:(Sort.putCells (fun v:vV=>v) (m i).base ys.toArray C).size=C.size:=by simp[Sort.putCells]
   have A:∀k,(Sort.putCells (fun v:vV=>v) (m i).base ys.toArray C)[k]?=(C[k]?).map fun x=>if(m i).base<=k/\k<(m i).base+ys.length then ys.toArray[k-(m i).base]!else x:=fun k=>by simp[Sort.putCells]
   refine⟨_,e,lo,hi,z,hGr,hGr,⟨hGr,fun k v v' p d=>?_⟩,fun u V=>?_,fun j hj=>hf j hGr⟩
   .rw[Dj]at d;split at d
    .rename_i W;rw[Ki,iU,A]at d;by_cases r:k<ys.length
     .have H:(m i).base+k<C.size:=NH;rw[aex H,V9,Sb ⟨NH,NH⟩]at d;rw[<-t,EP (by exact r)]at p;simp only[Gc r,ah1]at p d;subst p d;have:(m i).base+k-(m i).base=k:=NH;rw[this,getElem!_pos _ k hGr];simp only[qL207];exact .flat (D _ (aev r)).1
     .rw[<-t,jf NH,Ki]at p;have X:ys.length+(k-ys.length)=k:=NH;rw[X]at p;refine N.2 k v v' p ?_;rw[Dj,Sb NH,Ki,iU,<-d];cases hC:C[(m i).base+k]? with
      |none=>rfl
      |some x=>grind
    .cases d
   .obtain⟨k,p⟩:=Og.1 V;grind
  .rw[aai.By _ _ _ _ l]at g;have B:h.own i≠Y:=hGr;exact Rel.JP (R.own i o g) (qL0 _) (ZK.refl _ _) (heq _ (R.Hc B) (n i B l))
theorem vr_flat{n:Nat}{m:abd}{v v':vV}(a:flat v=tT)(h:VR n m v v'):v'=v:=by
 cases h with
 |flat _=>rfl
 |ptr _=>cases a
 |aeK=>cases a
 |slice _ _=>cases a
 |buf _ _ _=>cases a
 |esl _=>cases a
 |empty=>cases a
 |map _=>cases a
 |func=>cases a
 |iface _=>cases a
 |agg=>cases a
 |tuple=>cases a
theorem Rel.holdsV(R:Rel W0 m h w){id:Nat}{c xs:xLV}(a:∀y∈xs,flat y=tT)(b:h.own id=Z (.cells c))(d:c.take xs.length=xs):Sort.Holds (fun v:vV=>v) w (m id).blk (m id).base xs.toArray:=by intro j e;grind[Rel.UL,vr_flat,getElem_mem,Rel.frozen]
theorem ajV{n:Nat}{m:abd}{f:Fn}{v':vV}(h:VR n m (.func f #[] #[]) v'):v'=.func f #[] #[]:=by
 cases h<;>grind
theorem AC.ofRowK{f:FuncId}{g:Fn}{k id len cap:Nat}{c xs ys:xLV}(j:h.own id=Z (.cells c))(J:c.take (len*k)=xs)(z:xs.length=len*k)(l:ys.length=len*k)(A:len*k<=c.length)(B:len<=cap)(C:0<len)(n:∀y∈xs,flat y=tT)(o:∀y∈ys,flat y=tT/\y.oneCell'=tT)(D:∀(blk off cap':Nat)(w:World),Sort.Holds (fun v:vV=>v) w blk off xs.toArray->blk<w.heap.size->len<=cap'->
   Calls P f #[sL (Z ⟨blk,off,Y⟩) len cap',.func g #[] #[]] w fun e w'=>e=.returned (.tuple #[])/\∃q os,w'=Sort.grow (Sort.putRow (fun v:vV=>v) (Sort.ahead w q) blk off ys.toArray) os):
  AC P W0 f [sL (Z id) len cap,.func g #[] #[]] h fun x h'=>x=.tuple #[]/\h'=h.put id (.cells (ys++c.drop (len*k))):=by
 intro ex m w a R p;have⟨E,F,r⟩:=p.get (i:=0) rfl;have⟨G,H,d⟩:=p.get (i:=1) rfl;have b:a=[E,G]:=by
  have s:=p.1
  match a,s with
  |[x,y],_=>grind
 obtain⟨cap',rfl,t,I⟩:=IA B C r;have:=ajV d;subst this;rw[b];have u:h.own id≠Y:=by rw[j];simp
 refine(D (m id).blk (m id).base cap' w (R.holdsV n j hGr) (R.Hc u) t).mono ?_;rintro e w' ⟨rfl,q,os,rfl⟩;have R':=R.rowV o j NH q os;rw[l]at R';exact⟨.tuple #[],.tuple #[],m,_,rfl,R',ZK.refl _ _,qL0 _,.tuple rfl (fun i v v' e=>by simp at e),rfl,rfl⟩
theorem AC.ajW{f:FuncId}{g:Fn}{a:Option Addr}{cap:Nat}(n:∀(a':Option Addr)(cap':Nat)(w:World),Calls P f #[.slice a' 0 cap',.func g #[] #[]] w fun e w'=>e=.returned (.tuple #[])/\w'=w):
  AC P W0 f [.slice a 0 cap,.func g #[] #[]] h fun x h'=>x=.tuple #[]/\h'=h:=by
 intro ex m w b R j;have⟨o,p,k⟩:=j.get (i:=0) rfl;have⟨q,r,d⟩:=j.get (i:=1) rfl;have c:b=[o,q]:=by
  have l:=j.1
  match b,l with
  |[x,y],_=>grind
 obtain⟨a',cap',rfl⟩:=WT k;have:=ajV d;subst this;rw[c];refine(n a' cap' w).mono ?_;rintro e w' ⟨rfl,rfl⟩;exact⟨.tuple #[],.tuple #[],m,_,rfl,R,ZK.refl _ _,qL0 _,.tuple rfl (fun i v v' e=>by simp at e),rfl,rfl⟩
theorem Rel.grown{W w':World}{m:abd}{h:aai}(R:Rel (LA.of W) m h w'):∃q os,w'=Sort.grow (W.drewN q) os:=by
 refine⟨w'.drawn-W.drawn,w'.heap.extract W.heap.size w'.heap.size,?_⟩;have f:W.heap.size<=w'.heap.size:=R.size;have hh:w'.heap=W.heap++w'.heap.extract W.heap.size w'.heap.size:=by
  apply Array.ext_getElem?;intro i;by_cases hi:i<W.heap.size
  .rw[qL180 hi];exact R.qi i hi
  grind
 have h2:W.drawn<=w'.drawn:=R.tape.2;have h3:w'.drawn=W.drawn+(w'.drawn-W.drawn):=NH;have c:w'.tape=W.tape:=R.tape.1;have d:w'.os=W.os:=R.os;have e:w'.output=W.output:=R.output;have:∀a b:World,a.heap=b.heap->a.tape=b.tape->a.drawn=b.drawn->a.os=b.os->a.output=b.output->a=b:=by intro a b g j e3 e4 k;cases a;cases b;grind
 exact this _ _ hh c h3 d e
def AC.grown{f:FuncId}{args a:xLV}{x:Int}(W:World)(ha:AC P (LA.of W) f args (MR W) fun v _=>v=x)(c:∀m,AK 0 m args a):
  Calls P f a.toArray W fun e w'=>e=.returned x/\∃q os,w'=Sort.grow (W.drewN q) os:=by
 refine(ha [] (fun _=>⟨0,0,0⟩) W a (Rel.start W _) (c _)).mono ?_;rintro e w' ⟨v,v',d,h',rfl,R,_,_,b,rfl⟩;rw[vr_int b];exact⟨rfl,R.grown⟩
end
section
variable{P:Program}{W0:LA}{N:Nat}{fr:aam}{h:aai}
def ag0{b:Frame}{a:Act}{k:List Item}{cs:List Frame}{w:World}{c:Code}:step P (lone (b.atR a (.code (.scope c)::k)) cs w)=.next (lone (b.atR a (.code c::.inScope c::k)) cs w):=step_lone_go (by simp[stepG,stepG.exec,Frame.atR])
def EC{b:Frame}{a:Act}{k:List Item}{cs:List Frame}{w:World}{c:Code}:step P (lone (b.atR a (.inScope c::k)) cs w)=.next (lone (b.atR a k) cs w):=step_lone_go (by simp[stepG,stepG.exec,Frame.atR])
def VP{F:Fence}{n:Nat}{Q:Exit->Act->World->Prop}{a:Act}{w:World}{c:Code}(h:c.wpIn F n P (Exit.noGoto Q) a w):(Code.scope c).wpIn F n P Q a w:=by
 intro b k cs o hb p;have j:(lone (b.atR a (.code (.scope c)::k)) cs w).fenced P F:=fenced_calm hb p rfl;have⟨e,f,m,g,d⟩:=h b (.inScope c::k) cs o hb p;cases e with
 |normal=>exact⟨.normal,f,m,g,.of_steps (.head j ag0 d) (.one (fenced_calm (fr:=b.atR f (.inScope c::k)) hb p rfl) EC)⟩
 |exit id=>exact⟨.exit id,f,m,g,.of_steps (.one j ag0) ⟨fun r q=>d.1 r (by simp[exitTo,q]),fun s q=>d.2 s (by simp[exitTo,q])⟩⟩
 |goto l=>exact g.elim
 |ret=>exact⟨_,f,m,g,.of_steps (.one j ag0) d⟩
 |panic ch=>exact⟨_,f,m,g,.of_steps (.one j ag0) d⟩
 |outgrown=>exact⟨_,f,m,g,.of_steps (.one j ag0) d⟩
def noJump(Q:Exit->aam->aai->Prop):Exit->aam->aai->Prop
 |.goto _,_,_=>False
 |e,fr,h=>Q e fr h
def ud.scope{c:Code}{Q:Exit->aam->aai->Prop}(q:ud P W0 N c fr h (noJump Q)):ud P W0 N (.scope c) fr h Q:=by
 intro d nn m a w s K f;refine VP (q d nn m a w s _ fun new e g fr' h' a' w' j h2 h3 b=>?_);cases e with
 |goto l=>exact b.elim
 |_=>exact f _ _ g fr' h' a' w' j h2 h3 b
def Dp(P:Program)(W0:LA)(N:Nat)(ks:List Kt)(R:Exit->aam->aai->Prop):Exit->aam->aai->Prop:=noJump (KE P W0 N R ks)
section
variable{ks:List Kt}{R:Exit->aam->aai->Prop}{i:Nat}
def MX:Dp P W0 N ks R .normal fr h=KN P W0 N ks R fr h:=id rfl
def tx:Dp P W0 N ks R .ret fr h=KX P W0 N .ret ks R fr h:=id rfl
def J4:Dp P W0 N ks R (.exit i) fr h=KX P W0 N (.exit i) ks R fr h:=id rfl
def VK.scope{c:Code}(q:VK P W0 N c [] (Dp P W0 N ks R) fr h):VK P W0 N (.scope c) ks R fr h:=ud.scope (VK.sound q)
def VK.label{l:Nat}(q:KN P W0 N ks R fr h):VK P W0 N (.label l) ks R fr h:=ud.label q
end
end
section
attribute [local irreducible] Kp MQ lU KO1 KO KN KX KE VK Kl ZJ TC aab
variable {h:aai} {v:Value} {xs:RZ}
theorem N7(p:LA)(v q:vV)(G:GM)(xs:RZ)(h:aai)(hg:GR h v G)(hw:RL RP h q xs)(Q:xs.length<=100000):
  AC pG p 52 [v,q] h fun x h'=>Le h h'/\∃m e,x=.tuple #[m,.int .i64 e]/\
   ((¬bX G/\m=.slice Y 0 0/\e=20)\/(bX G/\(¬∀x∈xs,0<=x/\x<G.n)/\m=.slice Y 0 0/\e=2)\/
    (bX G/\(∀x∈xs,0<=x/\x<G.n)/\e=0/\RL (RL RP) h' m (Zh G.n.toNat G.es))):=by
 have f:=hg;have⟨z,es⟩:=G
 obtain⟨ev,rfl,F⟩:=hg.open
 refine AC.vF func52 ntmps52 results52 fun r=>?_;obtain⟨A,H,a,I,-,C⟩:=r8 (n:=z) r F
 generalize h.next=B at*
 have s:=C A (Le.refl _);refine Sk (XC H s.1) ?_;refine kCi qS6 (ak p _ _ A (f.le a)) ?_;rintro x h2 J ⟨⟨K,rfl,t⟩,b⟩;cases K with
 |false=>refine Uy ?_;grind[Le.trans]
 |true=>
 have u:=t.1 rfl;have L:0<=z:=u.n0;obtain⟨n,rfl⟩:=qL7 L;have lw:=fun g=>hw.TA g;simp only[HO,seval,lw];refine lIn (fun k fr o=>∃i:Nat,k=xs.length-i/\i<=xs.length/\fr=mkF [(2,pT (Z B)),(11,q),(12,.int .i64 xs.length),(13,i)]/\o=h2/\∀(j:Nat) x,j<i->xs[j]?=Z x->0<=x/\x<(n:Int)) ⟨0,rfl,aax _,rfl,rfl,NH⟩ ?_;rintro k fr o M ⟨i,rfl,hi,rfl,rfl,D⟩;have d:=C o b;refine Uy ?_;refine Kl.intro (fun E=>?_) (fun hf=>?_)
 .have c:i<xs.length:=acb E;clear E;have l:=CA c;have ad:=hw.DH i c;have ld:=(hw.le Nn.RP (a.trans b)).Uc i c;generalize xs[i]=y at l ld;by_cases c1:y<0
  .simp only[HO,seval,ad,ld,c1];exact⟨a.trans b,_,_,rfl,.inr (.inl ⟨u,fun hh=>by have:=hh y (BS l);omega,rfl,rfl⟩)⟩
  by_cases c2:y>=(n:Int)
  .simp only[HO,seval,ad,ld,c1,c2,Ii,Ip,EL,d.2.1];grind[Le.trans]
  simp only[HO,seval,ad,ld,c1,c2,Ii,Ip,EL,d.2.1,aaa i NH];exact lgA NH ⟨i+1,rfl,c,rfl,rfl,fun j x R S=>by grind⟩
 .have N:xs.length<=i:=vp hf;refine Sk d.1 ?_;refine kCi akP (oe p _ n es o (f.le (a.trans b)) u) ?_;rintro T h3 O ⟨w,P⟩;refine Uy ?_;grind[Le.trans,mem_iff_getElem?]
def GU(h:aai)(v:vV)(xs:RZ):Prop:=GT 1 h v xs.length (Bp xs)
theorem GU.le{h h':aai}{v:vV}{xs:RZ}(g:GU h v xs)(e:Le h h'):GU h' v xs:=GT.le g e
theorem GU.rl(g:GU h v xs):RL RP h v xs:=RL.Wh (GT.cs g).rs
theorem GU.push{h:aai}{v:vV}{xs:RZ}(g:GU h v xs)(d:WF h)(x:Int)(m:xs.length<=100000):
  ∃v' c a,aas pG h 28 1 [(0,x)]=Z (sL (Z h.next) 1 1,c)/\aaR pG c 28 28 v (sL (Z h.next) 1 1)=Z (v',a)/\GU a v' (xs++[x])/\WF a/\Le h c/\
   (∀f,Le f h->Z2 f v->Le f a/\Z2 f v')/\(∀b o,h.own b=Z o->blk v≠Z b->a.own b=Z o/\blk v'≠Z b):=by
 have⟨c,e4,l4,e,j⟩:=Tt d [x];have⟨v',a,i,n,hf⟩:=(GT.le g l4).push (P:=pG) (t:=28) Ji j (yG _) rfl NH;refine⟨v',c,a,by rw[DQ,e4],i,?_,xr e i,l4,fun f k af=>hf f e (k.trans l4) af,fun b o l hb=>aG hf e (l4.own _ _ l) hb⟩;grind[Bp,GU.eq_1]
theorem GU.cut{h:aai}{v:vV}{xs:RZ}(g:GU h v xs)(m:Nat)(a:m<=xs.length):∃v',abf pG 28 v Y (Z (.int .i64 m)) Y=Z v'/\GU h v' (xs.take m)/\blk v'=blk v:=by have⟨v',e,c,b⟩:=GT.cut (P:=pG) Mb Ac Ji g m a;grind[GU.eq_1,Bp.eq_1,map_take]
theorem GU.kept{h h':aai}{v:vV}{xs:RZ}(g:GU h v xs)(a:∀b o,blk v=Z b->h.own b=Z o->h'.own b=Z o):GU h' v xs:=GT.kept g a
def Bo(l:List Bool):xLV:=l.map vV.bool
theorem O2(l:List Bool):(Bo l).length=l.length:=by simp[Bo]
def Tr(l:List Bool)(i:Nat)(b:Bool):(Bo l).set i (.bool b)=Bo (l.set i b):=by simp[Bo,ak3]
end
end Go.Fw
