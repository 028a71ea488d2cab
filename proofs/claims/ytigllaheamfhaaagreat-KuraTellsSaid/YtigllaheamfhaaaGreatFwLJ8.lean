/- A text. -/
import Derived.Test.YtigllaheamfhaaaGreatFwLI12
set_option linter.all false
set_option maxRecDepth 99999
set_option maxHeartbeats 9999999
open Go.Proofs
open Option renaming some→Z,none→Y
open Bool renaming true→tT,false→fF
open List renaming replicate→rP,range→rG
open Go.Value renaming slice→sL,pointer→pT
open Go renaming Value→vV
open Go.Proofs.Tryz renaming prog→pG
open Go.Proofs.Tryz
open List
namespace Go.Fw
section
attribute [local instance] Classical.propDecidable
attribute [local irreducible] Kp MQ lU KO1 KO KN KX KE VK Kl ZJ TC aab
structure Fst (n:Nat) (L:RZ) (ρ d:Nat->Nat):Prop where
 len:L.length=n
 up:∀v,v<n->∃w,w<n/\L[v]?=Z (w:Int)/\ρ w=ρ v/\((w=v/\ρ v=v)\/(w≠v/\d w<d v))
 rt:∀v,v<n->ρ v<n/\ρ (ρ v)=ρ v
section
variable{n:Nat}{L:RZ}{ρ d:Nat->Nat}
theorem Fst.zero(n:Nat):Fst n ((rG n).map fun(v:Nat)=>(v:Int)) id (fun _=>0):=⟨Ma,fun v a=>⟨v,a,by simp[a],rfl,.inl ⟨rfl,rfl⟩⟩,fun v a=>⟨a,rfl⟩⟩
theorem Fst.halve(F:Fst n L ρ d){v w u:Nat}(f:v<n)(hw:L[v]?=Z (w:Int))(a:w≠v)(g:L[w]?=Z (u:Int)):Fst n (L.set v (u:Int)) ρ d/\d u<d v/\u<n/\ρ u=ρ v:=by
 have⟨w',h,h2,h3,c⟩:=F.up v f;rw[hw]at h2;injection h2 with h2;obtain rfl:w=w':=NH;have c:=c.resolve_left fun q=>a q.1;have⟨u',i,b,j,l⟩:=F.up w h;rw[g]at b;injection b with b;obtain rfl:u=u':=NH;have hd:d u<d v:=hGr;refine⟨⟨by grind[Fst.len],fun x k=>?_,F.rt⟩,hd,i,j.trans h3⟩;by_cases e:v=x
 .grind
 .rw[Tn,abE e];exact F.up x k
noncomputable def mW(ρ:Nat->Nat)(a b:Nat):Nat->Nat:=fun x=>if ρ x=a then b else ρ x
noncomputable def cO(ρ d:Nat->Nat)(a b:Nat):Nat->Nat:=fun x=>if ρ x=a/\a≠b then d x+d b+1 else d x
theorem Fst.join(F:Fst n L ρ d){a b:Nat}(ha:a<n)(hb:b<n)(ra:ρ a=a)(rb:ρ b=b):Fst n (L.set a (b:Int)) (mW ρ a b) (cO ρ d a b):=by
 by_cases e:a=b
 .subst e;have h:mW ρ a a=ρ:=by grind[mW]
  have i:cO ρ d a a=d:=by grind[cO]
  rw[h,i];refine⟨by grind[Fst.len],fun x f=>?_,F.rt⟩;by_cases e:a=x
  .grind[Fst.len]
  .rw[Tn,abE e];exact F.up x f
 .have k:mW ρ a b b=b:=by grind[mW]
  have g:∀x,x<n->mW ρ a b x<n:=fun x f=>by grind[mW,Fst.rt]
  refine⟨by grind[Fst.len],fun x f=>?_,fun x f=>⟨g x f,?_⟩⟩
  .by_cases ex:a=x
   .grind[Fst.len,mW,cO]
   .rw[Tn,abE ex];have⟨w,j,h2,h3,l⟩:=F.up x f;refine⟨w,j,h2,by grind[mW],?_⟩;grind[mW,cO]
  .unfold mW;by_cases c:ρ x=a
   all_goals grind[Fst.rt]
end
theorem Y9(K:abw)(i T n:Nat)(L:RZ)(ρ d:Nat->Nat)(v:Nat)(h:aai)(G:h.own i=Z (.cells [sL (Z T) n n]))(oT:h.own T=Z (.cells (Bp L)))(j:T≠i)(F:Fst n L ρ d)(M:v<n):
  AC pG K 118 [v,pT (Z i)] h fun x h'=>x=(ρ v:Int)/\∃a,Fst n a ρ d/\h'.own T=Z (.cells (Bp a))/\(∀f,Le f h->f.own T=Y->Le f h')/\∀b o,b≠T->h.own b=Z o->h'.own b=Z o:=by
 refine AC.vF akW ntmps118 results118 fun N=>?_;refine Uy ?_;refine lIn (fun k fr g=>∃(c:Nat)(a:RZ),k=d c/\c<n/\fr=mkF [(0,(c:Nat)),(1,pT (Z i))]/\ρ c=ρ v/\Fst n a ρ d/\g.own T=Z (.cells (Bp a))/\(∀f,Le f h->f.own T=Y->Le f g)/\∀b o,b≠T->h.own b=Z o->g.own b=Z o) ⟨v,L,rfl,M,rfl,rfl,F,oT,fun f s _=>s,fun b o _ H=>H⟩ ?_;clear oT F;rintro k fr g O ⟨c,a,rfl,l,rfl,P,F,oT,s,Q⟩;have t:=Q i _ (EH j) G;have l5:aaC pG g 47 ⟨i,0,Y⟩=Z (sL (Z T) n n):=by rw[Fq Mb rfl t];rfl
 have⟨w,hw,I,R,y⟩:=F.up c l;have ld:=ldI oT I;by_cases e:w=c
 .subst e;have d1:decide ((w:Int)=(w:Int))=tT:=EL rfl;have S:ρ w=w:=hGr;simp only[HO,seval,l5,Kx T n .i64 w l,ld,bne,d1];grind
 .have d1:decide ((w:Int)=(c:Int))=fF:=Sb NH;have⟨u,V,m,_,_⟩:=F.up w hw;have z:=ldI oT m;have⟨U,hd,A,B⟩:=F.halve l I e m;have p:c<a.length:=hGr;have st:=stI oT p (u:Int);have q:(g.put T (.cells (Bp (a.set c (u:Int))))).own T=Z (.cells (Bp (a.set c (u:Int)))):=aai.Y3 _ _ _;have r:∀b o,b≠T->h.own b=Z o->(g.put T (.cells (Bp (a.set c (u:Int))))).own b=Z o:=fun b o hb H=>by grind[aai.By]
  have C:aaC pG (g.put T (.cells (Bp (a.set c (u:Int))))) 47 ⟨i,0,Y⟩=Z (sL (Z T) n n):=by rw[Fq Mb rfl (r i _ (EH j) G)];rfl
  have D:aaC pG (g.put T (.cells (Bp (a.set c (u:Int))))) 3 ⟨T,c,Y⟩=Z (.int .i64 (u:Int)):=ldI q (by rw[Tn,abe rfl,abe p]);simp only[HO,seval,l5,Kx T n .i64 c l,ld,bne,d1];refine gh (fRn 0 10 (JQ 10 [0,1,2,3,4,5,6,7,8,9] .done)) ?_;simp only[HO,seval,Qg,l5,Kx T n .i64 c l,Kx T n .i64 w hw,ld,z,st,C,D];exact lgA hd ⟨u,_,rfl,A,rfl,B.trans P,U,q,fun f E J=>(s f E J).put _ J,r⟩
structure Sep (b0 h:aai) (vs:xLV):Prop where
 TE:∀(i j:Nat) u w b,i≠j->vs[i]?=Z u->vs[j]?=Z w->blk u=Z b->blk w≠Z b
 own:∀(i:Nat) u b,vs[i]?=Z u->blk u=Z b->h.own b≠Y
 ap:∀(i:Nat) u,vs[i]?=Z u->Z2 b0 u
 le:Le b0 h
section
variable{b0 h h':aai}{vs:List vV}
theorem Sep.kept(S:Sep b0 h vs)(l:Le b0 h')(c:∀b o,h.own b=Z o->h'.own b≠Y):Sep b0 h' vs:=⟨S.TE,fun i u b a hb=>by have⟨o,d⟩:=N8.1 (S.own i u b a hb);grind,S.ap,l⟩
theorem Sep.up(S:Sep b0 h vs)(l:Le h h'):Sep b0 h' vs:=by grind[Sep.kept,Sep.le,Le.trans,Le.own]
theorem Sep.app(S:Sep b0 h vs){i:Nat}{u u':vV}(c:vs[i]?=Z u)(hf:∀f,Le f h->Z2 f u->Le f h'/\Z2 f u')(m:∀b o,h.own b=Z o->blk u≠Z b->h'.own b=Z o/\blk u'≠Z b)(d:∀b,blk u'=Z b->h'.own b≠Y):Sep b0 h' (vs.set i u'):=by
 have key:∀(j:Nat) w,(vs.set i u')[j]?=Z w->(j=i/\w=u')\/(j≠i/\vs[j]?=Z w):=hGr;have⟨l1,a1⟩:=hf b0 S.le (S.ap i u c);have fresh:∀(j:Nat) w b,j≠i->vs[j]?=Z w->blk w=Z b->h'.own b≠Y/\blk u'≠Z b:=fun j w b n hw hb=>by have⟨o,d⟩:=N8.1 (S.own j w b hw hb);grind[Sep.TE]
 refine⟨fun j k a w b e ha hw hb q=>?_,fun j a b ha hb=>?_,fun j a ha=>?_,l1⟩
 .rcases key j a ha with⟨g,rfl⟩|⟨g,p⟩
  .grind
  .rcases key k w hw with⟨l,rfl⟩|⟨l,h2⟩
   .grind
   grind[Sep.TE]
 all_goals grind[Sep.ap]
theorem Sep.snoc(S:Sep b0 h vs){v:vV}(e:blk v=Y):Sep b0 h (vs++[v]):=by
 have key:∀(j:Nat) w,(vs++[v])[j]?=Z w->vs[j]?=Z w\/w=v:=hGr;refine⟨fun i j u w b c a hw hb q=>?_,fun i u b a hb=>?_,fun i u a b hb=>?_,S.le⟩
 .grind[Sep.TE]
 .grind[Sep.own]
 .rcases key i u a with d|rfl
  .exact S.ap i u d b hb
  grind
end
abbrev rW:vV:=.slice Y 0 0
def abS(vs:xLV):Nat->xLV
 |0=>[]
 |m+1=>abS vs m++[vs.getD (2*m) rW,vs.getD (2*m+1) rW,rW]
theorem Iy(vs:xLV):∀m,(abS vs m).length=m*3
 |0=>rfl
 |m+1=>by rw[abS,Eh,Iy vs m];simp;omega
theorem aY(vs:xLV){k:Nat}:∀m,k<m->(abS vs m)[k*3]?=Z (vs.getD (2*k) rW)/\(abS vs m)[k*3+1]?=Z (vs.getD (2*k+1) rW)/\(abS vs m)[k*3+2]?=Z rW
 |0,h=>by grind
 |m+1,h=>by
  rw[abS];by_cases e:k=m
  .refine⟨?_,?_,?_⟩
   .grind[Iy]
   .grind[Iy]
   grind[Iy]
  .obtain⟨a,h2,h3⟩:=aY vs (k:=k) m NH;grind
theorem akB{vs ws:xLV}:∀m,(∀i,i<2*m->vs.getD i rW=ws.getD i rW)->abS vs m=abS ws m
 |0,_=>rfl
 |m+1,h=>by rw[abS,abS,akB m fun i hi=>h i NH,h (2*m) NH,h (2*m+1) NH]
theorem Yv{vs:xLV}{k r:Nat}(b:r<2){a:vV}:∀m,k<m->2*m<=vs.length->abS (vs.set (2*k+r) a) m=(abS vs m).set (k*3+r) a
 |0,h,_=>by grind
 |m+1,h,c=>by
  rw[abS,abS];by_cases e:k=m
  .subst e;rw[akB (ws:=vs) k hGr];grind[Iy,Nat.add_sub_cancel_left]
  .rw[Yv b m NH NH,set_append_left _ _ (by grind[Iy])];grind
structure Wq (b0 h:aai) (xv:vV) (vs:xLV) (ps:List (xLP×RZ)):Prop where
 sep:Sep b0 h (xv::vs)
 len:vs.length=2*ps.length
 sl:GS 3 h xv ps.length (abS vs ps.length)
 ge:∀(i:Nat) p,ps[i]?=Z p->GP h (vs.getD (2*i) rW) p.1/\GI h (vs.getD (2*i+1) rW) p.2
 cu:cu xv
section
variable{b0 h h':aai}{xv:vV}{vs:List vV}{ps:List (List Pr×RZ)}
theorem Wq.nil(b0:aai):Wq b0 b0 rW [] []:=by
 refine⟨⟨fun i j u w b d a hw hb=>?_,fun i u b a hb=>?_,fun i u a b hb=>?_,Le.refl _⟩,rfl,GS.nil 3 b0,hGr,.inl rfl⟩
 all_goals
  have c:=BS a;rw[xD]at c;subst c;cases hb
theorem Wq.kept(P:Wq b0 h xv vs ps)(l:Le b0 h')(g:∀b o,(∃u∈xv::vs,blk u=Z b)->h.own b=Z o->h'.own b=Z o):Wq b0 h' xv vs ps:=by
 have a:∀i,i<vs.length->vs.getD i rW∈xv::vs:=hGr;refine⟨⟨P.sep.TE,fun i u b d hb=>?_,P.sep.ap,l⟩,P.len,GS.kept P.sl hGr,fun i p c=>?_,P.cu⟩
 .obtain⟨o,j⟩:=N8.1 (P.sep.own i u b d hb);grind
 .have hi:=(Ny.1 c).1;have:=P.len;have⟨e,f⟩:=P.ge i p c;exact⟨GS.kept e hGr,GS.kept f hGr⟩
theorem Wq.up(P:Wq b0 h xv vs ps)(l:Le h h'):Wq b0 h' xv vs ps:=P.kept (P.sep.le.trans l) (by grind[Le.own])
theorem u6(P:Wq b0 h xv vs ps){i:Nat}(hi:i<vs.length):(xv::vs)[i+1]?=Z (vs.getD i rW):=hGr
theorem dD:UA pG 130=3:=Ji
def bld0:acB pG 130 []=Z (.agg #[rW,rW,rW]):=Ji
def mkPc(h:aai):aas pG h 96 1 [(0,.agg #[rW,rW,rW])]=Z (sL (Z h.next) 1 1,h.alloc (.cells [rW,rW,rW])):=Ji
theorem one3(vs:xLV)(a:∀u∈vs,u.oneCell'=tT):∀m,(abS vs m).all (·.oneCell')=tT
 |0=>rfl
 |m+1=>by
  have g:∀i,(vs.getD i rW).oneCell'=tT:=fun i=>by
   by_cases c:i<vs.length
   .grind
   .rw[V3,aex NH];rfl
  rw[abS,qL217,one3 vs a m,aoH,aoH,aoH,g,g];rfl
theorem Wq.one(P:Wq b0 h xv vs ps):(abS vs ps.length).all (·.oneCell')=tT:=by
 refine one3 vs (fun u a=>?_) _;obtain⟨i,hi,rfl⟩:=Yi.1 a;have f:=P.len;have b:=qL7 (l:=ps) (i:=i / 2) NH;have⟨c,d⟩:=P.ge _ _ b;have:i=2*(i / 2)\/i=2*(i / 2)+1:=NH;rcases this with e|e
 .have:=c.pr.sl.one;grind
 .have:=d.rl.one;grind
theorem Wq.push(P:Wq b0 h xv vs ps)(l:WF h)(I:ps.length<=100000):
  ∃a g d,aas pG h 96 1 [(0,.agg #[rW,rW,rW])]=Z (sL (Z h.next) 1 1,g)/\aaR pG g 96 96 xv (sL (Z h.next) 1 1)=Z (a,d)/\
   Wq b0 d a (vs++[rW,rW]) (ps++[([],[])])/\WF d/\Le h g/\(∀f,Le f h->Z2 f xv->Le f d)/\∀b o,h.own b=Z o->blk xv≠Z b->d.own b=Z o/\blk a≠Z b:=by
 have⟨g,e4,l4,s,z⟩:=Tt l [rW,rW,rW]
 have hs:∀e,UA pG e=3->aby pG g e (sL (Z h.next) 1 1)=Z (1,[rW,rW,rW]):=fun e A=>CS.src A (CS.own (k:=3) (off:=0) (n:=1) (cap:=1) z Ma)
 have⟨a,d,m,J,q⟩:=GS.append (P:=pG) (t:=96) (xt:=96) (k:=3) Ji (P.sl.le l4) hs P.one rfl rfl NH;have B:=xr s m;have w:∀b o,h.own b=Z o->blk xv≠Z b->d.own b=Z o/\blk a≠Z b:=fun b o C hb=>aG q s (l4.own _ _ C) hb;refine⟨a,g,d,by rw[mkPc,e4],m,?_,B,l4,(by grind[Le.trans]),w⟩;have D:=P.sep.app (h':=d) (i:=0) (u:=xv) (u':=a) rfl (by grind[Le.trans]) w (by grind[GS.Sy]);have E:Sep b0 d (a::(vs++[rW,rW])):=by have:=(Sep.snoc D (v:=rW) rfl).snoc (v:=rW) rfl;grind
 have x:abS (vs++[rW,rW]) (ps++[([],[])]).length=abS vs ps.length++[rW,rW,rW]:=by
  rw[Eh,vY,abS];congr 1
  .grind[akB]
  .rw[<-P.len,V3,V3,AE (qL0 _),AE NH];simp
 refine⟨E,by grind[Wq.len],hGr,fun i p y=>?_,uZ m P.cu⟩;by_cases c:i<ps.length
 .rw[si c]at y;have K:=P.len;have⟨F,G⟩:=P.ge i p y;have r:∀j,j<vs.length->(vs++[rW,rW]).getD j rW=vs.getD j rW:=hGr;rw[r _ NH,r _ NH];have nb:∀j,j<vs.length->∀b,blk (vs.getD j rW)=Z b->blk xv≠Z b:=fun j H b hb=>P.sep.TE (j+1) 0 _ _ b NH (u6 P H) rfl hb;exact⟨GS.kept F hGr,GS.kept G hGr⟩
 .have L:(vs++[rW,rW]).getD (2*ps.length) rW=rW:=by grind[Wq.len]
  have r:(vs++[rW,rW]).getD (2*ps.length+1) rW=rW:=by rw[<-P.len,V3,AE NH,qL127];rfl
  grind[GP.nil,GI.nil]
end
theorem GS.stor{P:Program}{h:aai}{k m:Nat}{v x:vV}{cs:xLV}{t:TypeId}{d:TypeDesc}(g:GS k h v m cs)(a:WF h)(q:P.underlying t=Z d)(hs:UA P t=1){i:Nat}(hi:i<m*k)(r:x.cells=#[x])(s:x.oneCell'=tT):
  ∃h',aaK P h t (pT (Z (aaq v i))) x=Z h'/\GS k h' v m (cs.set i x)/\WF h'/\(∀f,Le f h->Z2 f v->Le f h')/\∀b o,h.own b=Z o->blk v≠Z b->h'.own b=Z o:=by
 obtain⟨u,⟨rfl,rfl⟩|⟨id,c,cap,rfl,j,w,l⟩⟩:=g
 .omega
 .refine⟨h.put id (.cells (c.set i x)),?_,⟨hGr,.inr ⟨id,c.set i x,cap,rfl,aai.Y3 _ _ _,?_,l⟩⟩,a.put _ (a.lt j),fun f n af=>n.put _ (af id rfl),fun b o hb p=>?_⟩
  .grind[fA,Ip.eq_1,QB]
  .grind[take_set]
  .rw[aai.By _ _ _ _ (fun e=>p (by rw[e];rfl))];exact hb
def xO.cell{v:vV}{n:Nat}(h:xO v n):v.cells=#[v]:=by obtain⟨_,_,rfl,_⟩:=h;rfl
def GS.ad3{h:aai}{v:vV}{cs:xLV}{m:Nat}(g:GS 3 h v m cs){k:Nat}(d:k<m):aao pG 96 v k=Z (pT (Z (aaq v (k*3)))):=by obtain⟨a,c,rfl,hs⟩:=g.cs.sl;obtain⟨a,rfl⟩:=abV.1 (hs NH);have b:(k:Int)<(m:Int):=NH;simp[aao,afm,qS18,b,dD,aaq]
theorem eA3{h:aai}{v:vV}{cs:xLV}{m:Nat}(g:GS 3 h v m cs){k r:Nat}(b:k<m):Ip (aaq v (k*3)) r=aaq v (k*3+r):=by obtain⟨a,c,rfl,hs⟩:=g.cs.sl;grind[Option.isSome_iff_exists,fA,Ub]
section
variable{b0 h h2:aai}{xv:vV}{vs:List vV}{ps:List (List Pr×RZ)}
def Wq.ldE(P:Wq b0 h xv vs ps){k:Nat}(a:k<ps.length):aaC pG h 22 (aaq xv (k*3))=Z (vs.getD (2*k) rW):=by rw[Bj AV rfl];exact P.sl.cs.get _ _ (aY vs ps.length a).1
def Wq.ldF(P:Wq b0 h xv vs ps){k:Nat}(a:k<ps.length):aaC pG h 47 (aaq xv (k*3+1))=Z (vs.getD (2*k+1) rW):=by rw[Bj Mb rfl];exact P.sl.cs.get _ _ (aY vs ps.length a).2.1
def Wq.len_(P:Wq b0 h xv vs ps)(g:aai):aeh pG g 96 xv=Z (.int .i64 (ps.length:Nat)):=by obtain⟨a,c,rfl,_⟩:=P.sl.cs.sl;exact Jg afm g
theorem Wq.setR(P:Wq b0 h xv vs ps){t:TypeId}{d:TypeDesc}(G:pG.underlying t=Z d)(z:UA pG t=1){k r:Nat}(H:k<ps.length)(Q:r<2){u':vV}{pk:xLP×RZ}(A:WF h2)(hf:∀f,Le f h->Z2 f (vs.getD (2*k+r) rW)->Le f h2/\Z2 f u')(s:∀b o,h.own b=Z o->blk (vs.getD (2*k+r) rW)≠Z b->h2.own b=Z o/\blk u'≠Z b)(a:(r=0/\GP h2 u' pk.1/\∃l,ps[k]?=Z (l,pk.2))\/(r=1/\GI h2 u' pk.2/\∃f,ps[k]?=Z (pk.1,f))):
  ∃h3,aaK pG h2 t (pT (Z (aaq xv (k*3+r)))) u'=Z h3/\Wq b0 h3 xv (vs.set (2*k+r) u') (ps.set k pk)/\WF h3/\(∀f,Le f h->Z2 f (vs.getD (2*k+r) rW)->Z2 f xv->Le f h3)/\∀b o,h.own b=Z o->(∀u∈xv::vs,blk u≠Z b)->h3.own b=Z o:=by
 have R:=P.len;have n:2*k+r<vs.length:=NH
 have v:xO u' (if r=0 then pk.1.length else pk.2.length):=by
  rcases a with⟨e,g,_⟩|⟨e,g,_⟩
  .rw[abe e];exact g.pr.sl
  .rw[abE NH];exact g.rl.sl
 have I:∀b,blk u'=Z b->h2.own b≠Y:=fun b hb=>by
  rcases a with⟨_,g,_⟩|⟨_,g,_⟩
  .exact GS.Sy g hb
  .exact GS.Sy g hb
 have dx:∀b,blk xv=Z b->blk (vs.getD (2*k+r) rW)≠Z b:=fun b hb=>P.sep.TE 0 _ _ _ b NH rfl (u6 P n) hb;have B:GS 3 h2 xv ps.length (abS vs ps.length):=GS.kept P.sl hGr;have⟨h3,e3,S,J,K,L⟩:=GS.stor B A (x:=u') G z (i:=k*3+r) NH v.cell v.one;have M:∀b,blk xv=Z b->blk u'≠Z b:=fun b hb=>by have⟨o,E⟩:=N8.1 (P.sep.own 0 xv b rfl hb);grind
 refine⟨h3,e3,?_,J,hGr,hGr⟩;have C:=P.sep.app (u6 P n) hf s I;have N:Sep b0 h3 (xv::vs.set (2*k+r) u'):=C.kept (K b0 C.le (C.ap 0 xv rfl)) (by grind[GS.Sy]);refine⟨N,hGr,by grind[Yv],fun i p c=>?_,P.cu⟩;have keep:∀j,j<vs.length->j≠2*k+r->∀b o,blk (vs.getD j rW)=Z b->h.own b=Z o->h3.own b=Z o:=fun j F O b o hb E=>L b o (s b o E (P.sep.TE (j+1) (2*k+r+1) _ _ b NH (u6 P F) (u6 P n) hb)).1 (P.sep.TE (j+1) 0 _ _ b NH (u6 P F) rfl hb);have same:∀j,j≠2*k+r->(vs.set (2*k+r) u').getD j rW=vs.getD j rW:=hGr;have m:(vs.set (2*k+r) u').getD (2*k+r) rW=u':=hGr;have D:∀b o,blk u'=Z b->h2.own b=Z o->h3.own b=Z o:=hGr;rw[Tn]at c;by_cases e:k=i
 .subst e;simp only[if_true,H]at c;injection c with c;subst c;rcases a with⟨e,g,l,q⟩|⟨e,g,l,q⟩
  .subst e;have⟨w,y⟩:=P.ge k _ q;have n0:=m;rw[DF]at n0;rw[DF,n0];have s1:=same (2*k+1) NH;rw[DF]at s1;rw[s1];exact⟨GS.kept g hGr,GS.kept y hGr⟩
  .subst e;have⟨w,y⟩:=P.ge k _ q;rw[m,same (2*k) NH];exact⟨GS.kept w hGr,GS.kept g hGr⟩
 .rw[abE e]at c;have hi:=(Ny.1 c).1;have⟨w,y⟩:=P.ge i p c;rw[same (2*i) NH,same (2*i+1) NH];exact⟨GS.kept w hGr,GS.kept y hGr⟩
end
def Cls(n:Nat)(on:Nat->Bool)(es:xLP)(ρ:Nat->Nat):Prop:=∀u w,u<n->w<n->on u=fF->on w=fF->(ρ u=ρ w↔Cn on es u w)
section
variable{n:Nat}{on:Nat->Bool}{es:List Pr}{ρ d:Nat->Nat}
theorem Cn.mono{es b:xLP}(h:∀e∈es,e∈b){u w:Nat}(c:Cn on es u w):Cn on b u w:=by
 induction c with
 |refl o=>exact .refl o
 |step _ a o f=>exact .step f (a.imp (h _) (h _)) o
def cls_nil:Cls n on [] id:=fun u w _ _ b _=>by
 constructor
 .intro h;subst h;exact .refl b
 .intro h;cases h with
  |refl=>rfl
  |step _ a _=>rcases a with a|a<;>cases a
theorem bD{p:Pr}(C:Cls n on es ρ)(hR:0<=p.1/\0<=p.2)(h:on p.1.toNat=tT\/on p.2.toNat=tT):Cls n on (es++[p]) ρ:=fun u w e hw f b=>by
 rw[C u w e hw f b];refine⟨by grind[Cn.mono],fun c=>?_⟩;clear hw b
 induction c with
 |refl o=>exact .refl o
 |@step x y c1 a o g=>
  refine .step g ?_ o;have ox:=c1.aom;rcases a with a|a
  .rcases aax.1 a with a|a
   .exact .inl a
   grind
  .rcases aax.1 a with a|a
   .exact .inr a
   grind
theorem cls_join{a b:Nat}(C:Cls n on es ρ)(hR:InR n (es++[((a:Int),(b:Int))]))(k:on a=fF)(l:on b=fF):Cls n on (es++[((a:Int),(b:Int))]) (mW ρ (ρ a) (ρ b)):=fun u w o hw p q=>by
 have r:=hR _ (ang _ (xD.2 rfl));have sub:∀{x y},Cn on es x y->Cn on (es++[((a:Int),(b:Int))]) x y:=by grind[Cn.mono]
 have m:Cn on (es++[((a:Int),(b:Int))]) a b:=.step (.refl k) (.inl (by grind[List.mem_singleton])) l;have up:∀x,x<n->on x=fF->∀y,y<n->on y=fF->ρ x=ρ y->Cn on (es++[((a:Int),(b:Int))]) x y:=fun x g ox y i f e=>sub ((C x y g i ox f).1 e);have j:∀x,x<n->on x=fF->∃y,y<n/\on y=fF/\Cn on (es++[((a:Int),(b:Int))]) x y/\mW ρ (ρ a) (ρ b) x=ρ y:=by grind[mW,Cn.trans]
 constructor
 .grind[Cn.trans,Cn.symm]
 .intro c;have key:∀{x y},x<n->y<n->on x=fF->on y=fF->Jp (es++[((a:Int),(b:Int))]) x y->mW ρ (ρ a) (ρ b) x=mW ρ (ρ a) (ρ b) y:=fun{x y} g i ox f h=>by
   have qi:Jp es x y->mW ρ (ρ a) (ρ b) x=mW ρ (ρ a) (ρ b) y:=fun h=>by have:=(C x y g i ox f).2 (.step (.refl ox) h f);unfold mW;rw[this]
   have new:∀{x y:Nat},(((x:Int),(y:Int)):Pr)=((a:Int),(b:Int))->mW ρ (ρ a) (ρ b) x=mW ρ (ρ a) (ρ b) y:=fun{x y} e=>by injection e with s t;obtain rfl:x=a:=NH;obtain rfl:y=b:=NH;unfold mW;grind
   rcases h with h|h
   .rcases aax.1 h with h|h
    .exact qi (.inl h)
    grind
   .rcases aax.1 h with h|h
    .exact qi (.inr h)
    grind
  have lt:∀{x y},Jp (es++[((a:Int),(b:Int))]) x y->x<n/\y<n:=fun h=>h.lt hR
  induction c<;>grind[Cn.aom]
end
def hdL(n i:Nat):RZ:=(rG n).map fun v=>if v<i then(v:Int)else 0
theorem hdL_len(n i:Nat):(hdL n i).length=n:=by simp[hdL]
theorem hdL_zero(n:Nat):hdL n 0=rP n 0:=by apply mJ;grind[hdL]
theorem hdL_set{n i:Nat}(hi:i<n):(hdL n i).set i (i:Int)=hdL n (i+1):=by apply mJ;grind[hdL]
theorem hdL_all(n:Nat):hdL n n=(rG n).map fun(v:Nat)=>(v:Int):=by grind[hdL,map_congr_left]
noncomputable abbrev Gu(n:Nat)(on:Nat->Bool)(es:xLP)(v:Nat):Int:=(MF n on es).getD v 0
noncomputable abbrev frL(n:Nat)(on:Nat->Bool)(es:xLP):Pr->Nat->Int:=Zo n on (MF n on es)
def qT(on:Nat->Bool)(gs:List Gr):List (xLP×RZ):=gs.map fun g=>(g.2,kZ (BY on g.2))
structure fu (n:Nat) (on:Nat->Bool) (es:xLP) (ρ:Nat->Nat) (gs:List Gr) (A:RZ):Prop where
 len:A.length=n
 val:∀v,v<n->on v=fF->(∃(k:Nat)(l:xLP),A[ρ v]?=Z (k:Int)/\gs[k]?=Z (Gu n on es v,l))\/(A[ρ v]?=Z (-1)/\Gu n on es v∉Ea gs)
section
variable{n:Nat}{on:Nat->Bool}{es:List Pr}{ρ:Nat->Nat}{A:RZ}
theorem pH{v:Nat}(a:v<n)(b:on v=fF):∃k:Nat,k<n/\Gu n on es v=(k:Int):=by grind[uY,wx.off]
theorem an6{u w:Nat}(a:u<n)(hw:w<n)(b:on u=fF)(c:on w=fF):Gu n on es u=Gu n on es w↔Cn on es u w:=ajR uY a hw b c
theorem fu.zero(F:∀v,v<n->ρ v<n):fu n on es ρ [] (rP n (-1)):=⟨Ma,(by grind[Ea])⟩
theorem fu.qi{gs:List Gr}(T:fu n on es ρ gs A)(b:(Ea gs).Nodup){v k:Nat}{l:xLP}(c:gs[k]?=Z (Gu n on es v,l))(p:Pr):ab4 gs (Gu n on es v) p=gs.set k (Gu n on es v,l++[p])/\fu n on es ρ (gs.set k (Gu n on es v,l++[p])) A:=by
 have e:ab4 gs (Gu n on es v) p=gs.set k (Gu n on es v,l++[p]):=by
  rcases Ga (Gu n on es v) gs (gs.map fun _=>rW) 0 Ma with⟨a,_⟩|⟨j,l',u,a,_,_,_,h⟩
  .exact absurd (aev.2 ⟨_,BS c,rfl⟩) a
  .have i:j=k:=by
    refine ajT b (x:=Gu n on es v) ?_ ?_
    all_goals grind[Ea]
   grind
 refine⟨e,T.len,fun w hw f=>?_⟩;have g:Ea (gs.set k (Gu n on es v,l++[p]))=Ea gs:=by unfold Ea;apply mJ;grind
 rcases T.val w hw f with⟨j,l',a,h2⟩|⟨a,h2⟩
 .grind
 grind
def V4{gs:List Gr}{f:Int}(h:f∉Ea gs)(p:Pr):ab4 gs f p=gs++[(f,[p])]:=by
 rcases Ga f gs (gs.map fun _=>rW) 0 Ma with⟨_,_,_,a⟩|⟨j,l',u,b,_⟩
 .exact a p
 .exact absurd (aev.2 ⟨_,BS b,rfl⟩) h
theorem fu.new{gs:List Gr}(C:Cls n on es ρ)(F:∀v,v<n->ρ v<n)(T:fu n on es ρ gs A){v:Nat}(b:v<n)(e:on v=fF)(h:Gu n on es v∉Ea gs)(p:Pr):fu n on es ρ (gs++[(Gu n on es v,[p])]) (A.set (ρ v) (gs.length:Int)):=by
 refine⟨by grind[fu.len],fun w hw a=>?_⟩;have hA:ρ v<A.length:=by grind[fu.len]
 by_cases c:ρ v=ρ w
 .have el:Gu n on es v=Gu n on es w:=(an6 b hw e a).2 ((C v w b hw e a).1 c);grind
 .rw[Tn,abE c];rcases T.val w hw a with⟨j,l',f,h2⟩|⟨f,h2⟩
  .grind
  .refine .inr ⟨f,?_⟩;have:Ea (gs++[(Gu n on es v,[p])])=Ea gs++[Gu n on es v]:=by simp[Ea]
   rw[this,aax,xD];rintro(q|q)
   .exact h2 q
   .exact c ((C v w b hw e a).2 (by grind[an6]))
theorem fu.lone{gs:List Gr}(T:fu n on es ρ gs A){f:Int}(hf:(n:Int)<=f)(p:Pr):fu n on es ρ (gs++[(f,[p])]) A:=by
 refine⟨T.len,fun w hw a=>?_⟩;rcases T.val w hw a with⟨j,l',b,h2⟩|⟨b,h2⟩
 .grind
 .refine .inr ⟨b,?_⟩;have:Ea (gs++[(f,[p])])=Ea gs++[f]:=by simp[Ea]
  rw[this,aax,xD];rintro(q|q)
  .exact h2 q
  .obtain⟨k,c,e⟩:=pH (es:=es) hw a;omega
theorem lone_new(hR:InR n es){i:Nat}:((n:Int)+i)∉Ea (aaX (frL n on es) es [] i):=fun c=>by
 have⟨j,q,p,f,_,e⟩:=(keys_mem _ _ _ _ _).1 c;obtain⟨a,b,rfl,g,hb⟩:=jB hR (BS f);unfold frL Zo at e;split at e
 .rename_i h;have⟨k,l,m⟩:=pH (n:=n) (es:=es) hGr h;grind
 .split at e
  .rename_i o;have⟨k,l,m⟩:=pH (n:=n) (es:=es) hb o;grind
  .omega
def ps_new(gs:List Gr)(f:Int)(p:Pr):qT on (gs++[(f,[p])])=qT on gs++[([p],kZ (ftP on p))]:=by simp[qT,BY]
def ps_old(gs:List Gr)(k:Nat)(f:Int)(l:xLP):qT on (gs.set k (f,l))=(qT on gs).set k (l,kZ (BY on l)):=by simp[qT,agK]
theorem ddF_snoc(l:xLP)(p:Pr):kZ (BY on (l++[p]))=(ftP on p).foldl Uo (kZ (BY on l)):=by grind[kZ,BY]
end
variable {P:Program} {W0:abw} {es l:List Pr} {h:aai} {i n:Nat} {on:Nat->Bool}
def NB(X:II)(vs:xLV):Prop:=∀u∈vs,∀b∈X,blk u≠Z b
def ZJ.UJ{N:Nat}{ops:Array Oper}{ks:List Kt}{R:Exit->aam->aai->Prop}{fr:aam}(q:∀fr' h',fr'=fr->h'=h->ZJ P W0 N i ops ks R fr' h'):ZJ P W0 N i ops ks R fr h:=q fr h rfl rfl
theorem dd_len(hR:InR n es)(c:∀e∈l,e∈es):(kZ (BY on l)).length<=n:=by
 have⟨d,h2⟩:=VW (BY on l);have:=acK d (B:=kz (rG n)) fun x f=>by have⟨_,e,g,h⟩:=zS.1 ((h2 x).1 f);obtain⟨a,b,rfl,i,hb⟩:=jB hR (c e g);refine aev.2 ?_;grind
 grind[kz]
theorem amK{P:vV->Prop}{b a:vV}{vs:xLV}(h:∀u∈b::vs,P u)(d:P a)(h2:P rW):∀u∈a::(vs++[rW,rW]),P u:=fun u c=>by simp only[Og,aax,ai4,or_false]at c;grind
theorem Xr(W0:abw)(B n:Nat)(bv ov fv iv lv ev:vV)(on:List Bool)(es:xLP)(h:aai)(hs:Sr h B n bv ov fv iv lv)(ho:RL sJ h ov on)(dV:on.length=n)(he:PR h ev es)(hR:InR n es)(hn:n<=300)(cK:es.length<=1000):
  AC pG W0 96 [pT (Z B),ev] h fun x h'=>∃vs,Wq h h' x vs (qT (Wg on) (aaX (frL n (Wg on) es) es [] es.length)):=by
 refine AC.vF func96 ntmps96 results96 fun cM=>?_;have⟨h1,e1,l1,w1,o1⟩:=Tt cM (rP n (.int .i64 0));have mk:=mk35 h n NH;rw[e1]at mk
 have nT:h.own h.next=Y:=(Le.refl h).next cM (qL0 _)
 have⟨h2,e2,l2,w2,o2⟩:=Tt w1 [rW]
 have n5:h.own h1.next=Y:=by grind[Le.next]
 have d5:h.next≠h1.next:=fun e=>by have:=w1.lt o1;omega
 have cN:=QB (P:=pG) (t:=47) (x:=sL (Z h.next) n n) Mb Ji o2 (off:=0) Ma rfl rfl
 simp only[HO,seval,sf0,Ip,Gc,hs.l0,mk,Hj,e2,cN]
 have l3:Le h (h2.put h1.next (.cells (([rW]:xLV).set 0 (sL (Z h.next) n n)))):=(l1.trans l2).put _ n5
 have w3:WF (h2.put h1.next (.cells (([rW]:xLV).set 0 (sL (Z h.next) n n)))):=w2.put _ (w2.lt o2)
 have b9:(h2.put h1.next (.cells (([rW]:xLV).set 0 (sL (Z h.next) n n)))).own h1.next=Z (.cells [sL (Z h.next) n n]):=aai.Y3 _ _ _
 have cP:(h2.put h1.next (.cells (([rW]:xLV).set 0 (sL (Z h.next) n n)))).own h.next=Z (.cells (Bp (hdL n 0))):=by rw[aai.By _ _ _ _ d5,hdL_zero,l2.own _ _ o1];simp[Bp]
 generalize h2.put h1.next (.cells (([rW]:xLV).set 0 (sL (Z h.next) n n)))=h3 at*
 generalize h1.next=s at*
 generalize h.next=T at*
 clear cN o2 w2 l2 e2 o1 w1 l1 e1 mk;have aJ:∀g,g.own s=Z (.cells [sL (Z ⟨T,0,Y⟩) n n])->aaC pG g 47 ⟨s,0,Y⟩=Z (sL (Z ⟨T,0,Y⟩) n n):=fun g o=>by rw[Fq Mb rfl o];rfl
 have dj:=fun g=>Jg (P:=pG) (t:=47) (a:=Z ⟨T,0,Y⟩) (n:=n) (cap:=n) Mb g;refine Sk (XC (aJ h3 b9) dj) ?_;refine aab.intro (fun k fr hq=>∃i:Nat,k=n-i/\i<=n/\fr=mkF [(0,pT (Z B)),(1,ev),(5,pT (Z s)),(24,(n:Nat)),(25,(i:Nat))]/\hq.own s=Z (.cells [sL (Z ⟨T,0,Y⟩) n n])/\hq.own T=Z (.cells (Bp (hdL n i)))/\Le h hq)
  n [(0,pT (Z B)),(1,ev),(5,pT (Z s)),(24,(n:Nat)),(25,(0:Nat))] hAs ⟨0,rfl,Z6 _,rfl,b9,cP,l3⟩ ?_
 clear b9 cP l3 w3;rintro k fr hq cc ⟨i,rfl,hi,rfl,o5,oT,lq⟩;refine Uy ?_;refine Kl.intro (fun ht=>?_) (fun hf=>?_)
 .have bA:i<n:=acb ht;clear ht;have st:=stI oT (i:=i) (by grind[hdL_len]) (i:Int);rw[hdL_set bA]at st;simp only[HO,seval,aJ hq o5,Kx T n .i64 i bA,st,aaa i NH];exact tn (n-(i+1)) [(0,pT (Z B)),(1,ev),(5,pT (Z s)),(24,(n:Nat)),(25,(i+1:Nat))] (JS bA) hAs ⟨i+1,rfl,bA,rfl,by rw[aai.By _ _ _ _ (EH d5)];exact o5,aai.Y3 _ _ _,lq.put _ nT⟩
 have aX:n<=i:=vp hf;obtain rfl:i=n:=NH;rw[hdL_all]at oT;have cR:=fun g=>he.len g;have F0:=Fst.zero i;refine Sk cR ?_;clear hf hi aX;generalize dW:Wg on=m at*;have I:∀g,Le h g->∀v,v<i->aaC pG g 4 (aaq ov v)=Z (.bool (m v)):=fun g lg v hv=>by grind[RL.le,Nn.sJ,RL.W7]
 have J:∀v,v<i->aao pG 94 ov (.int .i64 (v:Int))=Z (pT (Z (aaq ov v))):=fun v hv=>ho.LB v NH;refine aab.intro (fun k fr hz=>∃(j:Nat)(L:RZ)(ρ d:Nat->Nat),k=es.length-j/\j<=es.length/\fr=mkF [(0,pT (Z B)),(1,ev),(5,pT (Z s)),(7,.func (.func 118) #[] #[pT (Z s)]),(34,ev),(35,(es.length:Nat)),(36,(j:Nat))]/\
   hz.own s=Z (.cells [sL (Z ⟨T,0,Y⟩) i i])/\hz.own T=Z (.cells (Bp L))/\Le h hz/\Fst i L ρ d/\Cls i m (es.take j) ρ)
  es.length [(0,pT (Z B)),(1,ev),(5,pT (Z s)),(7,.func (.func 118) #[] #[pT (Z s)]),(34,ev),(35,(es.length:Nat)),(36,(0:Nat))] hAs
  ⟨0,_,_,_,rfl,Z6 _,rfl,o5,oT,lq,F0,cls_nil⟩ ?_
 clear F0 oT o5 lq cc;rintro k fr hz av ⟨j,L,ρ,d,rfl,hj,rfl,o5,oT,lz,F,C⟩;refine Uy ?_;refine Kl.intro (fun ht=>?_) (fun hf=>?_)
 .have w:j<es.length:=acb ht;clear ht;have bB:=CA w;have cd:es.take (j+1)=es.take j++[es[j]]:=XJ w;have cU:InR i (es.take (j+1)):=fun p hp=>hR p (aj8 hp);have⟨a,b,cf,dk,hb⟩:=jB hR (aaf w);have ad:=he.addr (k:=.i64) j w;have ld:=(he.le lz).load bB;generalize es[j]=p at*;subst cf;rw[cd]at cU;have⟨h4,h5,e4,e5,l5,w5,oE⟩:=Ut av ((a:Int),(b:Int));have K:=lz.trans l5;have al:=l5.own _ _ o5;have aK:=l5.own _ _ oT;have L0:=lK oE;have L1:=HY oE;simp only at L0 L1
  have nE:∀{x o},hz.own x=Z o->x≠hz.next:=fun{x o} hx e=>by have:=av.lt hx;omega
  have aL:=nE oT
  generalize hz.next=E at*
  have X:a<i:=NH;have s5:=hs.le K;have aw:=aaa j (Lb w (QJ cK));by_cases ca:m a=tT
  .have C':Cls i m (es.take (j+1)) ρ:=by rw[cd];exact bD C hGr (.inl (by simpa using ca))
   have lo:=I h5 K a X;rw[ca]at lo;simp only[HO,seval,ad,ld,e4,e5];refine gh (fRn 0 20 .done) ?_;simp only[HO,seval,Qg,sf2,Ip,Gc,s5.l2,Dh,L0,J a X,lo,aw];exact tn (es.length-(j+1)) [(0,pT (Z B)),(1,ev),(5,pT (Z s)),(7,.func (.func 118) #[] #[pT (Z s)]),(34,ev),(35,(es.length:Nat)),(36,(j+1:Nat))] (JS w) hAs
    ⟨j+1,L,ρ,d,rfl,w,rfl,al,aK,K,F,C'⟩
  rw[aoG]at ca;have lo:=I h5 K a X;rw[ca]at lo;by_cases cb:m b=tT
  .have C':Cls i m (es.take (j+1)) ρ:=by grind[bD]
   have a6:=I h5 K b hb;rw[cb]at a6;simp only[HO,seval,ad,ld,e4,e5];refine gh (fRn 0 20 .done) ?_;simp only[HO,seval,Qg,sf2,Ip,Gc,s5.l2,Dh,Z0,L0,L1,J a X,J b hb,lo,a6,aw];exact tn (es.length-(j+1)) [(0,pT (Z B)),(1,ev),(5,pT (Z s)),(7,.func (.func 118) #[] #[pT (Z s)]),(34,ev),(35,(es.length:Nat)),(36,(j+1:Nat))] (JS w) hAs
    ⟨j+1,L,ρ,d,rfl,w,rfl,al,aK,K,F,C'⟩
  rw[aoG]at cb;have a6:=I h5 K b hb;rw[cb]at a6;have C':=cls_join C cU ca cb;rw[<-cd]at C';simp only[HO,seval,ad,ld,e4,e5];refine gh (fRn 0 20 .done) ?_;simp only[HO,seval,Qg,sf2,Ip,Gc,s5.l2,Dh,Z0,L0,L1,J a X,J b hb,lo,a6];refine gh (tA [0,1,2,3,5,6,7] (JQ 4 [1,3] (JQ 8 [4,5,7] (tA [9] (JQ 10 [0,1,2,3,4,5,6,7,8,9] .done))))) ?_;refine CO (rE (aJ h5 al) @Ip.eq_1 @Gc @Dh @Z0 L0 L1) ?_;refine kGi akW (Y9 W0 s T i L ρ d a h5 al aK d5 F X) ?_;rintro x h6 w6 ⟨rfl,L',F6,bF,cg,aB⟩;have ay:=aB s _ (EH d5) al;have aN:=aB E _ (EH aL) oE;have cW:=lK aN;have cZ:=HY aN;simp only at cW cZ;have ra:=F.rt a X;have rb:=F.rt b hb;refine CO (rE (aJ h6 ay) @Ip.eq_1 @Gc @Dh @Z0 cW cZ) ?_;refine kGi akW (Y9 W0 s T i L' ρ d b h6 ay bF d5 F6 hb) ?_;rintro x h7 w7 ⟨rfl,dZ,F7,W,cj,aC⟩;have M:=aC s _ (EH d5) ay;have aa:=aC E _ (EH aL) aN;have c0:=lK aa;have c3:=HY aa;simp only at c0 c3;have st:=stI W (i:=ρ a) (by grind[Fst.len]) (ρ b:Int);simp only[HO,seval,Qg,aJ h6 ay,aJ h7 M,Ip,Gc,Dh,Z0,c0,c3,Kx T i .i64 (ρ a) ra.1,st,aw];exact tn (es.length-(j+1)) [(0,pT (Z B)),(1,ev),(5,pT (Z s)),(7,.func (.func 118) #[] #[pT (Z s)]),(34,ev),(35,(es.length:Nat)),(36,(j+1:Nat))] (JS w) hAs
   ⟨j+1,_,_,_,rfl,w,rfl,by grind[aai.By],aai.Y3 _ _ _,(cj h (cg h K nT) nT).put _ nT,F7.join ra.1 rb.1 ra.2 rb.2,C'⟩
 have aX:es.length<=j:=vp hf;rw[HV aX]at C;have aD:=fun v hv=>(F.rt v hv).1;clear aX hf hj;have⟨h4,e4,l4,w4,o4⟩:=Tt av [.int .i64 (-1)];have s4:=hs.le (lz.trans l4);refine Sk (bG @DQ e4 @sf0 @Ip.eq_1 @Gc s4.l0) ?_;refine kCi alD (rN W0 _ i NH h4 (RL.Wh (RS.whole o4 rfl))) ?_;rintro x h8 w8 ⟨A,rfl,hA,o8,l8⟩;have bH:=l4.trans l8;have a7:=lz.trans bH;have a8:h8.own A=Z (.cells (Bp (rP i (-1)))):=by rw[o8];simp[Bp]
 have bI:=bH.own _ _ o5;have bN:=bH.own _ _ oT
 have nA:h.own A=Y:=(lz.trans l4).next w4 hA
 have dA:∀{b o},hz.own b=Z o->A≠b:=fun{b o} ob e=>by have:=w4.lt (l4.own _ _ ob);omega
 have bQ:=dA oT;have dm:=dA o5;have A0:fu i m es ρ (aaX (frL i m es) es [] 0) (rP i (-1)):=fu.zero aD;have P0:Wq h h8 rW [] (qT m (aaX (frL i m es) es [] 0)):=(Wq.nil h).up a7;refine Sk cR ?_;refine aab.intro (fun k fr hz=>∃(j:Nat)(L at_:RZ)(D:vV)(vs:xLV),k=es.length-j/\j<=es.length/\fr=mkF [(0,pT (Z B)),(7,.func (.func 118) #[] #[pT (Z s)]),(10,D),(11,sL (Z A) i i),(77,ev),(78,(es.length:Nat)),(79,(j:Nat))]/\
   hz.own s=Z (.cells [sL (Z ⟨T,0,Y⟩) i i])/\hz.own T=Z (.cells (Bp L))/\hz.own A=Z (.cells (Bp at_))/\Fst i L ρ d/\fu i m es ρ (aaX (frL i m es) es [] j) at_/\Wq h hz D vs (qT m (aaX (frL i m es) es [] j))/\NB [T,s,A] (D::vs))
  es.length [(0,pT (Z B)),(7,.func (.func 118) #[] #[pT (Z s)]),(10,rW),(11,sL (Z A) i i),(77,ev),(78,(es.length:Nat)),(79,(0:Nat))] hAs
  ⟨0,L,_,rW,[],rfl,Z6 _,rfl,bI,bN,a8,F,A0,P0,fun u N b _ q=>by rw[xD.1 N]at q;cases q⟩ ?_
 clear A0 P0 bN bI a8 o8 l8 w8 o4 e4 F oT o5 av s4 lz a7 bH l4 w4 hA dA;clear h8 h4 hz L j;rintro k fr hz av ⟨j,L,at_,D,vs,rfl,hj,rfl,o5,oT,oA,F,AT,P,nb⟩;have lz:=P.sep.le;refine Uy ?_;refine Kl.intro (fun ht=>?_) (fun hf=>?_)
 rotate_left
 .have aX:es.length<=j:=vp hf;obtain rfl:j=es.length:=NH;refine Uy ?_;grind
 have w:j<es.length:=acb ht;clear ht;have bB:=CA w;have⟨a,b,cf,dk,hb⟩:=jB hR (aaf w);have ad:=he.addr (k:=.i64) j w;have ld:=(he.le lz).load bB;generalize es[j]=p at*;subst cf;have eG:=dh (fr:=frL i m es) bB (show(((a:Int),(b:Int)):Pr)∉([]:xLP) by simp);obtain⟨nk,-,dp,ec,dq⟩:=Pt (frL i m es) es [] j;have⟨h4,h5,e4,e5,l5,w5,oE⟩:=Ut av ((a:Int),(b:Int));have K:=lz.trans l5;have al:=l5.own _ _ o5;have aK:=l5.own _ _ oT;have c4:=l5.own _ _ oA;have P5:=P.up l5
 have nE:∀{x o},hz.own x=Z o->x≠hz.next:=fun{x o} hx e=>by have:=av.lt hx;omega
 have aL:=nE oT;have dr:=nE oA
 have ed:h.own hz.next=Y:=by grind[Le.next]
 have ba:∀u∈D::vs,blk u≠Z hz.next:=fun u N q=>by
  have⟨t,ht⟩:=vZ.1 N;have:=P.sep.own t u _ ht q
  exact this ((Le.refl hz).next av (qL0 _))
 generalize hz.next=E at*
 have X:a<i:=NH;have aw:=aaa j (Lb w (QJ cK));have dv:∀g,g.own E=Z (.cells (xM ((a:Int),(b:Int))))->aaC pG g 3 ⟨E,0,Y⟩=Z (.int .i64 (a:Int)):=fun g o=>lK o;have dw:∀g,g.own E=Z (.cells (xM ((a:Int),(b:Int))))->aaC pG g 3 ⟨E,1,Y⟩=Z (.int .i64 (b:Int)):=fun g o=>HY o;have bT:=fun v hv=>Kx A i .i64 v hv;have ag:(qT m (aaX (frL i m es) es [] j)).length=(aaX (frL i m es) es [] j).length:=by simp[qT]
 apply Ya (F:=fun(fr:aam)(h6:aai)=>∃(k:Nat)(L at_:RZ)(D:vV)(vs:xLV)(ps:List (xLP×RZ))(l:xLP)(ft:RZ),Fj fr [(0,pT (Z B)),(7,.func (.func 118) #[] #[pT (Z s)]),(10,D),(11,sL (Z A) i i),(13,pT (Z E)),(15,.int .i64 (k:Int)),(77,ev),(78,(es.length:Nat)),(79,(j:Nat))]/\
   WF h6/\h6.own s=Z (.cells [sL (Z ⟨T,0,Y⟩) i i])/\h6.own T=Z (.cells (Bp L))/\h6.own A=Z (.cells (Bp at_))/\h6.own E=Z (.cells (xM ((a:Int),(b:Int))))/\Fst i L ρ d/\fu i m es ρ (aaX (frL i m es) es [] (j+1)) at_/\Wq h h6 D vs ps/\NB [T,s,A] (D::vs)/\(∀u∈D::vs,blk u≠Z E)/\
   ps[k]?=Z (l,ft)/\l.length<=j/\ft.length<=i/\qT m (aaX (frL i m es) es [] (j+1))=ps.set k (l++[((a:Int),(b:Int))],(ftP m ((a:Int),(b:Int))).foldl Uo ft))
 .intro cont;have s5:=hs.le K;have bb:∀{k:Nat}{f:Int}{l:xLP},(aaX (frL i m es) es [] j)[k]?=Z (f,l)->∀e∈l,e∈es:=fun{k f l} hk e dy=>dq _ (BS hk) e dy;have dz:=I h5 K a X;simp only[HO,seval,ad,ld,e4,e5,Dh,sf2,Ip,Gc,s5.l2,dv h5 oE,J a X,dz]
  apply Ya (F:=fun(fr:aam)(hv:aai)=>∃x:Nat,Fj fr [(0,pT (Z B)),(7,.func (.func 118) #[] #[pT (Z s)]),(10,D),(11,sL (Z A) i i),(13,pT (Z E)),(14,(x:Nat)),(77,ev),(78,(es.length:Nat)),(79,(j:Nat))]/\h5=hv/\x<i/\frL i m es ((a:Int),(b:Int)) j=if m x=tT then(i:Int)+j else Gu i m es x)
  .intro bg;cases ca:m a with
   |false=>simp only[kJJ,seval,Qg];refine KN.UJ fun fr' h' x y=>bg fr' h' ?_;rw[x,y];exact⟨a,hAs,rfl,X,by unfold frL Zo;simp only[yM];grind⟩
   |true=>simp only[kJJ,seval,Qg,Z0,Ip,Gc,dw h5 oE];refine KN.UJ fun fr' h' x y=>bg fr' h' ?_;rw[x,y];exact⟨b,hAs,rfl,hb,by unfold frL Zo;simp only[yM];grind⟩
  rintro fr hv ⟨x,bh,rfl,G,hf⟩;simp only[Fj]at bh;obtain⟨f0,f7,O,Q,R,aq,S,U,V,-⟩:=bh;cases cx:m x with
  |false=>
   have bj:=I h5 K x G;rw[cx]at bj;rw[hf,cx,abE Ma]at eG;refine Sk (aNd16 f0 f7 O Q R aq S U V @sf2 @Ip.eq_1 @Gc s5.l2 (J x G) bj P5.len_) ?_;refine kCi akW (Y9 W0 s T i L ρ d x h5 al aK d5 F G) ?_;rintro y h6 w6 ⟨rfl,L6,F6,bF,cg,aB⟩;have bW:=cg h K nT;have s6:=hs.le bW;have dB:=I h6 bW x G;rw[cx]at dB;have ay:=aB s _ (EH d5) al;have bY:=aB A _ bQ c4;have aN:=aB E _ (EH aL) oE;have P6:=P5.kept bW fun c o H ho=>aB c o (fun e=>by have⟨u,N,hb⟩:=H;exact nb u N T Ma (by rw[<-e];exact hb)) ho;rcases AT.val x G cx with⟨k,l,bZ,aE⟩|⟨bZ,aE⟩
   .have ck:=ldI bY bZ;have kp:decide ((k:Int)>=0)=tT:=EL NH;have⟨q1,q2⟩:=AT.qi nk aE ((a:Int),(b:Int));refine Sk (ahv f0 f7 O Q R aq S U V (bT (ρ x) (aD x G)) ck kp) ?_;refine kCi akW (Y9 W0 s T i L6 ρ d x h6 ay bF d5 F6 G) ?_;rintro y h7 w7 ⟨rfl,L7,F7,W,cj,aC⟩;have M:=aC s _ (EH d5) ay;have ae:=aC A _ bQ bY;have aa:=aC E _ (EH aL) aN;have az:=cj h bW nT;have P7:=P6.kept az fun c o H ho=>aC c o (fun e=>by have⟨u,N,hb⟩:=H;exact nb u N T Ma (by rw[<-e];exact hb)) ho;have c5:=ldI ae bZ;refine Sk (rk f0 f7 O Q R aq S U V (bT (ρ x) (aD x G)) c5) ?_;refine ZJ.UJ fun fr' h' x y=>cont fr' h' ?_;rw[x,y];have dE:=dp _ (BS aE);refine⟨k,L7,at_,D,vs,_,l,kZ (BY m l),(by simp only[Fj,HO,seval,f0,f7,O,Q,R,aq,S,U,V];simp),w7,M,W,ae,aa,F7,by rw[eG,q1];exact q2,P7,nb,ba,?_,dE,dd_len hR (bb aE),?_⟩
    .unfold qT;rw[aiq,aE];rfl
    .rw[eG,q1,ps_old,ddF_snoc]
   .have ck:=ldI bY bZ;have kp:decide ((-1:Int)>=0)=fF:=by decide
    have q1:=V4 aE ((a:Int),(b:Int));have q2:=AT.new C aD G cx aE ((a:Int),(b:Int));have⟨aF,g4,g5,q4,q5,P7,w7,dF,dH,ar⟩:=P6.push w6 (by rw[ag];omega);have aH:∀c,c∈[T,s,A]->blk D≠Z c:=fun c H=>nb D Ma c H;have⟨M,dI⟩:=ar s _ ay (aH s Ma);have⟨W,dJ⟩:=ar T _ bF (aH T Ma);have⟨ae,dL⟩:=ar A _ bY (aH A Ma);have⟨aa,aP⟩:=ar E _ aN (ba D Ma);have az:=P7.sep.le;have s7:=hs.le az;have bk:=I g5 az x G;rw[cx]at bk;have ai:NB [T,s,A] (aF::(vs++[rW,rW])):=amK nb (fun c H=>by simp only[Og,ai4,or_false]at H;rcases H with rfl|rfl|rfl<;>assumption) (by simp[blk]);have bm:∀u∈aF::(vs++[rW,rW]),blk u≠Z E:=amK ba aP (by simp[blk]);simp only[HO,seval,f0,f7,O,Q,R,aq,S,U,V,bT (ρ x) (aD x G),ck,kp,bld0,q4,q5,sf2,Ip,Gc,s7.l2,J x G,bk];refine kCi akW (Y9 W0 s T i L6 ρ d x g5 M W d5 F6 G) ?_;rintro y h8 w8 ⟨rfl,L8,F8,bN,dM,b0⟩;have bI:=b0 s _ (EH d5) M;have a8:=b0 A _ bQ ae;have dO:=b0 E _ (EH aL) aa;have a7:=dM h az nT;have P8:=P7.kept a7 fun c o H ho=>b0 c o (fun e=>by have⟨u,N,hb⟩:=H;exact ai u N T Ma (by rw[<-e];exact hb)) ho;have dQ:=stI a8 (i:=ρ x) (by rw[AT.len];exact aD x G) ((aaX (frL i m es) es [] j).length:Int);have dS:=a7.put (.cells (Bp (at_.set (ρ x) ((aaX (frL i m es) es [] j).length:Int)))) nA;have P9:=P8.kept dS fun c o H ho=>by have⟨u,N,hb⟩:=H;rw[aai.By _ _ _ _ (fun e=>ai u N A Ma (by rw[<-e];exact hb))];exact ho
    have bo:((qT m (aaX (frL i m es) es [] j)).length:Int)=((aaX (frL i m es) es [] j).length:Int):=by rw[ag]
    refine Sk (ahv f0 f7 O Q R aq S U V (bT (ρ x) (aD x G)) bo dQ) ?_;refine ZJ.UJ fun fr' h' x y=>cont fr' h' ?_;rw[x,y];refine⟨(aaX (frL i m es) es [] j).length,L8,_,aF,_,_,[],[],(by simp only[Fj,HO,seval,f0,f7,O,Q,R,aq,S,U,V];simp),w8.put _ (w8.lt a8),by rw[aai.By _ _ _ _ (EH dm)];exact bI,by rw[aai.By _ _ _ _ (EH bQ)];exact bN,aai.Y3 _ _ _,by rw[aai.By _ _ _ _ (EH dr)];exact dO,F8,by rw[eG,q1];exact q2,P9,ai,bm,?_,Z6 _,Z6 _,?_⟩
    .rw[AE (by rw[ag];exact qL0 _),ag,aj3];rfl
    .rw[eG,q1,ps_new,<-ag,fE _ _ (qL0 _),aj3];rfl
  |true=>
   have bj:=I h5 K x G;rw[cx]at bj;rw[hf,cx,abe rfl]at eG;have q1:=V4 (lone_new (on:=m) hR (i:=j)) ((a:Int),(b:Int));have q2:=AT.lone (f:=(i:Int)+j) NH ((a:Int),(b:Int));have⟨aF,g4,g5,q4,q5,P7,w7,dF,dH,ar⟩:=P5.push w5 (by rw[ag];omega);have aH:∀c,c∈[T,s,A]->blk D≠Z c:=fun c H=>nb D Ma c H;have⟨M,dI⟩:=ar s _ al (aH s Ma);have⟨W,dJ⟩:=ar T _ aK (aH T Ma);have⟨ae,dL⟩:=ar A _ c4 (aH A Ma);have⟨aa,aP⟩:=ar E _ oE (ba D Ma);have az:=P7.sep.le;have s7:=hs.le az;have bk:=I g5 az x G;rw[cx]at bk;have ai:NB [T,s,A] (aF::(vs++[rW,rW])):=amK nb (fun c H=>by simp only[Og,ai4,or_false]at H;rcases H with rfl|rfl|rfl<;>assumption) (by simp[blk]);have bm:∀u∈aF::(vs++[rW,rW]),blk u≠Z E:=amK ba aP (by simp[blk]);have bo:((qT m (aaX (frL i m es) es [] j)).length:Int)=((aaX (frL i m es) es [] j).length:Int):=by rw[ag]
   simp only[HO,seval,f0,f7,O,Q,R,aq,S,U,V,sf2,Ip,Gc,s5.l2,J x G,bj,P5.len_,bld0,q4,q5,s7.l2,bk,bo];refine ZJ.UJ fun fr' h' x y=>cont fr' h' ?_;rw[x,y];refine⟨(aaX (frL i m es) es [] j).length,L,at_,aF,_,_,[],[],(by simp only[Fj,HO,seval,f0,f7,O,Q,R,aq,S,U,V];simp),w7,M,W,ae,aa,F,by rw[eG,q1];exact q2,P7,ai,bm,?_,Z6 _,Z6 _,?_⟩
   .rw[AE (by rw[ag];exact qL0 _),ag,aj3];rfl
   .rw[eG,q1,ps_new,<-ag,fE _ _ (qL0 _),aj3];rfl
 rintro fr h6 ⟨k,L,at_,D,vs,ps,l,ft,bh,w6,o5,oT,oA,oE,F,AT,P,nb,aP,cp,ee,ef,c6⟩;simp only[Fj]at bh;obtain⟨f0,f7,O,Q,R,cq,S,U,V,-⟩:=bh;have aT:=(Ny.1 cp).1;have vl:=P.len;have cz:2*k<vs.length:=NH;have⟨gE,gF⟩:=P.ge k _ cp;simp only at gE gF;have a3:=P.sl.ad3 aT;have r0:=eA3 P.sl aT (r:=0);rw[DF]at r0;have ldE:=P.ldE aT;have⟨u',g4,g5,q4,q5,c9,b1,m4,b2,aV⟩:=gE.push w6 ((a:Int),(b:Int)) NH;have Lp:=uM oE;have⟨h7,br,P7,w7,da,aW⟩:=P.setR (t:=22) (r:=0) (u':=u') (pk:=(l++[((a:Int),(b:Int))],ft)) AV Ji aT NH b1 b2 aV (.inl ⟨rfl,c9,l,cp⟩);rw[DF]at br;have bx:∀c,(∀u∈D::vs,blk u≠Z c)->∀o,h6.own c=Z o->h7.own c=Z o:=fun c H o ho=>aW c o ho H;have aj:∀c∈[T,s,A],∀u∈D::vs,blk u≠Z c:=fun c H u N=>nb u N c H;have M:=bx s (aj s Ma) _ o5;have W:=bx T (aj T Ma) _ oT;have ae:=bx A (aj A Ma) _ oA;have aa:=bx E aP _ oE;have u0:vs.getD (2*k) rW∈D::vs:=by rw[D4 cz];exact Gw _ (aaf cz)
 have aA:∀c∈[T,s,A],∀o,h6.own c=Z o->blk u'≠Z c:=fun c H o ho=>(aV c o ho (aj c H _ u0)).2;have ai:NB [T,s,A] (D::vs.set (2*k) u'):=fun u N c H=>by
  rcases Og.1 N with rfl|N
  .exact nb u Ma c H
  .rcases PN N with N|rfl
   .exact nb u (by simp[N]) c H
   .simp only[Og,ai4,or_false]at H;rcases H with rfl|rfl|rfl
    .exact aA _ Ma _ oT
    .exact aA _ Ma _ o5
    .exact aA _ Ma _ oA
 rw[DF]at P7;have db:=uM aa;have cC:Le h6 g4:=m4;have dc:=uM (cC.own _ _ oE);have b5:aaC pG g4 22 (aaq D (k*3))=Z (vs.getD (2*k) rW):=(P.up cC).ldE aT;refine gh (fRn 0 8 (JQ 8 [7] (JQ 9 [6,8] (tA [10,11] (JQ 12 [0,1,2,3,4,5,6,7,8,9,11] .done))))) ?_;simp only[HO,seval,Qg,f0,f7,O,Q,R,cq,S,U,V,a3,pf0,r0,ldE,b5,Lp,dc,q4,q5,br,db];have dd:Wq h h7 D (vs.set (2*k) u') (ps.set k (l++[((a:Int),(b:Int))],(YB m ((a:Int),(b:Int)) 0).foldl Uo ft)):=by
  have:YB m ((a:Int),(b:Int)) 0=[]:=by simp[YB]
  rw[this];exact P7
 refine aab.intro (fun kk fr hq=>∃(q:Nat)(vs:xLV),kk=2-q/\q<=2/\fr=mkF [(0,pT (Z B)),(7,.func (.func 118) #[] #[pT (Z s)]),(10,D),(11,sL (Z A) i i),(15,.int .i64 (k:Int)),(77,ev),(78,(es.length:Nat)),(79,(j:Nat)),(149,UI ((a:Int),(b:Int))),(150,(q:Nat))]/\
   hq.own s=Z (.cells [sL (Z ⟨T,0,Y⟩) i i])/\hq.own T=Z (.cells (Bp L))/\hq.own A=Z (.cells (Bp at_))/\Wq h hq D vs (ps.set k (l++[((a:Int),(b:Int))],(YB m ((a:Int),(b:Int)) q).foldl Uo ft))/\NB [T,s,A] (D::vs))
  2 [(0,pT (Z B)),(7,.func (.func 118) #[] #[pT (Z s)]),(10,D),(11,sL (Z A) i i),(15,.int .i64 (k:Int)),(77,ev),(78,(es.length:Nat)),(79,(j:Nat)),(149,UI ((a:Int),(b:Int))),(150,(0:Nat))] (by simp only[Fj,HO,seval,f0,f7,O,Q,R,cq,S,U,V];simp)
  ⟨0,_,rfl,Z6 _,rfl,M,W,ae,dd,ai⟩ ?_
 clear dd b5 dc cC db ai aA u0 aa ae W M aj bx P7 br aW da w7 Lp aV b2 m4 b1 c9 q5 q4 ldE r0 a3 gE gF vl cz aP nb P oE oA oT o5 w6 f0 f7 O Q R cq S U V;rintro kk fr hq cc ⟨q,vs,rfl,eg,rfl,o5,oT,oA,P,nb⟩;have lq:=P.sep.le;by_cases c:q<2
 rotate_left
 .have z:((q:Int)<2)=False:=hGr;obtain rfl:q=2:=NH;have e2:YB m ((a:Int),(b:Int)) 2=ftP m ((a:Int),(b:Int)):=by simp[YB,ftP]
  rw[e2,<-c6]at P;simp only[HO,seval,z,aw];exact tn (es.length-(j+1)) [(0,pT (Z B)),(7,.func (.func 118) #[] #[pT (Z s)]),(10,D),(11,sL (Z A) i i),(77,ev),(78,(es.length:Nat)),(79,(j+1:Nat))] (JS w) hAs ⟨j+1,L,at_,D,vs,rfl,w,rfl,o5,oT,oA,F,AT,P,nb⟩
 have z:((q:Int)<2)=True:=eq_true NH;have ix:=ix42 ((a:Int),(b:Int)) q c;have bz:=BM m ((a:Int),(b:Int)) q c;have de:∃v:Nat,zR ((a:Int),(b:Int)) q=(v:Int)/\v<i:=by
  unfold zR;split
  all_goals grind
 have⟨v,hv,cE⟩:=de;rw[hv]at ix bz;rw[yM]at bz;have sq:=hs.le lq;have b3:=I hq lq v cE;have df:aca pG 98 (pT (Z B)) 2=Z (pT (Z ⟨B,2,Y⟩)):=rfl;have cJ:=aaa q NH;have b4:k<(ps.set k (l++[((a:Int),(b:Int))],(YB m ((a:Int),(b:Int)) q).foldl Uo ft)).length:=hGr;have b6:(ps.set k (l++[((a:Int),(b:Int))],(YB m ((a:Int),(b:Int)) q).foldl Uo ft))[k]?=Z (l++[((a:Int),(b:Int))],(YB m ((a:Int),(b:Int)) q).foldl Uo ft):=by rw[Tn,abe rfl,abe aT]
 cases co:m v with
 |false=>rw[co]at b3 bz;have e2:YB m ((a:Int),(b:Int)) q=YB m ((a:Int),(b:Int)) (q+1):=hGr;rw[e2]at P;refine Sk (rE z ix df sq.l2 (J v cE) b3 cJ) ?_;exact tn (2-(q+1)) [(0,pT (Z B)),(7,.func (.func 118) #[] #[pT (Z s)]),(10,D),(11,sL (Z A) i i),(15,.int .i64 (k:Int)),(77,ev),(78,(es.length:Nat)),(79,(j:Nat)),(149,UI ((a:Int),(b:Int))),(150,(q+1:Nat))] (JS c) hAs ⟨q+1,vs,rfl,c,rfl,o5,oT,oA,P,nb⟩
 |true=>
  rw[co,abe rfl]at bz;rw[co]at b3;have eF:(YB m ((a:Int),(b:Int)) (q+1)).foldl Uo ft=Uo ((YB m ((a:Int),(b:Int)) q).foldl Uo ft) (v:Int):=by rw[bz,qL209];rfl
  have b8:((YB m ((a:Int),(b:Int)) q).foldl Uo ft).length<=100000:=by
   have h1:∀(xs acc:RZ),(xs.foldl Uo acc).length<=acc.length+xs.length:=fun xs=>by
    induction xs with
    |nil=>grind
    |cons x xs ih=>
     intro acc;have:=ih (Uo acc x);have h2:(Uo acc x).length<=acc.length+1:=by unfold Uo;split<;>simp
     rw[iU,Fu];omega
   have h2:(YB m ((a:Int),(b:Int)) q).length<=2:=jz (abZ _ _) (by rw[WL];exact Nat.min_le_right _ _);have:=h1 (YB m ((a:Int),(b:Int)) q) ft;omega
  generalize (YB m ((a:Int),(b:Int)) q).foldl Uo ft=fq at*;have vl:=P.len;have dg:2*k+1<vs.length:=hGr;have⟨gE,gF⟩:=P.ge k _ b6;simp only at gE gF;have a3:=P.sl.ad3 b4;have r1:=eA3 P.sl b4 (r:=1);have ldF:=P.ldF b4;simp only[HO,seval,z,ix,df,sq.l2,J v cE,b3,a3,pf1,r1,ldF];refine kCi func49 (W3 W0 _ fq (v:Int) hq gF.rl b8) ?_;rintro y h9 w9 ⟨rfl,rfl⟩;by_cases cm:(v:Int)∈fq
  .have e3:Uo fq (v:Int)=fq:=by unfold Uo;grind
   rw[e3]at eF;rw[<-eF]at P;simp only[HO,seval,EL cm,cJ];exact tn (2-(q+1)) [(0,pT (Z B)),(7,.func (.func 118) #[] #[pT (Z s)]),(10,D),(11,sL (Z A) i i),(15,.int .i64 (k:Int)),(77,ev),(78,(es.length:Nat)),(79,(j:Nat)),(149,UI ((a:Int),(b:Int))),(150,(q+1:Nat))] (JS c) hAs ⟨q+1,vs,rfl,c,rfl,o5,oT,oA,P,nb⟩
  .have e3:Uo fq (v:Int)=fq++[(v:Int)]:=by unfold Uo;grind
   rw[e3]at eF;have⟨u',g4,g5,q4,q5,dT,b1,m4,b2,aV⟩:=gF.push cc (v:Int) b8;have⟨h7,br,P7,w7,da,aW⟩:=P.setR (t:=47) (r:=1) (u':=u') (pk:=(l++[((a:Int),(b:Int))],fq++[(v:Int)])) Mb Ji b4 NH b1 b2 aV (.inr ⟨rfl,dT,fq,b6⟩);rw[List.set_set,<-eF]at P7;have aj:∀c∈[T,s,A],∀u∈D::vs,blk u≠Z c:=fun c H u N=>nb u N c H;have M:=aW s _ o5 (aj s Ma);have W:=aW T _ oT (aj T Ma);have ae:=aW A _ oA (aj A Ma);have u0:vs.getD (2*k+1) rW∈D::vs:=by rw[D4 dg];exact Gw _ (aaf dg)
   have aA:∀c∈[T,s,A],∀o,h9.own c=Z o->blk u'≠Z c:=fun c H o ho=>(aV c o ho (aj c H _ u0)).2;have ai:NB [T,s,A] (D::vs.set (2*k+1) u'):=fun u N c H=>by
    rcases Og.1 N with rfl|N
    .exact nb u Ma c H
    .rcases PN N with N|rfl
     .exact nb u (by simp[N]) c H
     .simp only[Og,ai4,or_false]at H;rcases H with rfl|rfl|rfl
      .exact aA _ Ma _ oT
      .exact aA _ Ma _ o5
      .exact aA _ Ma _ oA
   simp only[HO,seval,Sb cm,a3,pf1,r1,ldF,q4,q5,br,cJ];exact tn (2-(q+1)) [(0,pT (Z B)),(7,.func (.func 118) #[] #[pT (Z s)]),(10,D),(11,sL (Z A) i i),(15,.int .i64 (k:Int)),(77,ev),(78,(es.length:Nat)),(79,(j:Nat)),(149,UI ((a:Int),(b:Int))),(150,(q+1:Nat))] (JS c) hAs ⟨q+1,_,rfl,c,rfl,M,W,ae,P7,ai⟩
end
end Go.Fw
