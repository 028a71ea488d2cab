/- A text. -/
import Derived.Test.YtkccdnmaaelbiaaGreatFwLJ3
set_option linter.all false
set_option maxRecDepth 99999
set_option maxHeartbeats 9999999
namespace Go.Fw
open Go.Proofs
attribute [local irreducible] Kp MQ lU rS KO KN KX KE VK Kl ZJ TC aab
attribute [local instance] Classical.propDecidable
structure wi (n:Nat) (L:RZ) (ρ d:Nat->Nat):Prop where
 len:L.length=n
 up:∀v,v<n->∃w,w<n/\L[v]?=some (w:Int)/\ρ w=ρ v/\((w=v/\ρ v=v)\/(w≠v/\d w<d v))
 rt:∀v,v<n->ρ v<n/\ρ (ρ v)=ρ v
section
variable {n : Nat} {L : List Int} {ρ d : Nat → Nat}
theorem wi.zero (n:Nat):wi n ((List.range n).map fun(v:Nat)=>(v:Int)) id (fun _=>0):=
 ⟨Ma,fun v a=>⟨v,a,by simp[a],rfl,.inl ⟨rfl,rfl⟩⟩,fun v a=>⟨a,rfl⟩⟩
theorem wi.halve (F:wi n L ρ d) {v w u:Nat} (f:v<n) (hw:L[v]?=some (w:Int)) (a:w≠v) (g:L[w]?=some (u:Int)):wi n (L.set v (u:Int)) ρ d/\d u<d v/\u<n/\ρ u=ρ v:=by
 obtain⟨w',h,h2,h3,c⟩:=F.up v f;rw[hw]at h2;injection h2 with h2;obtain rfl:w=w':=NH;have c:=c.resolve_left fun q=>a q.1;obtain⟨u',i,b,j,l⟩:=F.up w h;rw[g]at b;injection b with b;obtain rfl:u=u':=NH;have hd:d u<d v:=pw;refine⟨⟨by grind [wi.len],fun x k=>?_,F.rt⟩,hd,i,j.trans h3⟩;by_cases e:v=x
 .grind
 .rw[K4,if_neg e];exact F.up x k
noncomputable def mW (ρ:Nat->Nat) (a b:Nat):Nat->Nat:=fun x=>if ρ x=a then b else ρ x
noncomputable def cO (ρ d:Nat->Nat) (a b:Nat):Nat->Nat:=fun x=>if ρ x=a/\a≠b then d x+d b+1 else d x
theorem wi.join (F:wi n L ρ d) {a b:Nat} (ha:a<n) (hb:b<n) (ra:ρ a=a) (rb:ρ b=b):wi n (L.set a (b:Int)) (mW ρ a b) (cO ρ d a b):=by
 by_cases e:a=b
 .subst e
  have h:mW ρ a a=ρ:=by grind [mW]
  have i:cO ρ d a a=d:=by grind [cO]
  rw[h,i];refine⟨by grind [wi.len],fun x f=>?_,F.rt⟩;by_cases e:a=x
  .grind [wi.len]
  .rw[K4,if_neg e];exact F.up x f
 .have k : mW ρ a b b = b := by grind [mW]
  have g:∀x,x<n->mW ρ a b x<n:=fun x f=>by grind [mW,wi.rt]
  refine⟨by grind [wi.len],fun x f=>?_,fun x f=>⟨g x f,?_⟩⟩
  .by_cases ex : a = x
   .grind [wi.len,mW,cO]
   .rw [K4, if_neg ex]
    obtain⟨w,j,h2,h3,l⟩:=F.up x f;refine⟨w,j,h2,by grind [mW],?_⟩
    grind [mW,cO]
  .unfold mW
   by_cases c:ρ x=a
   all_goals grind [wi.rt]
end
theorem Y9 (K:LA) (i T n:Nat) (L:RZ) (ρ d:Nat->Nat) (v:Nat) (h:AHeap) (G:h.own i=some (.cells [.slice (some ⟨T,0,none⟩) n n])) (oT:h.own T=some (.cells (Bp L))) (j:T≠i) (F:wi n L ρ d) (M:v<n):
  AC Tryz.prog K 143 [.int .i64 (v:Int),.pointer (some ⟨i,0,none⟩)] h fun x h'=>x=.int .i64 (ρ v:Int)/\∃a,wi n a ρ d/\h'.own T=some (.cells (Bp a))/\(∀f,Le f h->f.own T=none->Le f h')/\∀b o,b≠T->h.own b=some o->h'.own b=some o:=by
 refine AC.vE ⟨adW,rfl,WY⟩ Tryz.ntmps143 Tryz.results143 fun N=>?_;simp only[Br,Nat.reduceAdd];refine Uy ?_;refine lIn (fun k fr g=>∃(c:Nat) (a:RZ),k=d c/\c<n/\fr=mkF [(0,.int .i64 (c:Nat)),(1,.pointer (some ⟨i,0,none⟩))]/\ρ c=ρ v/\wi n a ρ d/\g.own T=some (.cells (Bp a))/\(∀f,Le f h->f.own T=none->Le f g)/\∀b o,b≠T->h.own b=some o->g.own b=some o) ⟨v,L,rfl,M,rfl,rfl,F,oT,fun f s _=>s,fun b o _ H=>H⟩ ?_;clear oT F;rintro k fr g O ⟨c,a,rfl,l,rfl,P,F,oT,s,Q⟩;have t:=Q i _ (fj j) G;have l5:aload Tryz.prog g 49 ⟨i,0,none⟩=some (.slice (some ⟨T,0,none⟩) n n):=by rw[Fq Ac rfl t];rfl
 obtain⟨w,hw,I,R,y⟩:=F.up c l;have ld:=XP oT I;by_cases e:w=c
 .subst e
  have d1:decide ((w:Int)=(w:Int))=true:=decide_eq_true rfl;have S:ρ w=w:=pw;simp only[HO,Nat.reduceLT,↓reduceIte,Nat.reduceEqDiff,reduceCtorEq,l5,Kx T n .i64 w l,ld,bne,d1]
  grind
 .have d1 : decide ((w : Int) = (c : Int)) = false := decide_eq_false NH
  obtain⟨u,V,m,_,_⟩:=F.up w hw;have z:=XP oT m;obtain⟨U,hd,A,B⟩:=F.halve l I e m;have p:c<a.length:=pw;have st:=stI oT p (u:Int);have q:(g.put T (.cells (Bp (a.set c (u:Int))))).own T=some (.cells (Bp (a.set c (u:Int)))):=AHeap.Y3 _ _ _;have r:∀b o,b≠T->h.own b=some o->(g.put T (.cells (Bp (a.set c (u:Int))))).own b=some o:=fun b o hb H=>by grind [AHeap.By]
  have C:aload Tryz.prog (g.put T (.cells (Bp (a.set c (u:Int))))) 49 ⟨i,0,none⟩=some (.slice (some ⟨T,0,none⟩) n n):=by rw[Fq Ac rfl (r i _ (fj j) G)];rfl
  have D:aload Tryz.prog (g.put T (.cells (Bp (a.set c (u:Int))))) 3 ⟨T,c,none⟩=some (.int .i64 (u:Int)):=XP q (by rw[K4,if_pos rfl,if_pos p]);simp only[HO,Nat.reduceLT,↓reduceIte,Nat.reduceEqDiff,reduceCtorEq,l5,Kx T n .i64 c l,ld,bne,d1];refine gh (tA [0,1,2,3,4,5,6,7,8,9] (JQ 10 [0,1,2,3,4,5,6,7,8,9] .done)) ?_;simp only[HO,Nat.reduceLT,↓reduceIte,Nat.reduceEqDiff,reduceCtorEq,Nat.reduceBEq,Qg,l5,Kx T n .i64 c l,Kx T n .i64 w hw,ld,z,st,C,D];exact lgA hd ⟨u,_,rfl,A,rfl,B.trans P,U,q,fun f E J=>(s f E J).put _ J,r⟩
end Go.Fw
namespace Go.Fw
open Go.Proofs
attribute [local instance] Classical.propDecidable
structure Sep (b0 h:AHeap) (vs:List Value):Prop where
 TE:∀(i j:Nat) u w b,i≠j->vs[i]?=some u->vs[j]?=some w->blk u=some b->blk w≠some b
 own:∀(i:Nat) u b,vs[i]?=some u->blk u=some b->h.own b≠none
 ap:∀(i:Nat) u,vs[i]?=some u->Z2 b0 u
 le:Le b0 h
section
variable {b0 h h' : AHeap} {vs : List Value}
theorem Sep.kept (S:Sep b0 h vs) (l:Le b0 h') (c:∀b o,h.own b=some o->h'.own b≠none):Sep b0 h' vs:=
 ⟨S.TE,fun i u b a hb=>by
  obtain⟨o,d⟩:=N8.1 (S.own i u b a hb)
  grind,S.ap,l⟩
theorem Sep.up (S:Sep b0 h vs) (l:Le h h'):Sep b0 h' vs:=by grind [Sep.kept,Sep.le,Le.trans,Le.own]
theorem Sep.app (S:Sep b0 h vs) {i:Nat} {u u':Value} (c:vs[i]?=some u) (hf:∀f,Le f h->Z2 f u->Le f h'/\Z2 f u') (m:∀b o,h.own b=some o->blk u≠some b->h'.own b=some o/\blk u'≠some b) (d:∀b,blk u'=some b->h'.own b≠none):Sep b0 h' (vs.set i u'):=by
 have key:∀(j:Nat) w,(vs.set i u')[j]?=some w->(j=i/\w=u')\/(j≠i/\vs[j]?=some w):=pw;obtain⟨l1,a1⟩:=hf b0 S.le (S.ap i u c);have fresh:∀(j:Nat) w b,j≠i->vs[j]?=some w->blk w=some b->h'.own b≠none/\blk u'≠some b:=fun j w b n hw hb=>by
  obtain⟨o,d⟩:=N8.1 (S.own j w b hw hb)
  grind [Sep.TE]
 refine⟨fun j k a w b e ha hw hb q=>?_,fun j a b ha hb=>?_,fun j a ha=>?_,l1⟩
 .rcases key j a ha with ⟨g, rfl⟩ | ⟨g, p⟩
  .grind
  .rcases key k w hw with ⟨l, rfl⟩ | ⟨l, h2⟩
   .grind
   grind [Sep.TE]
 all_goals grind [Sep.ap]
theorem Sep.snoc (S:Sep b0 h vs) {v:Value} (e:blk v=none):Sep b0 h (vs++[v]):=by
 have key:∀(j:Nat) w,(vs++[v])[j]?=some w->vs[j]?=some w\/w=v:=pw;refine⟨fun i j u w b c a hw hb q=>?_,fun i u b a hb=>?_,fun i u a b hb=>?_,S.le⟩
 .grind [Sep.TE]
 .grind [Sep.own]
 .rcases key i u a with d | rfl
  .exact S.ap i u d b hb
  grind
end
abbrev rW:Value:=.slice none 0 0
def cellsO (vs:List Value):Nat->List Value
 |0=>[]
 |m+1=>cellsO vs m++[vs.getD (2*m) rW,vs.getD (2*m+1) rW,rW]
theorem Iy (vs:List Value):∀m,(cellsO vs m).length=m*3
 |0=>rfl
 |m+1=>by rw[cellsO,vZ,Iy vs m];simp;omega
theorem aY (vs:List Value) {k:Nat}:∀m,k<m->(cellsO vs m)[k*3]?=some (vs.getD (2*k) rW)/\(cellsO vs m)[k*3+1]?=some (vs.getD (2*k+1) rW)/\(cellsO vs m)[k*3+2]?=some rW
 |0,h=>by grind
 |m+1,h=>by
  rw[cellsO];by_cases e:k=m
  .refine ⟨?_, ?_, ?_⟩
   .grind [Iy]
   .grind [Iy]
   grind [Iy]
  .obtain ⟨a, h2, h3⟩ := aY vs (k := k) m NH
   grind
theorem aA {vs ws:List Value}:∀m,(∀i,i<2*m->vs.getD i rW=ws.getD i rW)->cellsO vs m=cellsO ws m
 |0,_=>rfl
 |m+1,h=>by rw[cellsO,cellsO,aA m fun i hi=>h i NH,h (2*m) NH,h (2*m+1) NH]
theorem Yv {vs:List Value} {k r:Nat} (b:r<2) {a:Value}:∀m,k<m->2*m<=vs.length->cellsO (vs.set (2*k+r) a) m=(cellsO vs m).set (k*3+r) a
 |0,h,_=>by grind
 |m+1,h,c=>by
  rw[cellsO,cellsO];by_cases e:k=m
  .subst e
   rw[aA (ws:=vs) k pw]
   grind [Iy,Nat.add_sub_cancel_left]
  .rw [Yv b m NH NH, List.set_append_left _ _ (by grind [Iy])]
   grind
structure Wq (b0 h:AHeap) (xv:Value) (vs:List Value) (ps:List (List Pr×RZ)):Prop where
 sep:Sep b0 h (xv::vs)
 len:vs.length=2*ps.length
 sl:GS 3 h xv ps.length (cellsO vs ps.length)
 ge:∀(i:Nat) p,ps[i]?=some p->GP h (vs.getD (2*i) rW) p.1/\GI h (vs.getD (2*i+1) rW) p.2
 cu:cu xv
section
variable {b0 h h' : AHeap} {xv : Value} {vs : List Value} {ps : List (List Pr × List Int)}
theorem Wq.nil (b0:AHeap):Wq b0 b0 rW [] []:=by
 refine⟨⟨fun i j u w b d a hw hb=>?_,fun i u b a hb=>?_,fun i u a b hb=>?_,Le.refl _⟩,rfl,GS.nil 3 b0,pw,.inl rfl⟩
 all_goals
  have c:=Gc a;rw[jf]at c;subst c;cases hb
theorem Wq.kept (P:Wq b0 h xv vs ps) (l:Le b0 h') (g:∀b o,(∃u∈xv::vs,blk u=some b)->h.own b=some o->h'.own b=some o):Wq b0 h' xv vs ps:=by
 have a:∀i,i<vs.length->vs.getD i rW∈xv::vs:=pw;refine⟨⟨P.sep.TE,fun i u b d hb=>?_,P.sep.ap,l⟩,P.len,GS.kept P.sl pw,fun i p c=>?_,P.cu⟩
 .obtain ⟨o, j⟩ := N8.1 (P.sep.own i u b d hb)
  grind
 .have hi := (Ny.1 c).1
  have:=P.len;obtain⟨e,f⟩:=P.ge i p c;exact⟨GS.kept e pw,GS.kept f pw⟩
theorem Wq.up (P:Wq b0 h xv vs ps) (l:Le h h'):Wq b0 h' xv vs ps:=P.kept (P.sep.le.trans l) (by grind [Le.own])
theorem u6 (P:Wq b0 h xv vs ps) {i:Nat} (hi:i<vs.length):(xv::vs)[i+1]?=some (vs.getD i rW):=pw
theorem dD:UA Tryz.prog 125=3:=Ji
def bld0:aBuild Tryz.prog 125 []=some (.agg #[rW,rW,rW]):=Ji
def mkPc (h:AHeap):aBuildSlice Tryz.prog h 75 1 [(0,.agg #[rW,rW,rW])]=some (.slice (some ⟨h.next,0,none⟩) 1 1,h.alloc (.cells [rW,rW,rW])):=Ji
theorem one3 (vs:List Value) (a:∀u∈vs,u.oneCell'=true):∀m,(cellsO vs m).all (·.oneCell')=true
 |0=>rfl
 |m+1=>by
  have g:∀i,(vs.getD i rW).oneCell'=true:=fun i=>by
   by_cases c:i<vs.length
   .grind
   .rw[mJ,Ua NH];rfl
  rw[cellsO,ti,one3 vs a m,afv,afv,afv,g,g];rfl
theorem Wq.one (P:Wq b0 h xv vs ps):(cellsO vs ps.length).all (·.oneCell')=true:=by
 refine one3 vs (fun u a=>?_) _;obtain⟨i,hi,rfl⟩:=Bn.1 a;have f:=P.len;have b:=XJ (l:=ps) (i:=i / 2) NH;obtain⟨c,d⟩:=P.ge _ _ b;have:i=2*(i / 2)\/i=2*(i / 2)+1:=NH;rcases this with e|e
 .have := c.pr.sl.one
  grind
 .have := d.rl.one
  grind
theorem Wq.push (P:Wq b0 h xv vs ps) (l:WF h) (I:ps.length<=100000):
  ∃a g d,aBuildSlice Tryz.prog h 75 1 [(0,.agg #[rW,rW,rW])]=some (.slice (some ⟨h.next,0,none⟩) 1 1,g)/\aAppend Tryz.prog g 75 75 xv (.slice (some ⟨h.next,0,none⟩) 1 1)=some (a,d)/\
   Wq b0 d a (vs++[rW,rW]) (ps++[([],[])])/\WF d/\Le h g/\(∀f,Le f h->Z2 f xv->Le f d)/\∀b o,h.own b=some o->blk xv≠some b->d.own b=some o/\blk a≠some b:=by
 obtain⟨g,e4,l4,s,z⟩:=Tt l [rW,rW,rW]
 have hs:∀e,UA Tryz.prog e=3->srcCells Tryz.prog g e (.slice (some ⟨h.next,0,none⟩) 1 1)=some (1,[rW,rW,rW]):=fun e A=>
  CS.src A (CS.own (k:=3) (off:=0) (n:=1) (cap:=1) z Ma)
 obtain⟨a,d,m,J,q⟩:=GS.append (P:=Tryz.prog) (t:=75) (xt:=75) (k:=3) Ji (P.sl.le l4) hs P.one rfl rfl NH;have B:=xr s m;have w:∀b o,h.own b=some o->blk xv≠some b->d.own b=some o/\blk a≠some b:=fun b o C hb=>aG q s (l4.own _ _ C) hb;refine⟨a,g,d,by rw[mkPc,e4],m,?_,B,l4,(by grind [Le.trans]),w⟩;have D:=P.sep.app (h':=d) (i:=0) (u:=xv) (u':=a) rfl (by grind [Le.trans]) w (by grind [GS.Sy]);have E:Sep b0 d (a::(vs++[rW,rW])):=by
  have:=(Sep.snoc D (v:=rW) rfl).snoc (v:=rW) rfl
  grind
 have x:cellsO (vs++[rW,rW]) (ps++[([],[])]).length=cellsO vs ps.length++[rW,rW,rW]:=by
  rw[vZ,AQ,cellsO];congr 1
  .grind [aA]
  .rw[<-P.len,mJ,mJ,AE (qL0 _),AE NH];simp
 refine⟨E,by grind [Wq.len],pw,fun i p y=>?_,uZ m P.cu⟩;by_cases c:i<ps.length
 .rw [fR c] at y
  have K:=P.len;obtain⟨F,G⟩:=P.ge i p y;have r:∀j,j<vs.length->(vs++[rW,rW]).getD j rW=vs.getD j rW:=pw;rw[r _ NH,r _ NH];have nb:∀j,j<vs.length->∀b,blk (vs.getD j rW)=some b->blk xv≠some b:=fun j H b hb=>P.sep.TE (j+1) 0 _ _ b NH (u6 P H) rfl hb;exact⟨GS.kept F pw,GS.kept G pw⟩
 .have L : (vs ++ [rW, rW]).getD (2 * ps.length) rW = rW := by grind [Wq.len]
  have r:(vs++[rW,rW]).getD (2*ps.length+1) rW=rW:=by rw[<-P.len,mJ,AE NH,Gq];rfl
  grind [GP.nil,GI.nil]
end
end Go.Fw
namespace Go.Fw
open Go.Proofs
attribute [local instance] Classical.propDecidable
theorem GS.stor {P:Program} {h:AHeap} {k m:Nat} {v x:Value} {cs:List Value} {t:TypeId} {d:TypeDesc} (g:GS k h v m cs) (a:WF h) (q:P.underlying t=some d) (hs:UA P t=1) {i:Nat} (hi:i<m*k) (r:x.cells=#[x]) (s:x.oneCell'=true):
  ∃h',aStore P h t (.pointer (some (elemAddr v i))) x=some h'/\GS k h' v m (cs.set i x)/\WF h'/\(∀f,Le f h->Z2 f v->Le f h')/\∀b o,h.own b=some o->blk v≠some b->h'.own b=some o:=by
 obtain⟨u,⟨rfl,rfl⟩|⟨id,c,cap,rfl,j,w,l⟩⟩:=g
 .omega
 .refine ⟨h.put id (.cells (c.set i x)), ?_, ⟨pw, .inr ⟨id, c.set i x, cap, rfl, AHeap.Y3 _ _ _, ?_, l⟩⟩, a.put _ (a.lt j), fun f n af => n.put _ (af id rfl), fun b o hb p => ?_⟩
  .grind [fA,Ip.eq_1,QB]
  .grind [List.take_set]
  .rw[AHeap.By _ _ _ _ (fun e=>p (by rw[e];rfl))];exact hb
def xO.cell {v:Value} {n:Nat} (h:xO v n):v.cells=#[v]:=by obtain⟨_,_,rfl,_⟩:=h;rfl
def GS.ad3 {h:AHeap} {v:Value} {cs:List Value} {m:Nat} (g:GS 3 h v m cs) {k:Nat} (d:k<m):aIndexAddr Tryz.prog 75 v (.int .i64 (k:Int))=some (.pointer (some (elemAddr v (k*3)))):=by
 obtain⟨a,c,rfl,hs⟩:=g.cs.sl;obtain⟨a,rfl⟩:=Gw.1 (hs NH);have b:(k:Int)<(m:Int):=NH;simp[aIndexAddr,NQ,zj,b,dD,elemAddr]
theorem eA3 {h:AHeap} {v:Value} {cs:List Value} {m:Nat} (g:GS 3 h v m cs) {k r:Nat} (b:k<m):Ip (elemAddr v (k*3)) r=elemAddr v (k*3+r):=by
 obtain⟨a,c,rfl,hs⟩:=g.cs.sl
 grind [Option.isSome_iff_exists,fA,Ub]
section
variable {b0 h h2 : AHeap} {xv : Value} {vs : List Value} {ps : List (List Pr × List Int)}
def Wq.ldE (P:Wq b0 h xv vs ps) {k:Nat} (a:k<ps.length):aload Tryz.prog h 22 (elemAddr xv (k*3))=some (vs.getD (2*k) rW):=by rw[Bj eY rfl];exact P.sl.cs.get _ _ (aY vs ps.length a).1
def Wq.ldF (P:Wq b0 h xv vs ps) {k:Nat} (a:k<ps.length):aload Tryz.prog h 49 (elemAddr xv (k*3+1))=some (vs.getD (2*k+1) rW):=by rw[Bj Ac rfl];exact P.sl.cs.get _ _ (aY vs ps.length a).2.1
def Wq.len_ (P:Wq b0 h xv vs ps) (g:AHeap):aLen Tryz.prog g 75 xv=some (.int .i64 (ps.length:Nat)):=by
 obtain⟨a,c,rfl,_⟩:=P.sl.cs.sl;exact Jg NQ g
theorem Wq.setR (P:Wq b0 h xv vs ps) {t:TypeId} {d:TypeDesc} (G:Tryz.prog.underlying t=some d) (z:UA Tryz.prog t=1) {k r:Nat} (H:k<ps.length) (Q:r<2) {u':Value} {pk:List Pr×RZ} (A:WF h2)
  (hf:∀f,Le f h->Z2 f (vs.getD (2*k+r) rW)->Le f h2/\Z2 f u') (s:∀b o,h.own b=some o->blk (vs.getD (2*k+r) rW)≠some b->h2.own b=some o/\blk u'≠some b)
  (a:(r=0/\GP h2 u' pk.1/\∃l,ps[k]?=some (l,pk.2))\/(r=1/\GI h2 u' pk.2/\∃f,ps[k]?=some (pk.1,f))):
  ∃h3,aStore Tryz.prog h2 t (.pointer (some (elemAddr xv (k*3+r)))) u'=some h3/\Wq b0 h3 xv (vs.set (2*k+r) u') (ps.set k pk)/\WF h3/\(∀f,Le f h->Z2 f (vs.getD (2*k+r) rW)->Z2 f xv->Le f h3)/\∀b o,h.own b=some o->(∀u∈xv::vs,blk u≠some b)->h3.own b=some o:=by
 have R:=P.len;have n:2*k+r<vs.length:=NH
 have v:xO u' (if r=0 then pk.1.length else pk.2.length):=by
  rcases a with⟨e,g,_⟩|⟨e,g,_⟩
  .rw[if_pos e];exact g.pr.sl
  .rw[if_neg NH];exact g.rl.sl
 have I:∀b,blk u'=some b->h2.own b≠none:=fun b hb=>by
  rcases a with⟨_,g,_⟩|⟨_,g,_⟩
  .exact GS.Sy g hb
  .exact GS.Sy g hb
 have dx:∀b,blk xv=some b->blk (vs.getD (2*k+r) rW)≠some b:=fun b hb=>P.sep.TE 0 _ _ _ b NH rfl (u6 P n) hb;have B:GS 3 h2 xv ps.length (cellsO vs ps.length):=GS.kept P.sl pw;obtain⟨h3,e3,S,J,K,L⟩:=GS.stor B A (x:=u') G z (i:=k*3+r) NH v.cell v.one;have M:∀b,blk xv=some b->blk u'≠some b:=fun b hb=>by
  obtain⟨o,E⟩:=N8.1 (P.sep.own 0 xv b rfl hb)
  grind
 refine⟨h3,e3,?_,J,pw,pw⟩;have C:=P.sep.app (u6 P n) hf s I;have N:Sep b0 h3 (xv::vs.set (2*k+r) u'):=C.kept (K b0 C.le (C.ap 0 xv rfl)) (by grind [GS.Sy]);refine⟨N,pw,by grind [Yv],fun i p c=>?_,P.cu⟩;have keep:∀j,j<vs.length->j≠2*k+r->∀b o,blk (vs.getD j rW)=some b->h.own b=some o->h3.own b=some o:=fun j F O b o hb E=>
  L b o (s b o E (P.sep.TE (j+1) (2*k+r+1) _ _ b NH (u6 P F) (u6 P n) hb)).1 (P.sep.TE (j+1) 0 _ _ b NH (u6 P F) rfl hb)
 have same:∀j,j≠2*k+r->(vs.set (2*k+r) u').getD j rW=vs.getD j rW:=pw;have m:(vs.set (2*k+r) u').getD (2*k+r) rW=u':=pw;have D:∀b o,blk u'=some b->h2.own b=some o->h3.own b=some o:=pw;rw[K4]at c;by_cases e:k=i
 .subst e
  simp only[if_true,H]at c;injection c with c;subst c;rcases a with⟨e,g,l,q⟩|⟨e,g,l,q⟩
  .subst e
   obtain⟨w,y⟩:=P.ge k _ q;have n0:=m;rw[bC]at n0;rw[bC,n0];have s1:=same (2*k+1) NH;rw[bC]at s1;rw[s1];exact⟨GS.kept g pw,GS.kept y pw⟩
  .subst e
   obtain⟨w,y⟩:=P.ge k _ q;rw[m,same (2*k) NH];exact⟨GS.kept w pw,GS.kept g pw⟩
 .rw [if_neg e] at c
  have hi:=(Ny.1 c).1;obtain⟨w,y⟩:=P.ge i p c;rw[same (2*i) NH,same (2*i+1) NH];exact⟨GS.kept w pw,GS.kept y pw⟩
end
end Go.Fw
namespace Go.Fw
open Go.Proofs
attribute [local instance] Classical.propDecidable
def Cls (n:Nat) (on:Nat->Bool) (es:List Pr) (ρ:Nat->Nat):Prop:=∀u w,u<n->w<n->on u=false->on w=false->(ρ u=ρ w↔Cn on es u w)
section
variable {n : Nat} {on : Nat → Bool} {es : List Pr} {ρ d : Nat → Nat}
theorem Cn.mono {es b:List Pr} (h:∀e∈es,e∈b) {u w:Nat} (c:Cn on es u w):Cn on b u w:=by
 induction c with
 |refl o=>exact .refl o
 |step _ a o f=>exact .step f (a.imp (h _) (h _)) o
def cls_nil:Cls n on [] id:=fun u w _ _ b _=>by
 constructor
 .intro h;subst h;exact .refl b
 .intro h
  cases h with
  |refl=>rfl
  |step _ a _=>rcases a with a|a<;>cases a
theorem bD {p:Pr} (C:Cls n on es ρ) (hR:0<=p.1/\0<=p.2) (h:on p.1.toNat=true\/on p.2.toNat=true):Cls n on (es++[p]) ρ:=fun u w e hw f b=>by
 rw[C u w e hw f b];refine⟨by grind [Cn.mono],fun c=>?_⟩;clear hw b
 induction c with
 |refl o=>exact .refl o
 |@step x y c1 a o g=>
  refine .step g ?_ o;have ox:=c1.AB;rcases a with a|a
  .rcases Sb.1 a with a | a
   .exact .inl a
   grind
  .rcases Sb.1 a with a | a
   .exact .inr a
   grind
theorem agA {a b:Nat} (C:Cls n on es ρ) (hR:aV n (es++[((a:Int),(b:Int))])) (k:on a=false) (l:on b=false):Cls n on (es++[((a:Int),(b:Int))]) (mW ρ (ρ a) (ρ b)):=fun u w o hw p q=>by
 have r:=hR _ (Ki _ (jf.2 rfl));have sub:∀{x y},Cn on es x y->Cn on (es++[((a:Int),(b:Int))]) x y:=by grind [Cn.mono]
 have m:Cn on (es++[((a:Int),(b:Int))]) a b:=.step (.refl k) (.inl (by grind [List.mem_singleton])) l;have up:∀x,x<n->on x=false->∀y,y<n->on y=false->ρ x=ρ y->Cn on (es++[((a:Int),(b:Int))]) x y:=fun x g ox y i f e=>sub ((C x y g i ox f).1 e);have j:∀x,x<n->on x=false->∃y,y<n/\on y=false/\Cn on (es++[((a:Int),(b:Int))]) x y/\mW ρ (ρ a) (ρ b) x=ρ y:=by grind [mW,Cn.trans]
 constructor
 .grind [Cn.trans,Cn.symm]
 .intro c
  have key:∀{x y},x<n->y<n->on x=false->on y=false->Jp (es++[((a:Int),(b:Int))]) x y->mW ρ (ρ a) (ρ b) x=mW ρ (ρ a) (ρ b) y:=fun{x y} g i ox f h=>by
   have qi:Jp es x y->mW ρ (ρ a) (ρ b) x=mW ρ (ρ a) (ρ b) y:=fun h=>by
    have:=(C x y g i ox f).2 (.step (.refl ox) h f);unfold mW;rw[this]
   have new:∀{x y:Nat},(((x:Int),(y:Int)):Pr)=((a:Int),(b:Int))->mW ρ (ρ a) (ρ b) x=mW ρ (ρ a) (ρ b) y:=fun{x y} e=>by
    injection e with s t;obtain rfl:x=a:=NH;obtain rfl:y=b:=NH;unfold mW;grind
   rcases h with h|h
   .rcases Sb.1 h with h | h
    .exact qi (.inl h)
    grind
   .rcases Sb.1 h with h | h
    .exact qi (.inr h)
    grind
  have lt:∀{x y},Jp (es++[((a:Int),(b:Int))]) x y->x<n/\y<n:=fun h=>h.lt hR
  induction c<;>grind [Cn.AB]
end
def hdL (n i:Nat):RZ:=(List.range n).map fun v=>if v<i then(v:Int)else 0
theorem hdL_len (n i:Nat):(hdL n i).length=n:=by simp[hdL]
theorem agC (n:Nat):hdL n 0=List.replicate n 0:=by
 apply EH
 grind [hdL]
theorem hdL_set {n i:Nat} (hi:i<n):(hdL n i).set i (i:Int)=hdL n (i+1):=by
 apply EH
 grind [hdL]
theorem hdL_all (n:Nat):hdL n n=(List.range n).map fun(v:Nat)=>(v:Int):=by grind [hdL,List.map_congr_left]
noncomputable abbrev Gu (n:Nat) (on:Nat->Bool) (es:List Pr) (v:Nat):Int:=(MF n on es).getD v 0
noncomputable abbrev frL (n:Nat) (on:Nat->Bool) (es:List Pr):Pr->Nat->Int:=Zo n on (MF n on es)
def qT (on:Nat->Bool) (gs:List Gr):List (List Pr×RZ):=gs.map fun g=>(g.2,kZ (BY on g.2))
structure fu (n:Nat) (on:Nat->Bool) (es:List Pr) (ρ:Nat->Nat) (gs:List Gr) (A:RZ):Prop where
 len:A.length=n
 val:∀v,v<n->on v=false->(∃(k:Nat) (l:List Pr),A[ρ v]?=some (k:Int)/\gs[k]?=some (Gu n on es v,l))\/(A[ρ v]?=some (-1)/\Gu n on es v∉Ea gs)
section
variable {n : Nat} {on : Nat → Bool} {es : List Pr} {ρ : Nat → Nat} {A : List Int}
theorem pH {v:Nat} (a:v<n) (b:on v=false):∃k:Nat,k<n/\Gu n on es v=(k:Int):=by grind [uY,wx.off]
theorem TB {u w:Nat} (a:u<n) (hw:w<n) (b:on u=false) (c:on w=false):Gu n on es u=Gu n on es w↔Cn on es u w:=M9 uY a hw b c
theorem fu.zero (F:∀v,v<n->ρ v<n):fu n on es ρ [] (List.replicate n (-1)):=
 ⟨Ma,(by grind [Ea])⟩
theorem fu.qi {gs:List Gr} (T:fu n on es ρ gs A) (b:(Ea gs).Nodup) {v k:Nat} {l:List Pr} (c:gs[k]?=some (Gu n on es v,l)) (p:Pr):addG gs (Gu n on es v) p=gs.set k (Gu n on es v,l++[p])/\fu n on es ρ (gs.set k (Gu n on es v,l++[p])) A:=by
 have e:addG gs (Gu n on es v) p=gs.set k (Gu n on es v,l++[p]):=by
  rcases Ga (Gu n on es v) gs (gs.map fun _=>rW) 0 Ma with⟨a,_⟩|⟨j,l',u,a,_,_,_,h⟩
  .exact absurd (HV.2 ⟨_,Gc c,rfl⟩) a
  .have i:j=k:=by
    refine QN b (x:=Gu n on es v) ?_ ?_
    all_goals grind [Ea]
   grind
 refine⟨e,T.len,fun w hw f=>?_⟩;have g:Ea (gs.set k (Gu n on es v,l++[p]))=Ea gs:=by
  unfold Ea;apply EH
  grind
 rcases T.val w hw f with⟨j,l',a,h2⟩|⟨a,h2⟩
 .grind
 grind
def V4 {gs:List Gr} {f:Int} (h:f∉Ea gs) (p:Pr):addG gs f p=gs++[(f,[p])]:=by
 rcases Ga f gs (gs.map fun _=>rW) 0 Ma with⟨_,_,_,a⟩|⟨j,l',u,b,_⟩
 .exact a p
 .exact absurd (HV.2 ⟨_,Gc b,rfl⟩) h
theorem fu.new {gs:List Gr} (C:Cls n on es ρ) (F:∀v,v<n->ρ v<n) (T:fu n on es ρ gs A) {v:Nat} (b:v<n) (e:on v=false) (h:Gu n on es v∉Ea gs) (p:Pr):fu n on es ρ (gs++[(Gu n on es v,[p])]) (A.set (ρ v) (gs.length:Int)):=by
 refine⟨by grind [fu.len],fun w hw a=>?_⟩;have hA:ρ v<A.length:=by grind [fu.len]
 by_cases c:ρ v=ρ w
 .have el : Gu n on es v = Gu n on es w := (TB b hw e a).2 ((C v w b hw e a).1 c)
  grind
 .rw [K4, if_neg c]
  rcases T.val w hw a with⟨j,l',f,h2⟩|⟨f,h2⟩
  .grind
  .refine .inr ⟨f, ?_⟩
   have:Ea (gs++[(Gu n on es v,[p])])=Ea gs++[Gu n on es v]:=by simp[Ea]
   rw[this,Sb,jf];rintro(q|q)
   .exact h2 q
   .exact c ((C v w b hw e a).2 (by grind [TB]))
theorem fu.lone {gs:List Gr} (T:fu n on es ρ gs A) {f:Int} (hf:(n:Int)<=f) (p:Pr):fu n on es ρ (gs++[(f,[p])]) A:=by
 refine⟨T.len,fun w hw a=>?_⟩;rcases T.val w hw a with⟨j,l',b,h2⟩|⟨b,h2⟩
 .grind
 .refine .inr ⟨b, ?_⟩
  have:Ea (gs++[(f,[p])])=Ea gs++[f]:=by simp[Ea]
  rw[this,Sb,jf];rintro(q|q)
  .exact h2 q
  .obtain ⟨k, c, e⟩ := pH (es := es) hw a
   omega
theorem agD (hR:aV n es) {i:Nat}:((n:Int)+i)∉Ea (grpsM (frL n on es) es [] i):=fun c=>by
 obtain⟨j,q,p,f,_,e⟩:=(afY _ _ _ _ _).1 c;obtain⟨a,b,rfl,g,hb⟩:=jB hR (Gc f);unfold frL Zo at e;split at e
 .rename_i h
  obtain⟨k,l,m⟩:=pH (n:=n) (es:=es) pw h
  grind
 .split at e
  .rename_i o
   obtain⟨k,l,m⟩:=pH (n:=n) (es:=es) hb o
   grind
  .omega
def Xe (gs:List Gr) (f:Int) (p:Pr):qT on (gs++[(f,[p])])=qT on gs++[([p],kZ (ftP on p))]:=by simp[qT,BY]
def agE (gs:List Gr) (k:Nat) (f:Int) (l:List Pr):qT on (gs.set k (f,l))=(qT on gs).set k (l,kZ (BY on l)):=by simp[qT,Dk]
theorem KS (l:List Pr) (p:Pr):kZ (BY on (l++[p]))=(ftP on p).foldl Uo (kZ (BY on l)):=by grind [kZ,BY]
end
end Go.Fw
