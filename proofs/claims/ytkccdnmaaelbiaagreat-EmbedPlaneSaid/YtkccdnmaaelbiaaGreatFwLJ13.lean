/- A text. -/
import Derived.Test.YtkccdnmaaelbiaaGreatFwLJ7
set_option linter.all false
set_option maxRecDepth 99999
set_option maxHeartbeats 9999999
namespace Go.Fw
section
attribute [local instance] Classical.propDecidable
attribute [local irreducible] Ax YH XZ Uk KO KN KX KE VK DK Q7 dK W9
open Go.Proofs
variable {cs:List Value} {h:AHeap} {i m:Nat} {v:Value}
def QC (T:Ac) (id n i cap:Nat) (c:List Value) (h:AHeap) (p:h.own id=some (.cells c)) (hl:n*3<=c.length) (L:(c.take (n*3)).all (·.oneCell')=true) (hi:i<n) (hn:n<=100000) (C:n<=cap) (M:cap<km):
  AC Tryz.prog T 99 [.slice (some ⟨id,0,none⟩) n cap,.int .i64 (i:Int),.int .i64 ((i+1:Nat):Int)] h fun x h'=>
   ∃n',n'<=cap/\x=.slice (some ⟨id,0,none⟩) n' cap/\n'=n-1/\∃c',(h'.own id=some (.cells c')/\(∀f,Le f h->f.own id=none->Le f h')/\∀b o,b≠id->h.own b=some o->h'.own b=some o)/\c'.take ((n-1)*3)=c.take (i*3)++((c.drop ((i+1)*3)).take ((n-(i+1))*3)):=by
 have k:¬km<=cap:=eV.2 M;have d:=rU;have j:=XA;have U:(0:Int)<=(i:Int):=QT;have V:(i:Int)<=((i+1:Nat):Int):=QT;have N:((i+1:Nat):Int)<=(n:Int):=QT;have O:(0:Int)<=((i+1:Nat):Int):=QT;have Q:(0:Int)<=(n:Int):=QT;have R:(n:Int)<=(cap:Int):=QT;have e7:(i:Int)<=(cap:Int):=QT;have D:∃v,aSlice Tryz.prog 75 (.slice (some ⟨id,0,none⟩) n cap) (some (.int .i64 (i:Int))) (some (.int .i64 ((i+1:Nat):Int))) (some (.int .i64 (n:Int)))=some v:=by
  refine⟨Value.slice (if n=i then some ⟨id,0,none⟩else some ⟨id,i*3,none⟩) (i+1-i) (n-i),?_⟩
  .simp only[aSlice,d,k,if_false,C,j,fi,and_self,if_true,aBounds,aBound,U,V,N,O,Q,R,TK,pD,Co,Qv,Qs]
 obtain⟨v1,D⟩:=D;have W:aSlice Tryz.prog 75 (.slice (some ⟨id,0,none⟩) n cap) none (some (.int .i64 (i:Int))) none=some (.slice (some ⟨id,0,none⟩) i cap):=c8 d j i QT C M
 have X:aSlice Tryz.prog 75 (.slice (some ⟨id,0,none⟩) n cap) (some (.int .i64 ((i+1:Nat):Int))) none none=some (.slice (if cap=i+1 then some ⟨id,0,none⟩else some ⟨id,(i+1)*3,none⟩) (n-(i+1)) (cap-(i+1))):=by
  have Y:((i+1:Nat):Int)<=(n:Int):=N;simp only[aSlice,d,k,if_false,C,j,fi,and_self,if_true,aBounds,aBound,O,Y,TK,pD,Co,Qv,Qs]
 have rd:∀e,JO Tryz.prog e=3->srcCells Tryz.prog h e (.slice (if cap=i+1 then some ⟨id,0,none⟩else some ⟨id,(i+1)*3,none⟩) (n-(i+1)) (cap-(i+1)))=some (n-(i+1),(c.drop ((i+1)*3)).take ((n-(i+1))*3)):=fun e Z=>by
  by_cases q:cap=i+1
  .have z : n - (i + 1) = 0 := QT
   rw[if_pos q,z];simp[srcCells,readN]
  .rw [if_neg q]
   have:=J7 p ((n-(i+1))*3) ((i+1)*3) QT;simp only[srcCells,Z,this]
 have nl:((c.drop ((i+1)*3)).take ((n-(i+1))*3)).length=(n-(i+1))*3:=by rw[Ja,YA];omega
 have n1:((c.drop ((i+1)*3)).take ((n-(i+1))*3)).all (·.oneCell')=true:=by
  rw[jE]at L ⊢;intro x hx;refine L x ?_;obtain⟨q,w⟩:=OH.1 hx;rw[IK]at w;split at w
  .rw [G3] at w
   refine Jb (i:=(i+1)*3+q) ?_;rw[IK,if_pos QT];exact w
  .cases w
 have app:∃c1 r,(r.own id=some (.cells c1)/\(∀f,Le f h->f.own id=none->Le f r)/\∀b o,b≠id->h.own b=some o->r.own b=some o)/\aAppend Tryz.prog h 75 75 (.slice (some ⟨id,0,none⟩) i cap) (.slice (if cap=i+1 then some ⟨id,0,none⟩else some ⟨id,(i+1)*3,none⟩) (n-(i+1)) (cap-(i+1)))=some (.slice (some ⟨id,0,none⟩) (n-1) cap,r)/\c1.length=c.length/\
   c1.take ((n-1)*3)=c.take (i*3)++((c.drop ((i+1)*3)).take ((n-(i+1))*3)):=by
  have B:azero Tryz.prog 125=some (.agg #[Y2,Y2,Y2]):=zd;have S:(Value.agg #[Y2,Y2,Y2]).cells.size=JO Tryz.prog 125/\(Value.agg #[Y2,Y2,Y2]).cells.toList.all (·.oneCell')=true:=⟨by kernel_rfl,by kernel_rfl⟩;have hs:=rd 125 Qv;have bo:Tryz.prog.bytesOf 125<=1000:=by decide
  have b1:(i+(n-(i+1)))*Tryz.prog.bytesOf 125<=140737488355328:=Jh (Xd (show i+(n-(i+1))<=100000 by omega) bo) xr;have b2:i+(n-(i+1))<=140737488355328:=QT;have l:(Value.agg #[Y2,Y2,Y2]).cells.size=JO Tryz.prog 125/\(Value.agg #[Y2,Y2,Y2]).cells.toList.all (·.oneCell')/\(Tryz.prog.underlying 125).isSome/\notIntD (.slice 125)/\((c.drop ((i+1)*3)).take ((n-(i+1))*3)).all (·.oneCell')/\(i+(n-(i+1)))*Tryz.prog.bytesOf 125<=140737488355328/\i+(n-(i+1))<=140737488355328/\((c.drop ((i+1)*3)).take ((n-(i+1))*3)).length=(n-(i+1))*JO Tryz.prog 125:=
   ⟨S.1,S.2,by rw[j];rfl,rfl,n1,b1,b2,by rw[Qv];exact nl⟩
  have es:i+(n-(i+1))=n-1:=QT;by_cases E:n-(i+1)=0
  .refine ⟨c, h, ⟨p, fun f y _ => y, fun b o _ hb => hb⟩, ?_, rfl, ?_⟩
   .simp only [aAppend, d, B, hs]
    rw[if_pos l,if_pos E,if_pos QT];have:i=n-1:=QT;rw[<-this]
   .rw [E]
    have:i=n-1:=QT;rw[this];simp
  .have room : i * 3 + ((c.drop ((i + 1) * 3)).take ((n - (i + 1)) * 3)).length <= c.length := by rw [nl]; omega
   refine⟨putCells c (i*3) ((c.drop ((i+1)*3)).take ((n-(i+1))*3)),_,⟨AHeap.zm _ _ _,fun f y hf=>y.put _ hf,fun b o hb p=>by rw[AHeap.Dz _ _ _ _ hb];exact p⟩,?_,Am _ _ _,?_⟩
   .simp only [aAppend, d, B, hs]
    rw[if_pos l,if_neg E,if_neg k,if_pos QT];simp only[p,Qv,Qs,room,if_true,es]
   .rw[NT _ _ _ room,wO (by rw[Vw,Ja,nl];omega),xV (by rw[Vw,Ja,nl];omega)]
 obtain⟨c1,r,⟨o1,F,G⟩,app,H,I⟩:=app;have S4:aSlice Tryz.prog 75 (.slice (some ⟨id,0,none⟩) (n-1) cap) (some (.int .i64 ((n-1:Nat):Int))) (some (.int .i64 (n:Int))) none=some (.slice (some ⟨id,(n-1)*3,none⟩) 1 (cap-(n-1))):=by
  have a1:((n-1:Nat):Int)<=(n:Int):=QT;have a2:(0:Int)<=((n-1:Nat):Int):=QT;have a3:n-1<=cap:=QT;have a4:¬cap=n-1:=QT;have a5:n-(n-1)=1:=QT;simp only[aSlice,d,k,if_false,a3,j,fi,and_self,if_true,aBounds,aBound,Q,R,a1,a2,TK,a4,a5,pD,Co,Qv,Qs]
 have s:∃c2,aClear Tryz.prog r 75 (.slice (some ⟨id,(n-1)*3,none⟩) 1 (cap-(n-1)))=some (.tuple #[],r.put id (.cells c2))/\c2.take ((n-1)*3)=c1.take ((n-1)*3):=by
  have B:azero Tryz.prog 125=some (.agg #[Y2,Y2,Y2]):=zd;have room:(n-1)*3+[Y2,Y2,Y2].length<=c1.length:=by rw[H];simp;omega
  have J:(Value.agg #[Y2,Y2,Y2]).cells=#[Y2,Y2,Y2]:=zd;have zr:zrow (Value.agg #[Y2,Y2,Y2]).cells.toList 1=[Y2,Y2,Y2]:=zd;refine⟨putCells c1 ((n-1)*3) [Y2,Y2,Y2],?_,?_⟩
  .have u : (n - 1) * 3 + 1 * (Value.agg #[Y2, Y2, Y2]).cells.size <= c1.length := by rw [J]; exact room
   have fl:(Value.agg #[Y2,Y2,Y2]).cells.toList.all flat=true:=zd;simp only[aClear,d,B,o1,fl,u,decide_true,Bool.and_self,cond_true,zr];rfl
  .rw[NT _ _ _ room,Nd,wO (by rw[Ja];omega),aaU,Nat.min_self]
 obtain⟨c2,s,K⟩:=s;refine AC.vE ⟨Tryz.func99,rfl,xr⟩ Tryz.ntmps99 Tryz.results99 fun ad=>?_;simp only[xq,Nat.reduceAdd];have A:=fun m g=>lD (P:=Tryz.prog) (t:=75) (a:=some ⟨id,0,none⟩) (n:=m) (cap:=cap) d g;have d1:decide ((i:Int)=((i+1:Nat):Int))=false:=decide_eq_false QT;simp only[Ud,Nat.reduceLT,↓reduceIte,Nat.reduceEqDiff,reduceCtorEq,A,D,d1];refine rD (vu [0,1,2,3,4,5] (PO 6 [2,5] (PO 7 [0,1,2,3,4,5,6] .done))) ?_;simp only[Ud,Nat.reduceLT,↓reduceIte,Nat.reduceEqDiff,reduceCtorEq,Nat.reduceBEq,rm,W,X,app,A,S4,s];exact⟨n-1,QT,rfl,rfl,c2,⟨AHeap.zm _ _ _,fun f y hf=>(F f y hf).put _ hf,fun b o hb p=>by rw[AHeap.Dz _ _ _ _ hb];exact G b o hb p⟩,by rw[K,I]⟩
def Y5 (q:Ac) (g:GS 3 h v m cs) (d:cu v) (t:cs.all (·.oneCell')=true) (hi:i<m) (k:m<=100000):
  AC Tryz.prog q 99 [v,.int .i64 (i:Int),.int .i64 ((i+1:Nat):Int)] h fun x h'=>
   GS 3 h' x (m-1) (cs.take (i*3)++cs.drop ((i+1)*3))/\cu x/\blk x=blk v/\(∀f,Le f h->tQ f v->Le f h')/\∀b o,h.own b=some o->blk v≠some b->h'.own b=some o:=by
 obtain⟨r,⟨rfl,C⟩|⟨id,c,cap,rfl,u,l,n⟩⟩:=g
 .omega
 have j:cap=km+3:=by
  rcases n with n|⟨rfl,k⟩
  .exact n
  .rcases d with d | ⟨a, n', c', d, s⟩
   .cases d
   .injection d with _ _ h3; subst h3
    have:(1000000000000:Nat)<=km:=by decide
    omega
 subst j;have p:m*3<=c.length:=by
  have:=congrArg List.length l;rw[Ja,r]at this;omega
 refine(AC.exact (Q:=fun n' h'=>n'=m-1/\∃c',(h'.own id=some (.cells c')/\(∀f,Le f h->f.own id=none->Le f h')/\∀b o,b≠id->h.own b=some o->h'.own b=some o)/\c'.take ((m-1)*3)=c.take (i*3)++((c.drop ((i+1)*3)).take ((m-(i+1))*3))) QT fun cap h2 h3=>QC q id m i cap c h u p (by rw[l];exact t) hi k h2 h3).mono ?_;rintro x h' ⟨n',rfl,rfl,c',⟨w,fr,y⟩,ct⟩;have z:c.take (i*3)=cs.take (i*3):=by rw[<-l,aaU,bE QT]
 have A:(c.drop ((i+1)*3)).take ((m-(i+1))*3)=cs.drop ((i+1)*3):=by
  rw[<-l,List.drop_take];congr 1;omega
 rw[z,A]at ct;refine⟨⟨?_,.inr ⟨id,c',km+3,rfl,w,ct,.inl rfl⟩⟩,.inr ⟨_,_,_,rfl,Eb _ _⟩,rfl,fun f B af=>fr f B (af id rfl),fun b o hb k=>y b o (fun e=>k (by rw[e];rfl)) hb⟩;rw[Vw,Ja,YA,r];omega
end
end Go.Fw
namespace Go.Fw
open Go.Proofs
attribute [local instance] Classical.propDecidable
structure Cu (g h:AHeap) (B O n:Nat) (rows:CA) (bv fv iv lv:Value) (us ws cs:List Value) (on:List Bool) (F1 F2:ai) (left:List Lb):Prop where
 f:sg h B n bv (.slice (some ⟨O,0,none⟩) n n) fv iv lv
 oO:h.own O=some (.cells (Bo on))
 Xf:on.length=n
 gF:GS 1 h fv us.length us
 uL:us.length=F1.length
 u1:us.all (·.oneCell')=true
 gI:GS 1 h iv ws.length ws
 wL:ws.length=F2.length
 w1:ws.all (·.oneCell')=true
 gL:GS 3 h lv left.length cs
 cuL:cu lv
 c1:cs.all (·.oneCell')=true
 sep:Sep g h [fv,iv,lv]
 gB:g.own B=none
 gO:g.own O=none
 bO:B≠O
 nb:∀u∈[fv,iv,lv],blk u≠some B/\blk u≠some O
 cF:∀(i:Nat) u f,us[i]?=some u->F1[i]?=some f->RL IJ g u (aW f)
 cI:∀(i:Nat) w f,ws[i]?=some w->F2[i]?=some f->RL Po g w (Ex n f)
 cL:∀(i:Nat) p,left[i]?=some p->∃a b c,cs[i*3]?=some a/\cs[i*3+1]?=some b/\cs[i*3+2]?=some c/\PR g a p.bG/\RL IJ g b p.Xt/\RL IJ g c (aW p.fits)
 cB:RL (RL IJ) g bv rows
def InS (B O:Nat) (fv iv lv:Value) (b:Nat):Prop:=b=B\/b=O\/∃u∈[fv,iv,lv],blk u=some b
section
variable {g h : AHeap} {B O n : Nat} {rows : List (List Int)} {bv fv iv lv : Value} {us ws cs : List Value} {on : List Bool} {F1 F2 : List (List Nat)} {left : List Lb}
def Cu.le (S:Cu g h B O n rows bv fv iv lv us ws cs on F1 F2 left):Le g h:=S.sep.le
def Cu.own (S:Cu g h B O n rows bv fv iv lv us ws cs on F1 F2 left) {b:Nat} (hb:InS B O fv iv lv b):g.own b=none/\h.own b≠none:=by
 rcases hb with rfl|rfl|⟨u,a,hb⟩
 .exact⟨S.gB,by rw[S.f.o];simp⟩
 .exact⟨S.gO,by rw[S.oO];simp⟩
 .obtain ⟨i, hi⟩ := OH.1 a
  exact⟨S.sep.ap i u hi b hb,S.sep.own i u b hi hb⟩
def Cu.ground (S:Cu g h B O n rows bv fv iv lv us ws cs on F1 F2 left) {d:AHeap} (l:Le g d) (l2:Le d h) (e:∀b,InS B O fv iv lv b->d.own b=none):Cu d h B O n rows bv fv iv lv us ws cs on F1 F2 left:=
 {S with
  sep:=⟨S.sep.eX,S.sep.own,fun i u k b hb=>e b (.inr (.inr ⟨u,Jb k,hb⟩)),l2⟩
  gB:=e B (.inl rfl),gO:=e O (.inr (.inl rfl))
  cF:=fun i u f j h2=>(S.cF i u f j h2).le Rr.IJ l
  cI:=fun i u f j h2=>(S.cI i u f j h2).le Rr.Po l
  cL:=fun i p m=>by
   obtain⟨a,b,c,o,q,r,s,t,v⟩:=S.cL i p m;exact⟨a,b,c,o,q,r,s.le l,t.le Rr.IJ l,v.le Rr.IJ l⟩
  cB:=S.cB.le (Rr.RL Rr.IJ) l}
def Cu.up (S:Cu g h B O n rows bv fv iv lv us ws cs on F1 F2 left) {h':AHeap} (l:Le h h'):Cu g h' B O n rows bv fv iv lv us ws cs on F1 F2 left:=
 {S with f:=S.f.le l,oO:=l.own _ _ S.oO,gF:=S.gF.le l,gI:=S.gI.le l,gL:=S.gL.le l,sep:=S.sep.up l}
def qh (h:AHeap) (B O:Nat) (fv iv lv:Value):AHeap:=rem (B::O::(bl fv++bl iv++bl lv)) h
def Zg {B O:Nat} {fv iv lv:Value} {b:Nat}:b∈B::O::(bl fv++bl iv++bl lv)↔InS B O fv iv lv b:=by
 unfold InS;simp only[aH,uK,ED,RF,or_false,exists_eq_or_imp,exists_eq_left,or_assoc]
def Cu.ZW (S:Cu g h B O n rows bv fv iv lv us ws cs on F1 F2 left):Cu (qh h B O fv iv lv) h B O n rows bv fv iv lv us ws cs on F1 F2 left/\Le g (qh h B O fv iv lv):=by
 have l:Le g (qh h B O fv iv lv):=S.le.Cj fun b hb=>(S.own (Zg.1 hb)).1;exact⟨S.ground l (iq _ _) fun b hb=>by unfold qh;rw[Q3,if_pos (Zg.2 hb)],l⟩
def G5 {k m:Nat} {u:Value} {xs:List Value} {a:AHeap} (S:Cu g a B O n rows bv fv iv lv us ws cs on F1 F2 left) (q:GS k h u m xs) (ha:tQ a u):GS k (qh h B O fv iv lv) u m xs:=by
 refine GS.TQ q fun b hb c=>?_;exact(S.own (Zg.1 c)).2 (ha b hb)
def Cu.stF {t:TypeId} {d:TypeDesc} (S:sg h B n bv (.slice (some ⟨O,0,none⟩) n n) fv iv lv) (b:Tryz.prog.underlying t=some d) (hs:JO Tryz.prog t=1) {k:Nat} (c:k<6) {x:Value} {m:Nat} (a:vW x m):
  aStore Tryz.prog h t (.pointer (some ⟨B,k,none⟩)) x=some (h.put B (.cells (([.int .i64 n,bv,.slice (some ⟨O,0,none⟩) n n,fv,iv,lv]:List Value).set k x))):=
 Qr b hs S.o (by simpa using c) a.cell a.one
def sep3 {a b c a':Value} (S:Sep g h [a,b,c]) {h':AHeap} (hf:∀f,Le f h->tQ f a->Le f h'/\tQ f a') (d:∀b o,h.own b=some o->blk a≠some b->h'.own b=some o/\blk a'≠some b) (e:∀b,blk a'=some b->h'.own b≠none):Sep g h' [a',b,c]:=S.app (i:=0) rfl hf d e
def sep3b {a b c a':Value} (S:Sep g h [a,b,c]) {h':AHeap} (hf:∀f,Le f h->tQ f b->Le f h'/\tQ f a') (d:∀x o,h.own x=some o->blk b≠some x->h'.own x=some o/\blk a'≠some x) (e:∀b,blk a'=some b->h'.own b≠none):Sep g h' [a,a',c]:=S.app (i:=1) rfl hf d e
def sep3c {a b c a':Value} (S:Sep g h [a,b,c]) {h':AHeap} (hf:∀f,Le f h->tQ f c->Le f h'/\tQ f a') (d:∀x o,h.own x=some o->blk c≠some x->h'.own x=some o/\blk a'≠some x) (e:∀b,blk a'=some b->h'.own b≠none):Sep g h' [a,b,a']:=S.app (i:=2) rfl hf d e
def Sep.put (S:Sep g h us) {b:Nat} (o:Uw) (hb:g.own b=none):Sep g (h.put b o) us:=
 S.kept (S.le.put o hb) fun x c a=>by
  by_cases e:x=b
  .subst e;rw[AHeap.zm];simp
  .rw[AHeap.Dz _ _ _ _ e,a];simp
def Cu.pushF (S:Cu g h B O n rows bv fv iv lv us ws cs on F1 F2 left) (v:WF h) {u:Value} {f:wi} (y:RL IJ g u (aW f)) (U:F1.length<=100000):
  ∃a e d z,h.alloc (.cells [u])=e/\aAppend Tryz.prog e 27 27 fv (.slice (some ⟨h.next,0,none⟩) 1 1)=some (a,d)/\aStore Tryz.prog d 27 (.pointer (some ⟨B,3,none⟩)) a=some z/\
   Cu g z B O n rows bv a iv lv (us++[u]) ws cs on (F1++[f]) F2 left/\WF z/\Le h e/\sg d B n bv (.slice (some ⟨O,0,none⟩) n n) fv iv lv:=by
 obtain⟨e,M,l4,A,N⟩:=mV v [u];have j:=S.up l4;obtain⟨a,d,J,C,K⟩:=GS.push (P:=Tryz.prog) (t:=27) zd j.gF N S.u1 y.one (by rw[S.uL];omega);have L:=YK A J;have D:=fun f Q af=>K f A Q af;have m:∀b o,e.own b=some o->blk fv≠some b->d.own b=some o/\blk a≠some b:=fun b o p hb=>Na K A p hb;obtain⟨l,r⟩:=m B _ j.f.o (S.nb fv YX).1;obtain⟨E,F⟩:=m O _ j.oO (S.nb fv YX).2;have G:vW a (us.length+1):=by have:=C.cs.sl;exact this
 have st:=Cu.stF (h:=d) ⟨l⟩ (t:=27) qS9 zd (k:=3) QT G;have H:=sep3 j.sep D m (fun b hb=>GS.Rf C hb);have eX:=j.sep.eX;have kI:∀b o,blk iv=some b->e.own b=some o->d.own b=some o:=fun b o hb p=>(m b o p (eX 1 0 iv fv b QT rfl rfl hb)).1;have kL:∀b o,blk lv=some b->e.own b=some o->d.own b=some o:=fun b o hb p=>(m b o p (eX 2 0 lv fv b QT rfl rfl hb)).1;have R:=S.nb iv YX;have nL:=S.nb lv YX;refine⟨a,e,d,_,M,J,st,?_,L.put _ (L.lt l),l4,⟨l⟩⟩;exact{S with
  f:=⟨AHeap.zm _ _ _⟩
  oO:=by rw[AHeap.Dz _ _ _ _ (Hn S.bO)];exact E
  gF:=by rw[Vw,SB];exact GS.put C _ r
  uL:=by simp[S.uL]
  u1:=by rw[CM,S.u1];simp[y.one]
  gI:=GS.put (GS.kept j.gI kI) _ R.1
  gL:=GS.put (GS.kept j.gL kL) _ nL.1
  sep:=H.put _ S.gB
  nb:=fun x I=>by
   rcases aH.1 I with rfl|I
   .exact⟨r,F⟩
   .exact S.nb x (Gs _ I)
  cF:=fun i w q hw s=>by
   by_cases c:i<us.length
   .rw [US c] at hw
    rw[US (by rw[<-S.uL];exact c)]at s;exact S.cF i w q hw s
   .have hi := (bH.1 hw).1
    rw[Vw,SB]at hi;have T:i=us.length:=QT;subst T;rw[kc (J4 _),iE]at hw;rw[S.uL,kc (J4 _),iE]at s;simp at hw s;subst hw s;exact y}
def Cu.pushI (S:Cu g h B O n rows bv fv iv lv us ws cs on F1 F2 left) (v:WF h) {u:Value} {f:wi} (y:RL Po g u (Ex n f)) (U:F2.length<=100000):
  ∃a e d z,h.alloc (.cells [u])=e/\aAppend Tryz.prog e 74 74 iv (.slice (some ⟨h.next,0,none⟩) 1 1)=some (a,d)/\aStore Tryz.prog d 74 (.pointer (some ⟨B,4,none⟩)) a=some z/\
   Cu g z B O n rows bv fv a lv us (ws++[u]) cs on F1 (F2++[f]) left/\WF z/\Le h e/\sg d B n bv (.slice (some ⟨O,0,none⟩) n n) fv iv lv:=by
 obtain⟨e,N,l4,A,Q⟩:=mV v [u];have j:=S.up l4;obtain⟨a,d,I,C,J⟩:=GS.push (P:=Tryz.prog) (t:=74) zd j.gI Q S.w1 y.one (by rw[S.wL];omega);have K:=YK A I;have D:=fun f R af=>J f A R af;have m:∀b o,e.own b=some o->blk iv≠some b->d.own b=some o/\blk a≠some b:=fun b o p hb=>Na J A p hb;obtain⟨l,r⟩:=m B _ j.f.o (S.nb iv YX).1;obtain⟨E,F⟩:=m O _ j.oO (S.nb iv YX).2;have G:vW a (ws.length+1):=by have:=C.cs.sl;exact this
 have st:=Cu.stF (h:=d) ⟨l⟩ (t:=74) qS25 zd (k:=4) QT G;have H:=sep3b j.sep D m (fun b hb=>GS.Rf C hb);have eX:=j.sep.eX;have kF:∀b o,blk fv=some b->e.own b=some o->d.own b=some o:=fun b o hb p=>(m b o p (eX 0 1 fv iv b QT rfl rfl hb)).1;have kL:∀b o,blk lv=some b->e.own b=some o->d.own b=some o:=fun b o hb p=>(m b o p (eX 2 1 lv iv b QT rfl rfl hb)).1;have L:=S.nb fv YX;have nL:=S.nb lv YX;refine⟨a,e,d,_,N,I,st,?_,K.put _ (K.lt l),l4,⟨l⟩⟩;exact{S with
  f:=⟨AHeap.zm _ _ _⟩
  oO:=by rw[AHeap.Dz _ _ _ _ (Hn S.bO)];exact E
  gI:=by rw[Vw,SB];exact GS.put C _ r
  wL:=by simp[S.wL]
  w1:=by rw[CM,S.w1];simp[y.one]
  gF:=GS.put (GS.kept j.gF kF) _ L.1
  gL:=GS.put (GS.kept j.gL kL) _ nL.1
  sep:=H.put _ S.gB
  nb:=fun x M=>by
   simp only[aH,RF,or_false]at M;rcases M with rfl|rfl|rfl
   .exact L
   .exact⟨r,F⟩
   .exact nL
  cI:=fun i w q hw s=>by
   by_cases c:i<ws.length
   .rw [US c] at hw
    rw[US (by rw[<-S.wL];exact c)]at s;exact S.cI i w q hw s
   .have hi := (bH.1 hw).1
    rw[Vw,SB]at hi;have T:i=ws.length:=QT;subst T;rw[kc (J4 _),iE]at hw;rw[S.wL,kc (J4 _),iE]at s;simp at hw s;subst hw s;exact y}
def Cu.setF (S:Cu g h B O n rows bv fv iv lv us ws cs on F1 F2 left) (m:WF h) {u:Value} {f:wi} (l:RL IJ g u (aW f)) {i:Nat} (hi:i<F1.length):
  ∃h',aStore Tryz.prog h 49 (.pointer (some (elemAddr fv i))) u=some h'/\Cu g h' B O n rows bv fv iv lv (us.set i u) ws cs on (F1.set i f) F2 left/\WF h':=by
 have v:i<us.length:=by rw[S.uL];exact hi
 obtain⟨h',e,r,w',fr,d⟩:=GS.stor S.gF m (t:=49) (x:=u) Rm zd (i:=i) QT l.sl.cell l.one;have eX:=S.sep.eX;have s:=S.nb fv YX;refine⟨h',e,?_,w'⟩;exact{S with
  f:=⟨d _ _ S.f.o s.1⟩
  oO:=d _ _ S.oO s.2
  gF:=by rw[qm];exact r
  uL:=by simp[S.uL]
  u1:=by
   rw[jE];intro x p;rcases zo p with p|rfl
   .exact jE.1 S.u1 x p
   .exact l.one
  gI:=GS.kept S.gI fun b o hb k=>d b o k (eX 1 0 iv fv b QT rfl rfl hb)
  gL:=GS.kept S.gL fun b o hb k=>d b o k (eX 2 0 lv fv b QT rfl rfl hb)
  sep:=S.sep.kept (fr g S.le (S.sep.ap 0 fv rfl)) fun b o k=>by
   by_cases c:blk fv=some b
   .exact GS.Rf r c
   .rw[d b o k c];simp
  cF:=fun j w q hw a=>by
   rw[v8]at hw a;by_cases c:i=j
   .subst c
    simp only[if_true,v,hi]at hw a;injection hw with hw;injection a with a;subst hw a;exact l
   .rw [if_neg c] at hw a
    exact S.cF j w q hw a}
def Cu.setI (S:Cu g h B O n rows bv fv iv lv us ws cs on F1 F2 left) (m:WF h) {u:Value} {f:wi} (l:RL Po g u (Ex n f)) {i:Nat} (hi:i<F2.length):
  ∃h',aStore Tryz.prog h 59 (.pointer (some (elemAddr iv i))) u=some h'/\Cu g h' B O n rows bv fv iv lv us (ws.set i u) cs on F1 (F2.set i f) left/\WF h':=by
 have v:i<ws.length:=by rw[S.wL];exact hi
 obtain⟨h',e,r,w',fr,d⟩:=GS.stor S.gI m (t:=59) (x:=u) aO zd (i:=i) QT l.sl.cell l.one;have eX:=S.sep.eX;have s:=S.nb iv YX;refine⟨h',e,?_,w'⟩;exact{S with
  f:=⟨d _ _ S.f.o s.1⟩
  oO:=d _ _ S.oO s.2
  gI:=by rw[qm];exact r
  wL:=by simp[S.wL]
  w1:=by
   rw[jE];intro x p;rcases zo p with p|rfl
   .exact jE.1 S.w1 x p
   .exact l.one
  gF:=GS.kept S.gF fun b o hb k=>d b o k (eX 0 1 fv iv b QT rfl rfl hb)
  gL:=GS.kept S.gL fun b o hb k=>d b o k (eX 2 1 lv iv b QT rfl rfl hb)
  sep:=S.sep.kept (fr g S.le (S.sep.ap 1 iv rfl)) fun b o k=>by
   by_cases c:blk iv=some b
   .exact GS.Rf r c
   .rw[d b o k c];simp
  cI:=fun j w q hw a=>by
   rw[v8]at hw a;by_cases c:i=j
   .subst c
    simp only[if_true,v,hi]at hw a;injection hw with hw;injection a with a;subst hw a;exact l
   .rw [if_neg c] at hw a
    exact S.cI j w q hw a}
def Cu.setO (S:Cu g h B O n rows bv fv iv lv us ws cs on F1 F2 left) (a:WF h) {v:Nat} (b:v<n):
  ∃h',aStore Tryz.prog h 4 (.pointer (some ⟨O,v,none⟩)) (.bool true)=some h'/\Cu g h' B O n rows bv fv iv lv us ws cs (on.set v true) F1 F2 left/\WF h':=by
 have st:aStore Tryz.prog h 4 (.pointer (some ⟨O,v,none⟩)) (.bool true)=some (h.put O (.cells (Bo (on.set v true)))):=by
  rw[Qr (P:=Tryz.prog) (t:=4) (x:=.bool true) v7 zd S.oO (off:=v) (by rw[YM,S.Xf];exact b) rfl rfl,GZ]
 have c:=S.nb fv YX;have d:=S.nb iv YX;have nL:=S.nb lv YX;refine⟨_,st,?_,a.put _ (a.lt S.oO)⟩;exact{S with
  f:=⟨by rw[AHeap.Dz _ _ _ _ S.bO];exact S.f.o⟩
  oO:=AHeap.zm _ _ _
  Xf:=by rw[qm];exact S.Xf
  gF:=GS.put S.gF _ c.2
  gI:=GS.put S.gI _ d.2
  gL:=GS.put S.gL _ nL.2
  sep:=S.sep.put _ S.gO}
end
end Go.Fw
namespace Go.Fw
open Go.Proofs
attribute [local irreducible] Ax YH XZ Uk KO KN KX KE VK DK Q7 dK W9
attribute [local instance] Classical.propDecidable
section
variable {g h : AHeap} {B O n : Nat} {rows : List (List Int)} {bv fv iv lv : Value} {us ws cs : List Value} {on : List Bool} {F1 F2 : List (List Nat)} {left : List Lb}
def get3 {cs:List Value} {k r j q:Nat} (b:r<3) (d:q<3) {x:Value} (a:k*3+r<cs.length):(cs.set (k*3+r) x)[j*3+q]?=if k=j/\r=q then some x else cs[j*3+q]?:=by
 rw[v8];by_cases c:k=j/\r=q
 .rw[if_pos c,if_pos QT,if_pos a]
 .rw[if_neg c,if_neg QT]
def Cu.setT (S:Cu g h B O n rows bv fv iv lv us ws cs on F1 F2 left) (w:WF h) {i:Nat} (hi:i<left.length) {u:Value} {fits:wi} (s:RL IJ g u (aW fits)):
  ∃h',aStore Tryz.prog h 49 (.pointer (some (elemAddr lv (i*3+2)))) u=some h'/\Cu g h' B O n rows bv fv iv lv us ws (cs.set (i*3+2) u) on F1 F2 (left.set i {left[i]with fits:=fits})/\WF h':=by
 have I:=S.gL.1;obtain⟨h',e,G,w',fr,l⟩:=GS.stor S.gL w (t:=49) (x:=u) Rm zd (i:=i*3+2) QT s.sl.cell s.one;have eX:=S.sep.eX;have nL:=S.nb lv YX;refine⟨h',e,?_,w'⟩;exact{S with
  f:=⟨l _ _ S.f.o nL.1⟩
  oO:=l _ _ S.oO nL.2
  gL:=by rw[qm];exact G
  c1:=by
   rw[jE];intro x y;rcases zo y with y|rfl
   .exact jE.1 S.c1 x y
   .exact s.one
  gF:=GS.kept S.gF fun b o hb m=>l b o m (eX 0 2 fv lv b QT rfl rfl hb)
  gI:=GS.kept S.gI fun b o hb m=>l b o m (eX 1 2 iv lv b QT rfl rfl hb)
  sep:=S.sep.kept (fr g S.le (S.sep.ap 2 lv rfl)) fun b o m=>by
   by_cases c:blk lv=some b
   .exact GS.Rf G c
   .rw[l b o m c];simp
  cL:=fun j p d=>by
   have z:i*3+2<cs.length:=QT;have A:=get3 (cs:=cs) (k:=i) (r:=2) (j:=j) (q:=0) (x:=u) QT QT z;have C:=get3 (cs:=cs) (k:=i) (r:=2) (j:=j) (q:=1) (x:=u) QT QT z;have v:=get3 (cs:=cs) (k:=i) (r:=2) (j:=j) (q:=2) (x:=u) QT QT z;rw[if_neg QT]at A C;rw[v8]at d;by_cases c:i=j
   .subst c
    simp only[if_true,hi]at d;injection d with d;subst d;obtain⟨a,b,c,D,E,H,F,J,K⟩:=S.cL i _ (dR hi);rw[if_pos ⟨rfl,rfl⟩]at v;exact⟨a,b,u,A.trans D,C.trans E,v,F,J,s⟩
   .rw [if_neg c] at d
    rw[if_neg (fun q=>c q.1)]at v;obtain⟨a,b,c,D,E,H,F⟩:=S.cL j p d;exact⟨a,b,c,A.trans D,C.trans E,v.trans H,F⟩}
def mkPcV (h:AHeap) {a b c:Value} {m1 m2 m3:Nat} (ha:vW a m1) (hb:vW b m2) (d:vW c m3):aBuildSlice Tryz.prog h 75 1 [(0,.agg #[a,b,c])]=some (.slice (some ⟨h.next,0,none⟩) 1 1,h.alloc (.cells [a,b,c])):=by
 obtain⟨_,_,rfl,_⟩:=ha;obtain⟨_,_,rfl,_⟩:=hb;obtain⟨_,_,rfl,_⟩:=d;rfl
def Cu.pushL (S:Cu g h B O n rows bv fv iv lv us ws cs on F1 F2 left) (A:WF h) {a b c:Value} {p:Lb} (ha:PR g a p.bG) (hb:RL IJ g b p.Xt) (C:RL IJ g c (aW p.fits)) (hn:left.length<=100000):
  ∃d l i D,aBuildSlice Tryz.prog h 75 1 [(0,.agg #[a,b,c])]=some (.slice (some ⟨h.next,0,none⟩) 1 1,l)/\aAppend Tryz.prog l 75 75 lv (.slice (some ⟨h.next,0,none⟩) 1 1)=some (d,i)/\aStore Tryz.prog i 75 (.pointer (some ⟨B,5,none⟩)) d=some D/\
   Cu g D B O n rows bv fv iv d us ws (cs++[a,b,c]) on F1 F2 (left++[p])/\WF D/\Le h l/\sg i B n bv (.slice (some ⟨O,0,none⟩) n n) fv iv lv/\Le g i:=by
 obtain⟨l,T,l4,E,U⟩:=mV A [a,b,c];have mk:=mkPcV h ha.sl hb.sl C.sl;rw[T]at mk;have m:=S.up l4;have K:([a,b,c]:List Value).all (·.oneCell')=true:=by simp[ha.sl.one,hb.one,C.one]
 have hs:∀e,JO Tryz.prog e=3->srcCells Tryz.prog l e (.slice (some ⟨h.next,0,none⟩) 1 1)=some (1,[a,b,c]):=fun e V=>
  CS.src V (CS.own (k:=3) (off:=0) (n:=1) (cap:=1) U YX)
 obtain⟨d,i,F,G,L⟩:=GS.append (P:=Tryz.prog) (t:=75) (xt:=75) (k:=3) zd m.gL hs m.c1 K rfl QT;have M:=YK E F;have H:=fun f W af=>L f E W af;have v:∀b o,l.own b=some o->blk lv≠some b->i.own b=some o/\blk d≠some b:=fun b o w hb=>Na L E w hb;obtain⟨r,y⟩:=v B _ m.f.o (S.nb lv YX).1;obtain⟨I,J⟩:=v O _ m.oO (S.nb lv YX).2;have st:=Cu.stF (h:=i) ⟨r⟩ (t:=75) rU zd (k:=5) QT G.cs.sl;have z:=sep3c m.sep H v (fun b hb=>GS.Rf G hb);have eX:=m.sep.eX;have kF:∀b o,blk fv=some b->l.own b=some o->i.own b=some o:=fun b o hb w=>(v b o w (eX 0 2 fv lv b QT rfl rfl hb)).1;have kI:∀b o,blk iv=some b->l.own b=some o->i.own b=some o:=fun b o hb w=>(v b o w (eX 1 2 iv lv b QT rfl rfl hb)).1;have N:=S.nb fv YX;have Q:=S.nb iv YX;refine⟨d,l,i,_,mk,F,st,?_,M.put _ (M.lt r),l4,⟨r⟩,z.le⟩;exact{S with
  f:=⟨AHeap.zm _ _ _⟩
  oO:=by rw[AHeap.Dz _ _ _ _ (Hn S.bO)];exact I
  gL:=by rw[Vw,SB];exact GS.put G _ y
  cuL:=kz F S.cuL
  c1:=by rw[CM,S.c1,K];rfl
  gF:=GS.put (GS.kept m.gF kF) _ N.1
  gI:=GS.put (GS.kept m.gI kI) _ Q.1
  sep:=z.put _ S.gB
  nb:=fun x R=>by
   simp only[aH,RF,or_false]at R;rcases R with rfl|rfl|rfl
   .exact N
   .exact Q
   .exact⟨y,J⟩
  cL:=fun j q u=>by
   have s:cs.length=left.length*3:=S.gL.1;by_cases c:j<left.length
   .rw [US c] at u
    obtain⟨a',X,c',Y,Z,q3,q4⟩:=S.cL j q u;refine⟨a',X,c',?_,?_,?_,q4⟩
    .rw[US QT];exact Y
    .rw[US QT];exact Z
    .rw[US QT];exact q3
   .have hi := (bH.1 u).1
    rw[Vw,SB]at hi;have ei:j=left.length:=QT;subst ei;rw[kc (J4 _),iE]at u;simp at u;subst u;refine⟨a,b,_,?_,?_,?_,ha,hb,C⟩
    .rw[kc QT,s,iE];rfl
    .rw[kc QT,s,GF];rfl
    .rw[kc QT,s,GF];rfl}
def Cu.delL (S:Cu g h B O n rows bv fv iv lv us ws cs on F1 F2 left) {e:AHeap} (w1:WF e) {d:Value} {i:Nat} (hi:i<left.length) (gd:GS 3 e d (left.length-1) (cs.take (i*3)++cs.drop ((i+1)*3))) (E:cu d) (l:blk d=blk lv)
  (fr:∀f,Le f h->tQ f lv->Le f e) (v:∀b o,h.own b=some o->blk lv≠some b->e.own b=some o):
  ∃h2,aStore Tryz.prog e 75 (.pointer (some ⟨B,5,none⟩)) d=some h2/\Cu g h2 B O n rows bv fv iv d us ws (cs.take (i*3)++cs.drop ((i+1)*3)) on F1 F2 (left.eraseIdx i)/\WF h2:=by
 have L:=S.nb fv YX;have M:=S.nb iv YX;have nL:=S.nb lv YX;have eX:=S.sep.eX;have y:=v _ _ S.f.o nL.1;have F:=v _ _ S.oO nL.2;have st:=Cu.stF (h:=e) ⟨y⟩ (t:=75) rU zd (k:=5) QT gd.cs.sl;have kF:∀b o,blk fv=some b->h.own b=some o->e.own b=some o:=fun b o hb z=>v b o z (eX 0 2 fv lv b QT rfl rfl hb);have kI:∀b o,blk iv=some b->h.own b=some o->e.own b=some o:=fun b o hb z=>v b o z (eX 1 2 iv lv b QT rfl rfl hb);have N:=fr g S.le (S.sep.ap 2 lv rfl);have G:Sep g e [fv,iv,d]:=by
  have key:∀(i:Nat) u,([fv,iv,d]:List Value)[i]?=some u->∃r,([fv,iv,lv]:List Value)[i]?=some r/\blk u=blk r:=fun i u a=>by
   match i,a with
   |0,a=>exact⟨fv,rfl,by simp at a;rw[a]⟩
   |1,a=>exact⟨iv,rfl,by simp at a;rw[a]⟩
   |2,a=>exact⟨lv,rfl,by simp at a;rw[<-a,l]⟩
   |i+3,a=>simp at a
  refine⟨fun i j u w b H a hw hb=>?_,fun i u b a hb=>?_,fun i u a b hb=>?_,N⟩
  .obtain ⟨r, m, p⟩ := key i u a
   obtain⟨P,A,C⟩:=key j w hw;rw[C];exact eX i j r P b H m A (by rw[<-p];exact hb)
  .obtain ⟨r, m, p⟩ := key i u a
   rw[p]at hb;by_cases c:blk lv=some b
   .rw[<-l]at c;exact GS.Rf gd c
   .obtain ⟨o, z⟩ := yu.1 (S.sep.own i r b m hb)
    rw[v b o z c];simp
  .obtain ⟨r, m, p⟩ := key i u a
   exact S.sep.ap i r m b (by rw[<-p];exact hb)
 have I:(left.eraseIdx i).length=left.length-1:=by rw[FK,if_pos hi]
 refine⟨_,st,?_,w1.put _ (w1.lt y)⟩;exact{S with
  f:=⟨AHeap.zm _ _ _⟩
  oO:=by rw[AHeap.Dz _ _ _ _ (Hn S.bO)];exact F
  gL:=by rw[I];exact GS.put gd _ (by rw[l];exact nL.1)
  cuL:=E
  c1:=by
   rw[jE];intro x s;refine jE.1 S.c1 x ?_;rcases uK.1 s with s|s
   .exact Wg s
   .exact xE s
  gF:=GS.put (GS.kept S.gF kF) _ L.1
  gI:=GS.put (GS.kept S.gI kI) _ M.1
  sep:=G.put _ S.gB
  nb:=fun x s=>by
   simp only[aH,RF,or_false]at s;rcases s with rfl|rfl|rfl
   .exact L
   .exact M
   .rw[l];exact nL
  cL:=fun j q D=>by
   have Q:cs.length=left.length*3:=S.gL.1;have J:(cs.take (i*3)).length=i*3:=by rw[Ja];omega
   rw[qL238]at D;split at D
   .rename_i c
    obtain⟨a',K,c',m,p,A,C⟩:=S.cL j q D;refine⟨a',K,c',?_,?_,?_,C⟩
    .rw[US QT,IK,if_pos QT];exact m
    .rw[US QT,IK,if_pos QT];exact p
    .rw[US QT,IK,if_pos QT];exact A
   .rename_i c
    obtain⟨a',K,c',m,p,A,C⟩:=S.cL (j+1) q D;refine⟨a',K,c',?_,?_,?_,C⟩
    .rw[kc QT,J,G3,show(i+1)*3+(j*3-i*3)=(j+1)*3 by omega];exact m
    .rw[kc QT,J,G3,show(i+1)*3+(j*3+1-i*3)=(j+1)*3+1 by omega];exact p
    .rw[kc QT,J,G3,show(i+1)*3+(j*3+2-i*3)=(j+1)*3+2 by omega];exact A}
end
def bldF (h:AHeap) {u:Value} {m:Nat} (a:vW u m):aBuildSlice Tryz.prog h 27 1 [(0,u)]=some (.slice (some ⟨h.next,0,none⟩) 1 1,h.alloc (.cells [u])):=by
 obtain⟨_,_,rfl,_⟩:=a;rfl
def bldI (h:AHeap) {u:Value} {m:Nat} (a:vW u m):aBuildSlice Tryz.prog h 74 1 [(0,u)]=some (.slice (some ⟨h.next,0,none⟩) 1 1,h.alloc (.cells [u])):=by
 obtain⟨_,_,rfl,_⟩:=a;rfl
def sB (B k:Nat) (a:k<6):aField Tryz.prog 77 (.pointer (some ⟨B,0,none⟩)) k=some (.pointer (some ⟨B,k,none⟩)):=by
 match k,a with
 |0,_=>rfl
 |1,_=>rfl
 |2,_=>rfl
 |3,_=>rfl
 |4,_=>rfl
 |5,_=>rfl
def oq (t:Ac) {g h:AHeap} {B O n:Nat} {rows:CA} {bv fv iv lv:Value} {us ws cs:List Value} {on:List Bool} {F:ai} {left:List Lb} (S:Cu g h B O n rows bv fv iv lv us ws cs on F F left)
  {u:Value} {f:wi} (e:RL IJ g u (aW f)) (hf:∀x∈f,x<n) (z:n<=1000) (A:f.length<=1000) (T:F.length<=10000):
  AC Tryz.prog t 95 [.pointer (some ⟨B,0,none⟩),u] h fun _ h'=>∃v a c i j,Cu v h' B O n rows bv a c lv i j cs on (F++[f]) (F++[f]) left/\Le g v:=by
 refine AC.vE ⟨Tryz.func95,rfl,xr⟩ Tryz.ntmps95 Tryz.results95 fun k=>?_;simp only[xq,Nat.reduceAdd];obtain⟨a,U,V,C,D,E,G,b,W,l4,-⟩:=S.pushF k e QT;have w:=bldF h e.sl;rw[D]at w;have X:=(S.up l4).f;have l:=sB B 3 QT;have d:=sB B 4 QT;simp only[Ud,Nat.reduceLT,↓reduceIte,Nat.reduceEqDiff,reduceCtorEq,l,S.f.l3,w,E,G];refine rD (vu [0,1,2,3,4,5,6] (PO 7 [5,6] (PO 8 [7] (PO 9 [4,7,8] (vu [10,11] (PO 12 [0,1,2,3,4,5,6,7,8,9,11] .done)))))) ?_;simp only[Ud,Nat.reduceLT,↓reduceIte,Nat.reduceEqDiff,reduceCtorEq,Nat.reduceBEq,rm,d,b.f.l4];refine N1.intro pK ⟨Tryz.func133,rfl,xr⟩ (x8 t B n bv _ a iv lv u f C b.f (e.le Rr.IJ b.le) hf z A) ?_;rintro x m H ⟨I,J,ax⟩;obtain⟨o,p⟩:=(b.up J).ZW;have q:=G5 (h:=m) b I ax;have rx:RL Po (qh m B O a iv lv) x (Ex n f):=RL.cp (by have:=GS.cs q;rw[<-rZ n f]at this;exact CS.rs (by rw[Bo]at this;simpa[rZ]using this));obtain⟨c,Y,Z,K,L,M,r,s,N,P,Q⟩:=o.pushI H rx QT;have R:=o.f.le P;have y:=bldI m rx.sl;rw[L]at y;simp only[Ud,Nat.reduceLT,↓reduceIte,Nat.reduceEqDiff,reduceCtorEq,Nat.reduceBEq,rm,d,o.f.l4,R.l4,y,M,r];exact⟨_,_,_,_,_,s,p⟩
end Go.Fw
namespace Go.Fw
section
attribute [local instance] Classical.propDecidable
attribute [local irreducible] Ax YH XZ Uk KO KN KX KE VK DK Q7 dK W9
open Go.Proofs
variable {B O a b i j n x:Nat} {cs us ws:List Value} {f way:wi} {g h:AHeap} {left:List Lb} {rows:CA} {xs:LF}
def s8 {v i:Nat} (d:xs=aW f) (hi:i<xs.length) (h:xs[i]=(v:Int)) (a:∀j (b:j<i),xs[j]≠(v:Int)):OU f v=i:=by
 subst d;have c:i<f.length:=by rw[tG]at hi;exact hi
 unfold OU;rw[List.findIdx_eq c];refine⟨?_,fun j b=>?_⟩
 .rw [decide_eq_true_eq]
  rw[uD c]at h;omega
 .rw [decide_eq_false_iff_not]
  intro e;refine a j b ?_;rw[uD (show j<f.length by omega)];show((f[j]:Nat):Int)=v;rw[e]
def jo (f:wi) (i j:Nat) (h:0<f.length):(r9 f i j).length<=f.length:=by
 unfold r9;rw[yA,xw];exact JH _ h
def tJ (h:0<f.length) (a:x∈r9 f i j):x∈f:=by
 unfold r9 at a;obtain⟨t,_,rfl⟩:=T8.1 a;have:(i+t)%f.length<f.length:=JH _ h;rw[YR this];exact om _
def Bm (h:x∈wm way):x∈way:=xE (Wg h)
def inn_len (way:wi):(wm way).length<=way.length:=by unfold wm;rw[Ja,YA];omega
def JS (a b:wi):aW (a++b)=aW a++aW b:=by simp[aW]
def Dh (a:wi):aW a.reverse=(aW a).reverse:=by simp[aW]
def AU:∀{l:wi} (h:0<l.length),l.headD 0=l[0]
 |_::_,_=>rfl
def Oj (h:b<=a) (h2:a<=100000):awrap .i64 ((a:Int)-(b:Int))=((a-b:Nat):Int):=by rw[GQ _ QT QT];omega
def tt (A:Ac) {bv C G V W:Value} {on:List Bool} {F:ai} (S:Cu g h B O n rows bv C G V us ws cs on F F left)
  {f:Nat} (hf:f<F.length) (hw:GI g W (aW way)) (h2:2<=way.length) (ha:way.headD 0∈F.getD f []) (hb:Mh way∈F.getD f []) (X:∀x∈F.getD f [],x<n) (Y:∀x∈way,x<n)
  (hn:n<=300) (b1:(F.getD f []).length<=300) (b2:way.length<=301) (hF:F.length<=1000):
  AC Tryz.prog A 100 [.pointer (some ⟨B,0,none⟩),.int .i64 (f:Int),W] h fun _ h'=>∃d H I J K,Cu d h' B O n rows bv H I V J K cs on (dn F f way) (dn F f way) left/\Le g d:=by
 have D:f<us.length:=by rw[S.uL];exact hf
 have Z:=dR D;have aB:=dR hf;have L:F.getD f []=F[f]:=YR hf;have cu:=S.cF f _ _ Z aB;rw[<-L]at cu;have e:BW (F.getD f []) way=r9 (F.getD f []) (OU (F.getD f []) (way.headD 0)) (OU (F.getD f []) (Mh way))++(wm way).reverse:=rfl;have l:uC (F.getD f []) way=r9 (F.getD f []) (OU (F.getD f []) (Mh way)) (OU (F.getD f []) (way.headD 0))++wm way:=rfl;have ad:dn F f way=F.set f (BW (F.getD f []) way)++[uC (F.getD f []) way]:=rfl;have p:0<(F.getD f []).length:=TR ha;have ag:∀v,v∈F.getD f []->OU (F.getD f []) v<(F.getD f []).length:=fun v hv=>by
  unfold OU;rw[List.findIdx_lt_length];exact⟨v,hv,YX⟩
 have ia:=ag _ ha;have ib:=ag _ hb;have ah:aIndexAddr Tryz.prog 27 C (.int .i64 (f:Int))=some (.pointer (some (elemAddr C f))):=by
  have:=(GS.cs S.gF).rs.Jl f D;exact this
 have ldF:aload Tryz.prog h 49 (elemAddr C f)=some us[f]:=by
  rw[ON Rm rfl];exact(GS.cs S.gF).rs.get f _ Z
 generalize hu:us[f]=u at*;generalize b3:F.getD f []=qZ at*;refine AC.vE ⟨Tryz.func100,rfl,xr⟩ Tryz.ntmps100 Tryz.results100 fun b4=>?_;simp only[xq,Nat.reduceAdd];have M:=sB B 3 QT;have aj:=sB B 4 QT;have lw:=fun d=>hw.rl.zw d;rw[tG]at lw;have w0:0<way.length:=QT;have aE:=hw.le S.le;have ak:∀q:Nat,q<way.length->aIndexAddr Tryz.prog 49 W (.int .i64 (q:Int))=some (.pointer (some (elemAddr W q))):=fun q hq=>hw.rl.qW q (by rw[tG];exact hq);have al:∀d,Le g d->∀q (hq:q<way.length),aload Tryz.prog d 3 (elemAddr W q)=some (.int .i64 ((way[q]:Nat):Int)):=fun d lg q hq=>by
  rw[(hw.le lg).rl.HN q (by rw[tG];exact hq),uD hq]
 have e0:way.headD 0=way[0]:=AU w0;have eL:Mh way=way[way.length-1]:=YR QT;have s1:awrap .i64 ((way.length:Int)-1)=((way.length-1:Nat):Int):=by have:=Oj (a:=way.length) (b:=1) QT QT;exact this
 have r:=ak 0 w0;simp only[vN]at r;have N:=ak (way.length-1) QT;have s:=al h S.le 0 w0;have w:=al h S.le (way.length-1) QT;rw[<-e0]at s;rw[<-eL]at w;simp only[Ud,Nat.reduceLT,↓reduceIte,Nat.reduceEqDiff,reduceCtorEq,M,S.f.l3,ah,ldF];refine rD (vu [0,1,2,3,5,6,7,8,9,10,11] (PO 4 [0,3] (PO 12 [4,5,11] (vu [13,14] .done)))) ?_;simp only[Ud,Nat.reduceLT,↓reduceIte,Nat.reduceEqDiff,Nat.reduceBEq,rm,r,lw,s1,N,s,w];refine N1.intro pK ⟨qS33,rfl,xr⟩ (Tk A u (aW qZ) ((way.headD 0:Nat):Int) h (cu.le Rr.IJ S.le) (by rw[tG];omega)) ?_;rintro x h3 w3 ⟨c,rfl⟩;rcases c with⟨_,Q⟩|⟨i,hi,rfl,aK,aM⟩
 .exact absurd (T8.2 ⟨_,ha,rfl⟩) Q
 have ei:=s8 rfl hi aK aM;simp only[Ud,Nat.reduceLT,↓reduceIte,Nat.reduceEqDiff,Nat.reduceBEq,rm,r,lw,s1,N,w];refine N1.intro pK ⟨qS33,rfl,xr⟩ (Tk A u (aW qZ) ((Mh way:Nat):Int) h3 (cu.le Rr.IJ S.le) (by rw[tG];omega)) ?_;rintro x h4 w4 ⟨c,rfl⟩;rcases c with⟨_,Q⟩|⟨j,hj,rfl,aQ,aq⟩
 .exact absurd (T8.2 ⟨_,hb,rfl⟩) Q
 have ej:=s8 rfl hj aQ aq;rw[ei,ej]at e l;rw[ei]at ia;rw[ej]at ib;obtain⟨nv,XW,R⟩:=EM (P:=Tryz.prog) (t:=49) Rm Ik zd aE (by rw[tG];omega) 1 (way.length-1) QT (by rw[tG];omega);have T:RL IJ h4 nv (aW (wm way)):=RL.Kr (by
  have:(oY (aW way)).drop 1=oY (aW (way.drop 1)):=by simp[oY,aW]
  rw[this]at R;have e9:(oY (aW (way.drop 1))).take (way.length-1-1)=(aW (wm way)).map (Value.int .i64):=by
   unfold wm oY aW;rw[<-XD,<-XD];rfl
  rw[e9]at R;exact R)
 have ar:=fun d=>T.zw d;rw[tG]at ar;have b5:=inn_len way;simp only[Ud,Nat.reduceLT,↓reduceIte,Nat.reduceEqDiff,rm,r,lw,s1,N];simp only[aaT]at XW;simp only[Ud,Nat.reduceLT,↓reduceIte,Nat.reduceEqDiff,XW];refine dK.intro pK ⟨Tryz.func142,rfl,xr⟩ (qo A u qZ i j h4 (cu.le Rr.IJ S.le) ia ib QT) ?_;rintro x h5 w5 ⟨g5,l5,a5⟩;have b6:=jo qZ i j p;obtain⟨ov,h6,e6,g6,w6,f6,k6⟩:=GI.join g5 w5 (T.le Rr.IJ l5) (by rw[tG,tG];omega);obtain⟨l6,a6⟩:=f6 h4 l5 a5;have xl:(aW (r9 qZ i j)++aW (wm way)).length=(r9 qZ i j).length+(wm way).length:=by rw[Vw,tG,tG]
 have lo:=fun d=>g6.rl.zw d;rw[xl]at lo;have sd:awrap .i64 ((((r9 qZ i j).length+(wm way).length:Nat):Int)-((wm way).length:Int))=(((r9 qZ i j).length:Nat):Int):=by
  rw[Oj QT QT,Nat.add_sub_cancel]
 obtain⟨tv,et,aT⟩:=GI.tail g6 (i:=(r9 qZ i j).length) (by rw[xl];omega);simp only[Ud,Nat.reduceLT,↓reduceIte,Nat.reduceEqDiff,e6,lo,ar,sd,et];refine dK.intro pK ⟨bU,rfl,xr⟩ (zz A tv ov _ _ h6 g6 (by rw[xl];omega) aT) ?_;rintro x h7 w7 ⟨g7,f7,k7⟩;have l7:=f7 h4 l6 a6;have eo:(aW (r9 qZ i j)++aW (wm way)).take (r9 qZ i j).length++((aW (r9 qZ i j)++aW (wm way)).drop (r9 qZ i j).length).reverse=aW (BW qZ way):=by
  rw[e,JS,Dh];have hl:=tG (r9 qZ i j);rw[wO QT,xV QT,AL QT,zl QT,IT]
 rw[eo]at g7;refine yq ?_;refine dK.intro pK ⟨Tryz.func142,rfl,xr⟩ (qo A u qZ j i h7 (cu.le Rr.IJ (S.le.trans l7)) ib ia QT) ?_;rintro y h8 w8 ⟨g8,l8,a8⟩;have b8:=jo qZ j i p;obtain⟨tw,h9,e9,g9,w9,f9,k9⟩:=GI.join g8 w8 (T.le Rr.IJ (l7.trans l8)) (by rw[tG,tG];omega);rw[<-JS,<-l]at g9;obtain⟨l9,a9⟩:=f9 h7 l8 a8;have aX:=l7.trans l9;have aY:tQ h4 tw:=fun b hb=>l7.none (a9 b hb);obtain⟨E,a1⟩:=(S.up aX).ZW;have gone:GI (qh h9 B O C G V) ov (aW (BW qZ way)):=by
  have:=G5 (h:=h9) S (GI.le g7 l9) a6;exact this
 have av:GI (qh h9 B O C G V) tw (aW (uC qZ way)):=by
  have:=G5 (h:=h9) S g9 aY;exact this
 have a7:∀x∈BW qZ way,x<n:=fun x c=>by
  rw[e,uK,PT]at c;rcases c with c|c
  .exact X x (tJ p c)
  .exact Y x (Bm c)
 have bb:∀x∈uC qZ way,x<n:=fun x c=>by
  rw[l,uK]at c;rcases c with c|c
  .exact X x (tJ p c)
  .exact Y x (Bm c)
 have bj:(BW qZ way).length<=1000:=by rw[e,Vw,UC];omega
 have bm:(uC qZ way).length<=1000:=by rw[l,Vw];omega
 simp only[Ud,Nat.reduceLT,↓reduceIte,Nat.reduceEqDiff,e9];refine rD (vu [0,1,2,3,4,5,6,7,8,9,10,11,12] (PO 13 [11,12] (vu [14] (PO 15 [0,1,2,3,4,8,10,13,14] (vu [16] (PO 17 [0,1,2,3,4,5,6,7,8,9,10,11,12,13,14,15,16] .done)))))) ?_;simp only[Ud,Nat.reduceLT,↓reduceIte,Nat.reduceEqDiff,reduceCtorEq,Nat.reduceBEq,rm,M,aj,E.f.l3,E.f.l4];refine N1.intro pK ⟨Tryz.func133,rfl,xr⟩ (x8 A B n bv _ C G V ov (BW qZ way) h9 E.f ((gone.le E.le).rl) a7 QT bj) ?_;rintro z ay bo ⟨br,bx,bF⟩;obtain⟨U,m⟩:=(E.up bx).ZW;have gz:=G5 (h:=ay) E br bF;have rz:RL Po (qh ay B O C G V) z (Ex n (BW qZ way)):=RL.cp (by have:=GS.cs gz;rw[<-rZ n (BW qZ way)]at this;exact CS.rs (by rw[Bo]at this;simpa[rZ]using this));obtain⟨b9,bI,o,bQ⟩:=U.setF bo ((gone.le m).rl) (f:=BW qZ way) hf;obtain⟨cc,bV,bW,cd⟩:=o.setI bQ rz (f:=BW qZ way) (i:=f) hf;have bX:aIndexAddr Tryz.prog 74 G (.int .i64 (f:Int))=some (.pointer (some (elemAddr G f))):=
  (GS.cs o.gI).rs.addr (P:=Tryz.prog) qS25 aO zd (k:=.i64) f (by rw[o.wL];exact hf)
 simp only[Ud,Nat.reduceLT,↓reduceIte,Nat.reduceEqDiff,reduceCtorEq,Nat.reduceBEq,rm,M,aj,U.f.l3,U.f.l4,ah,bX,bI,bV];have fin:=oq A bW ((av.le m).rl) bb QT bm (by rw[qm];omega);refine dK.intro pK ⟨Tryz.func95,rfl,xr⟩ fin ?_;rintro x cg ck ⟨d,H,I,J,K,bY,b0⟩;refine yq ?_;rw[ad];exact⟨d,H,I,J,K,bY,a1.trans (m.trans b0)⟩
end
end Go.Fw
namespace Go.Fw
open Go.Proofs
attribute [local instance] Classical.propDecidable
section
variable {n : Nat} {es : List Pr} {H : Nat → Nat → Prop} {S : DB}
def RR.qk (I:RR n es H S) (hR:I7 n es) {p:Lb} (b:p∈S.left):∀x∈p.Xt,∃v:Nat,x=(v:Int)/\v<n:=fun x a=>by
 have P:=I.VI p b;obtain⟨v,rfl⟩:=RT (P.nat x a);obtain⟨_,w,h2,_⟩:=(P.Xt v).1 a;exact⟨v,rfl,(((Jq hR).1 h2.1).lt hR).1⟩
def iw:∀{l:LF},(∀x∈l,∃v:Nat,x=(v:Int))->∃q:wi,l=aW q
 |[],_=>⟨[],rfl⟩
 |x::l,h=>by
  obtain⟨v,rfl⟩:=h x YX;obtain⟨q,rfl⟩:=iw (l:=l) fun y a=>h y (by simp[a]);exact⟨v::q,rfl⟩
def II {q:wi} (h:(aW q).Nodup):q.Nodup:=by
 rw[aW,gY,UB]at h;exact gY.2 (h.imp fun k e=>k (by rw[e]))
def RR.GV (I:RR n es H S) (hR:I7 n es) {p:Lb} (a:p∈S.left):p.Xt.length<=n:=by
 have P:=I.VI p a;obtain⟨q,b⟩:=iw fun x c=>by
  obtain⟨v,h,_⟩:=I.qk hR a x c;exact⟨v,h⟩
 have nd:=P.fnd;rw[b]at nd ⊢;rw[tG];have:=Jz (II nd) (B:=List.range n) fun v d=>by
  have e:((v:Nat):Int)∈p.Xt:=by rw[b];exact T8.2 ⟨v,d,rfl⟩
  obtain⟨w,f,h2⟩:=I.qk hR a _ e;rw[vq];omega
 simpa using this
def RR.NF (I:RR n es H S):S.K8.length<=es.length+2:=by have:=I.PA;omega
def RR.xp (I:RR n es H S) {p:Lb} (a:p∈S.left):p.fits.length<=S.K8.length:=by
 have P:=I.VI p a;have:=Jz P.tnd (B:=List.range S.K8.length) fun v b=>vq.2 ((P.fits v).1 b).1;simpa using this
def RR.NK (I:RR n es H S) {p:Lb} (a:p∈S.left):p.bG.length<=es.length:=(I.VI p a).sub.length_le
def dh:∀{l:List Lb},(∀p∈l,p.bG≠[])->(l.Pairwise fun p q=>∀e∈p.bG,e∉q.bG)->(l.map fun p=>p.bG.headD (0,0)).Nodup
 |[],_,_=>Aq
 |p::l,c,b=>by
  rw[jO]at b;rw[Kj,tS];have d:∀q∈p::l,q.bG.headD (0,0)∈q.bG:=fun q a=>by
   obtain⟨x,t,e⟩:=bq (c q a);rw[e];simp
  refine⟨fun h=>?_,dh (fun q a=>c q (by simp[a])) b.2⟩;obtain⟨q,a,e⟩:=T8.1 h;exact b.1 q a _ (d p YX) (by rw[<-e];exact d q (by simp[a]))
def RR.CB (I:RR n es H S):S.left.length<=es.length:=by
 have:=Jz (dh (fun p a=>(I.VI p a).ne) I.eX) (B:=es) fun e b=>by
  obtain⟨p,a,rfl⟩:=T8.1 b;have P:=I.VI p a;obtain⟨x,t,e⟩:=bq P.ne;exact P.sub.subset (by rw[e];simp)
 simpa using this
def RR.face_lt (I:RR n es H S) {f:Nat} (hf:f<S.K8.length):(∀x∈S.K8.getD f [],x<n)/\(S.K8.getD f []).length<=n:=by
 have a:S.K8.getD f []∈S.K8:=by rw[YR hf];exact om hf
 obtain⟨b,h2⟩:=I.inv.Vo a;refine⟨h2,?_⟩;have:=Jz b (B:=List.range n) fun v c=>vq.2 (h2 v c);simpa using this
def RR.Ww (I:RR n es H S) (hR:I7 n es) (hA:BD es) (D:pV (eN n es)) {p:Lb} (u:p∈S.left) {f:Nat} (hf:f∈p.fits):
  2<=(iY n (Oc n es) S.on p).length/\(iY n (Oc n es) S.on p).headD 0∈S.K8.getD f []/\Mh (iY n (Oc n es) S.on p)∈S.K8.getD f []/\(∀x∈iY n (Oc n es) S.on p,x<n)/\(iY n (Oc n es) S.on p).length<=n:=by
 have d:=sL hR hA;have hs:=I.inv.sym;have P:=I.VI p u;obtain⟨a,inn,b,w,W,c⟩:=I.way hR hA D u;rw[w];obtain⟨A,j⟩:=(P.fits f).1 hf;have e:=P.Pg hR c;have C:cK (eN n es) H a ((inn++[b]).headD 0):=⟨fun q=>by obtain⟨z,s,t⟩:=W.de;exact q z s t,e.1,e.2⟩;have k:a∈S.K8.getD f []:=by have:=j _ (P.aS C c);rwa[TK]at this
 have l:b∈S.K8.getD f []:=by
  have o:=W.lst d hs;have E:iU a inn b b ((inn.reverse++[a]).headD 0):=(W.x6 d hs).2 rfl;have F:=W.Rs d hs E;have G:=(P.one _ _ b _ e ⟨o.1,o.2⟩ c).2 F;have:=j _ ((P.Xt b).2 ⟨fun q=>by obtain⟨z,s,t⟩:=W.fJ;exact q z s t,_,⟨o.1,o.2⟩,G⟩);rwa[TK]at this
 have m:∀x∈ZR a inn b,x<n:=fun x r=>by
  rw[ZR,aH,uK,Rb]at r;rcases r with rfl|r|rfl
  .exact d.lt _ _ e.1
  .obtain ⟨i, y, J, h2⟩ := xD (a := a) (b := b) (inn := inn) (v := x) (.inr r)
   exact d.lt _ _ (d.sy _ _ (W.fj i _ _ J h2).1)
  .exact d.lt _ _ (d.sy _ _ (W.lst d hs).1 |> d.sy _ _)
 obtain⟨N,K,L⟩:=pZ a b inn;refine⟨by rw[OQ];omega,by rw[L];exact k,by rw[K];exact l,m,?_⟩;have:=Jz W.nd (B:=List.range n) fun v M=>vq.2 (m v M);simpa using this
end
def YU (h:AHeap):aAlloc Tryz.prog h 125=some (.pointer (some ⟨h.next,0,none⟩),h.alloc (.cells [Y2,Y2,Y2])):=zd
def Hu {h:AHeap} {P:Nat} {x y z a b c:Value} (d:h.own P=some (.cells [x,y,z])) (ha:a.oneCell'=true) (hb:b.oneCell'=true) (f:c.oneCell'=true):aStore Tryz.prog h 125 (.pointer (some ⟨P,0,none⟩)) (.agg #[a,b,c])=some (h.put P (.cells [a,b,c])):=by
 have e:(Value.agg #[a,b,c]).cells=#[a,b,c]:=rfl;simp[aStore,d,e,Qv,putCells,ha,hb,f]
def Hb {h:AHeap} (hw:WF h) {a b c:Value} (ha:a.oneCell'=true) (hb:b.oneCell'=true) (f:c.oneCell'=true):∃d h2,aAlloc Tryz.prog h 125=some (.pointer (some ⟨h.next,0,none⟩),d)/\aStore Tryz.prog d 125 (.pointer (some ⟨h.next,0,none⟩)) (.agg #[a,b,c])=some h2/\Le h h2/\WF h2/\h2.own h.next=some (.cells [a,b,c])/\Le h d:=by
 obtain⟨d,i,l1,w1,e⟩:=mV hw [Y2,Y2,Y2]
 have j:h.own h.next=none:=(Le.refl h).next hw (J4 _)
 exact⟨d,_,by rw[YU,i],Hu e ha hb f,l1.put _ j,w1.put _ (w1.lt e),AHeap.zm _ _ _,l1⟩
def YD {h:AHeap} {P:Nat} {a b c:Value} (d:h.own P=some (.cells [a,b,c])):aload Tryz.prog h 125 ⟨P,0,none⟩=some (.agg #[a,b,c]):=by
 rw[HU XA rfl Qv d YX];rfl
def lP0 {h:AHeap} {P:Nat} {a b c:Value} (d:h.own P=some (.cells [a,b,c])):aload Tryz.prog h 22 ⟨P,0,none⟩=some a:=by rw[wT pS rfl d];rfl
def lP1 {h:AHeap} {P:Nat} {a b c:Value} (d:h.own P=some (.cells [a,b,c])):aload Tryz.prog h 49 ⟨P,1,none⟩=some b:=by rw[wT Rm rfl d];rfl
def lP2 {h:AHeap} {P:Nat} {a b c:Value} (d:h.own P=some (.cells [a,b,c])):aload Tryz.prog h 49 ⟨P,2,none⟩=some c:=by rw[wT Rm rfl d];rfl
def pB (P k:Nat) (a:k<3):aField Tryz.prog 125 (.pointer (some ⟨P,0,none⟩)) k=some (.pointer (some ⟨P,k,none⟩)):=by
 match k,a with
 |0,_=>rfl
 |1,_=>rfl
 |2,_=>rfl
def GS.jc {h:AHeap} {v a b c:Value} {m k:Nat} {cs:List Value} (g:GS 3 h v m cs) (f:k<m) (ha:cs[k*3]?=some a) (hb:cs[k*3+1]?=some b) (j:cs[k*3+2]?=some c):aload Tryz.prog h 125 (elemAddr v (k*3))=some (.agg #[a,b,c]):=by
 have gc:=g.cs.get;have e:∀r,Co (elemAddr v (k*3)) r=elemAddr v (k*3+r):=fun r=>eA3 g f;have:=AM (h:=h) [a,b,c] (elemAddr v (k*3)) fun i x d=>by
  rw[e]
  match i,d with
  |0,d=>simp at d;subst d;exact gc _ _ ha
  |1,d=>simp at d;subst d;exact gc _ _ hb
  |2,d=>simp at d;subst d;exact gc _ _ j
  |i+3,d=>simp at d
 have l:([a,b,c]:List Value).length=3:=rfl;rw[l]at this;simp only[aload,XA,isAggD,cond_true,Qv,this]
section
variable {g h : AHeap} {B O n : Nat} {rows : List (List Int)} {bv fv iv lv : Value} {us ws cs : List Value} {on : List Bool} {F1 F2 : List (List Nat)} {left : List Lb}
def Cu.rlI (S:Cu g h B O n rows bv fv iv lv us ws cs on F1 F2 left):RL (RL Po) h iv (F2.map (Ex n)):=
 ⟨ws,(GS.cs S.gI).rs,by rw[yA];exact S.wL,fun i x u a c=>by
  rw[Rv]at a;cases b:F2[i]? with
  |none=>rw[b]at a;cases a
  |some f=>
   rw[b]at a;simp at a;subst a;exact(S.cI i u f c b).le Rr.Po S.le⟩
def Cu.rlO (S:Cu g h B O n rows bv fv iv lv us ws cs on F1 F2 left):RL Po h (.slice (some ⟨O,0,none⟩) n n) on:=RL.cp (RS.whole S.oO (by rw[yA];exact S.Xf))
def Cu.lenL (S:Cu g h B O n rows bv fv iv lv us ws cs on F1 F2 left) (h':AHeap):aLen Tryz.prog h' 75 lv=some (.int .i64 (left.length:Nat)):=by
 obtain⟨a,c,rfl,_⟩:=S.gL.cs.sl;exact lD rU h'
def Cu.qj (S:Cu g h B O n rows bv fv iv lv us ws cs on F1 F2 left) (h':AHeap):aLen Tryz.prog h' 27 fv=some (.int .i64 (F1.length:Nat)):=by
 obtain⟨a,c,e,_⟩:=S.gF.cs.sl;rw[e,S.uL];exact lD qS9 h'
def Cu.at_ (S:Cu g h B O n rows bv fv iv lv us ws cs on F1 F2 left) {k:Nat} (d:k<left.length):∃a b c,cs[k*3]?=some a/\cs[k*3+1]?=some b/\cs[k*3+2]?=some c/\PR g a left[k].bG/\RL IJ g b left[k].Xt/\RL IJ g c (aW left[k].fits):=S.cL k _ (dR d)
end
end Go.Fw
namespace Go.Fw
section
attribute [local instance] Classical.propDecidable
attribute [local irreducible] Ax YH XZ Uk KO KN KX KE VK DK Q7 dK W9
open Go.Proofs
variable {B O a b c i n:Nat} {bv fv iv lv:Value} {cs us ws:List Value} {es:List Pr} {g h h':AHeap} {left:List Lb} {rows:CA}
def Es (hi:i<left.length):qj left i=left[i].fits.length:=by unfold qj;rw[YR hi]
def JV {a:List Lb} {φ:Lb->Lb} {q q':Lb} (hi:i<a.length) (b:a.drop i=q::a.drop (i+1)):((a.take i).map φ++a.drop i).set i q'=(a.take i).map φ++q'::a.drop (i+1):=by
 have c:((a.take i).map φ).length=i:=by rw[yA,Ja];omega
 rw[b,ZK _ _ QT,c,iE];rfl
def Ow (h:a<=b) (h2:b<=c+2) (h3:c<=594):a<=100000:=QT
def Bc (h:a<=b) (h2:b<=c+2) (h3:c<=594):a+1<=100000:=QT
def vh (h:a<=n) (h2:(n:Int)<=200):a<=100000:=QT
def app_b {α β:Type} {L:List β} {ps:List α} {φ:α->β} (h:L.length<=594) (h2:ps.length<=594) (i:Nat):(L++(ps.take i).map φ).length<=100000:=by
 rw[Vw,yA,Ja];omega
def le_4 (h:a<=n) (h2:(n:Int)<=200):a<=40000:=QT
def Cu.other {on:List Bool} {d e:ai} (S:Cu g h B O n rows bv fv iv lv us ws cs on d e left) (l:Le g h')
  (c:∀z o,InS B O fv iv lv z->h.own z=some o->h'.own z=some o):Cu g h' B O n rows bv fv iv lv us ws cs on d e left:=
 {S with
  f:=⟨c _ _ (.inl rfl) S.f.o⟩
  oO:=c _ _ (.inr (.inl rfl)) S.oO
  gF:=GS.kept S.gF fun b o hb a=>c b o (.inr (.inr ⟨fv,YX,hb⟩)) a
  gI:=GS.kept S.gI fun b o hb a=>c b o (.inr (.inr ⟨iv,YX,hb⟩)) a
  gL:=GS.kept S.gL fun b o hb a=>c b o (.inr (.inr ⟨lv,YX,hb⟩)) a
  sep:=⟨S.sep.eX,fun i u b j hb=>by
   obtain⟨o,a⟩:=yu.1 (S.sep.own i u b j hb);rw[c b o (.inr (.inr ⟨u,Jb j,hb⟩)) a];simp,S.sep.ap,l⟩}
def lay_any (W0:Ac) {H:Nat->Nat->Prop} {m:DB} (S:Cu g h B O n (Oc n es) bv fv iv lv us ws cs m.on m.K8 m.K8 m.left)
  (hr:xO ⟨(n:Int),es⟩) (D:pV (eN n es)) (I:RR n es H m) (fL:m.left≠[]):
  AC Tryz.prog W0 53 [.pointer (some ⟨B,0,none⟩)] h fun x h'=>∃g',Le g g'/\Le g' h'/\((PN n (Oc n es) m=none/\x=.bool false)\/∃bo fN fO fQ fT fV fW,PN n (Oc n es) m=some bo/\x=.bool true/\Cu g' h' B O n (Oc n es) bv fN fO fQ fT fV fW bo.on bo.K8 bo.K8 bo.left):=by
 have hR:=hr.si;have hA:=hr.Fx;have aT:(n:Int)<=200:=hr.n1;have E:es.length<=594:=hr.len;have jV:=I.CB;have Y:=I.NF;have eg:0<m.left.length:=Ux.2 fL;refine AC.vE ⟨Tryz.func53,rfl,xr⟩ Tryz.ntmps53 Tryz.results53 fun jY=>?_;simp only[xq,Nat.reduceAdd];have M:=sB B 5 QT;have fY:=sB B 3 QT;have ga:=sB B 2 QT;have br:=fun k hk=>S.gL.ad3 (k:=k) hk;have eL:=fun k r (hk:k<m.left.length)=>eA3 (k:=k) (r:=r) S.gL hk;have c5:∀k (hk:k<m.left.length),∃c,aload Tryz.prog h 49 (elemAddr lv (k*3+2))=some c/\∀g',aLen Tryz.prog g' 49 c=some (.int .i64 (m.left[k].fits.length:Nat)):=fun k hk=>by
  obtain⟨a,b,c,q1,q2,q3,q4,q5,q6⟩:=S.at_ hk;refine⟨c,by rw[ON Rm rfl];exact S.gL.cs.get _ _ q3,fun g'=>?_⟩;have:=q6.zw g';rwa[tG]at this
 simp only[Ud,Nat.reduceLT,↓reduceIte,Nat.reduceEqDiff,reduceCtorEq,M,S.f.l5,S.lenL];refine W9.intro (fun k fr V=>∃i:Nat,k=m.left.length-i/\i<=m.left.length/\fr=mkF [(0,.pointer (some ⟨B,0,none⟩)),(3,.int .i64 (bestK m.left i:Nat)),(20,.int .i64 (m.left.length:Nat)),(21,.int .i64 (i:Nat))]/\V=h)
  m.left.length [(0,.pointer (some ⟨B,0,none⟩)),(3,.int .i64 (0:Nat)),(20,.int .i64 (m.left.length:Nat)),(21,.int .i64 (0:Nat))] vy ⟨0,rfl,KW _,rfl,rfl⟩ ?_
 rintro k fr V a6 ⟨i,rfl,hi,rfl,rfl⟩;refine yq ?_;refine DK.intro (fun ht=>?_) (fun hf=>?_)
 .have s : i < m.left.length := Ub ht
  clear ht;have F:bestK m.left i<m.left.length:=by
   have:=(Y3 m.left i).1;rcases Al i with rfl|h
   .exact eg
   .have:=this h;omega
  obtain⟨c1,q1,q2⟩:=c5 i s;obtain⟨c2,q3,q4⟩:=c5 _ F;have aw:=Gm i QT;have e1:=Es s;have e2:=Es F;refine yq ?_;refine rD (vu [0,1,2,3,4,5,6,7,8,9,10,11,12,13,14,15,16,17,18] .done) ?_;by_cases c:m.left[i].fits.length<(m.left[bestK m.left i]).fits.length
  .have d : decide (((m.left[i].fits.length : Nat) : Int) < (((m.left[bestK m.left i]).fits.length : Nat) : Int)) = true := decide_eq_true QT
   have eb:bestK m.left (i+1)=i:=by rw[bestK,if_pos (by rw[e1,e2];exact c)]
   simp only[Ud,Nat.reduceLT,↓reduceIte,Nat.reduceEqDiff,reduceCtorEq,Nat.reduceBEq,rm,M,S.f.l5,br i s,br _ F,pf2,eL i 2 s,eL _ 2 F,q1,q2,q3,q4,d,aw];exact cX (m.left.length-(i+1)) [(0,.pointer (some ⟨B,0,none⟩)),(3,.int .i64 (i:Nat)),(20,.int .i64 (m.left.length:Nat)),(21,.int .i64 (i+1:Nat))] (dN s) vy ⟨i+1,rfl,s,by rw[eb];rfl,rfl⟩
  .have d : decide (((m.left[i].fits.length : Nat) : Int) < (((m.left[bestK m.left i]).fits.length : Nat) : Int)) = false := decide_eq_false QT
   have eb:bestK m.left (i+1)=bestK m.left i:=by rw[bestK,if_neg (by rw[e1,e2];exact c)]
   simp only[Ud,Nat.reduceLT,↓reduceIte,Nat.reduceEqDiff,reduceCtorEq,Nat.reduceBEq,rm,M,S.f.l5,br i s,br _ F,pf2,eL i 2 s,eL _ 2 F,q1,q2,q3,q4,d,aw];exact cX (m.left.length-(i+1)) [(0,.pointer (some ⟨B,0,none⟩)),(3,.int .i64 (bestK m.left i:Nat)),(20,.int .i64 (m.left.length:Nat)),(21,.int .i64 (i+1:Nat))] (dN s) vy ⟨i+1,rfl,s,by rw[eb];rfl,rfl⟩
 have ad:m.left.length<=i:=Yv hf;obtain rfl:i=m.left.length:=QT;clear ad hf hi c5;have F:=(Y3 m.left m.left.length).1 eg
 have cx:PN n (Oc n es) m=if(m.left.getD (bestK m.left m.left.length) default).fits.length=0 then none else
   if(iY n (Oc n es) m.on (m.left.getD (bestK m.left m.left.length) default)).length<2 then none else
   some ⟨XH m.on (iY n (Oc n es) m.on (m.left.getD (bestK m.left m.left.length) default)),dn m.K8 ((m.left.getD (bestK m.left m.left.length) default).fits.headD 0) (iY n (Oc n es) m.on (m.left.getD (bestK m.left m.left.length) default)),
    (m.left.eraseIdx (bestK m.left m.left.length)).map (z8 (dn m.K8 ((m.left.getD (bestK m.left m.left.length) default).fits.headD 0) (iY n (Oc n es) m.on (m.left.getD (bestK m.left m.left.length) default))) ((m.left.getD (bestK m.left m.left.length) default).fits.headD 0) m.K8.length)++
    (vQ n (XH m.on (iY n (Oc n es) m.on (m.left.getD (bestK m.left m.left.length) default))) (im n (m.left.getD (bestK m.left m.left.length) default).bG (iY n (Oc n es) m.on (m.left.getD (bestK m.left m.left.length) default)))).map fun q=>{q with fits:=fg (dn m.K8 ((m.left.getD (bestK m.left m.left.length) default).fits.headD 0) (iY n (Oc n es) m.on (m.left.getD (bestK m.left m.left.length) default))) q.Xt ((m.left.getD (bestK m.left m.left.length) default).fits++[m.K8.length])}⟩:=rfl
 rw[cx];clear cx;obtain⟨a,b,c,q1,q2,q3,q4,q5,q6⟩:=S.at_ F;have gg:=S.gL.jc F q1 q2 q3;have gk:=br _ F;have ag:m.left[bestK m.left m.left.length]∈m.left:=om F;have gl:m.left.getD (bestK m.left m.left.length) default=m.left[bestK m.left m.left.length]:=YR F;rw[gl];generalize gn:bestK m.left m.left.length=K at*;generalize hp:m.left[K]=p at*;obtain⟨h1,h2,e1,e2,l2,w2,oP,-⟩:=Hb a6 q4.sl.one q5.one q6.one;obtain⟨S2,bx⟩:=(S.up l2).ZW
 have gq:∀z,InS B O fv iv lv z->z≠V.next:=fun z hz e=>by
  have:=(S.own hz).2;rw[e]at this
  exact this ((Le.refl V).next a6 (J4 _))
 have gP:(qh h2 B O fv iv lv).own V.next=some (.cells [a,b,c]):=by
  unfold qh;exact MR.2 ⟨oP,fun hm=>gq _ (Zg.1 hm) rfl⟩
 generalize V.next=P at*
 have gu:=pB P 0 QT;have jZ:=pB P 1 QT;have c6:=pB P 2 QT;have lc:=fun g'=>q6.zw g';rw[tG]at lc;simp only[Ud,Nat.reduceLT,↓reduceIte,Nat.reduceEqDiff,reduceCtorEq,M,S.f.l5,gk,gg,e1,e2,c6,lP2 oP,lc];by_cases c0:p.fits.length=0
 .have d0 : decide (((p.fits.length : Nat) : Int) = 0) = true := decide_eq_true QT
  simp only[Ud,Nat.reduceLT,↓reduceIte,Nat.reduceEqDiff,reduceCtorEq,Kh,d0];exact⟨_,bx,S2.le,.inl ⟨by rw[if_pos c0],trivial⟩⟩
 have d0:decide (((p.fits.length:Nat):Int)=0)=false:=decide_eq_false QT;rw[if_neg c0];have eh:p.fits.headD 0∈p.fits:=Iu fun e=>c0 (by rw[e];rfl);obtain⟨gv,wh,da,cg,gz⟩:=I.Ww hR hA D ag eh;rw[if_neg QT];have ei:=((I.VI p ag).fits _).1 eh;have db:I7 n p.bG:=fun e he=>hR e ((I.VI p ag).sub.subset he);have gA:=I.NK ag;have j0:=I.GV hR ag;have dc:=I.xp ag;have gC:=I.qk hR ag;have ej:=q4.le bx;have gE:=q5.le Rr.IJ bx;have ek:=q6.le Rr.IJ bx;simp only[Ud,Nat.reduceLT,↓reduceIte,Nat.reduceEqDiff,reduceCtorEq,Kh,d0,YD oP];refine dK.intro pK ⟨Tryz.func98,rfl,xr⟩ (way_any W0 B n bv _ fv iv lv a b c es m.on p h2 S2.f (S2.cB.le (Rr.RL Rr.IJ) S2.le) S2.rlO S2.Xf (ej.le S2.le) (gE.le Rr.IJ S2.le) q6.one hR db gC QT QT QT QT) ?_;rintro wv h3 w3 ⟨gw,l3,aw3⟩;obtain⟨S3,bF⟩:=(S2.up l3).ZW;have en:GI (qh h3 B O fv iv lv) wv (aW (iY n (Oc n es) m.on p)):=G5 (h:=h3) S2 gw aw3;have eo:=bF.own _ _ gP;have j1:∀x∈iY n (Oc n es) m.on p,x<n:=cg;obtain⟨gH,j2⟩:=I.face_lt ei.1;have j3:=fg;generalize ep:iY n (Oc n es) m.on p=way at*;have lw:=fun g'=>gw.rl.zw g';rw[tG]at lw;have dw:decide (((way.length:Nat):Int)<2)=false:=decide_eq_false QT;have gM:awrap .i64 ((K:Int)+1)=((K+1:Nat):Int):=Gm K QT;simp only[Ud,Nat.reduceLT,↓reduceIte,Nat.reduceEqDiff,reduceCtorEq,lw,dw,M,S3.f.l5,gM];refine dK.intro pK ⟨Tryz.func99,rfl,xr⟩ (Y5 W0 S3.gL S3.cuL S3.c1 F QT) ?_;rintro w h4 w4 ⟨gd,gQ,gR,gS,gT⟩;obtain⟨h5,e5,S5,w5⟩:=S3.delL w4 F gd gQ gR gS gT;have er:=S5.le;have gV:=er.own _ _ eo;have gZ:=(ek.le Rr.IJ bF).le Rr.IJ er;have et:=q6.qW 0 (by rw[tG];omega);have eu:=gZ.HN 0 (by rw[tG];omega);have t0:0<p.fits.length:=QT;rw[uD t0,<-AU t0]at eu;simp only[vN]at et;generalize ka:p.fits.headD 0=f at*;generalize kb:(cs.take (K*3)++cs.drop ((K+1)*3))=hl at*;simp only[Ud,Nat.reduceLT,↓reduceIte,Nat.reduceEqDiff,reduceCtorEq,M,e5];refine rD (vu [0,1,2,3,4,5,6,7,8,9,10] .done) ?_;simp only[Ud,Nat.reduceLT,↓reduceIte,Nat.reduceEqDiff,reduceCtorEq,Nat.reduceBEq,rm,c6,lP2 gV,et,eu,fY,S5.f.l3,S5.qj];have hn:=tt W0 S5 (f:=f) (way:=way) ei.1 en gv wh da gH cg QT QT QT QT;refine dK.intro pK ⟨Tryz.func100,rfl,xr⟩ hn ?_;rintro x h6 w6 ⟨g6,A,C,bI,bQ,S6,dd⟩;have hx:(m.left.eraseIdx K).length=m.left.length-1:=by rw[FK,if_pos F]
 have dj:∀q∈m.left.eraseIdx K,q∈m.left:=fun q V=>List.mem_of_mem_eraseIdx V;generalize kd:m.left.eraseIdx K=N at*;have ev:(dn m.K8 f way).length=m.K8.length+1:=tP;generalize ke:dn m.K8 f way=R at*;have kf:=sB B 0 QT;simp only[Ud,Nat.reduceLT,↓reduceIte,Nat.reduceEqDiff,reduceCtorEq,M,S6.f.l5,S6.lenL];refine W9.intro (fun k fr hz=>∃(i:Nat) (g7:AHeap) (bV:List Value) (L:List Lb),k=N.length-i/\i<=N.length/\fr=mkF [(0,.pointer (some ⟨B,0,none⟩)),(5,.pointer (some ⟨P,0,none⟩)),(6,wv),(7,.int .i64 (f:Nat)),(8,.int .i64 (m.K8.length:Nat)),(89,w),(90,.int .i64 (N.length:Nat)),(91,.int .i64 (i:Nat))]/\
   Cu g7 hz B O n (Oc n es) bv A C w bI bQ bV m.on R R L/\Le g6 g7/\L=(N.take i).map (z8 R f m.K8.length)++N.drop i)
  N.length [(0,.pointer (some ⟨B,0,none⟩)),(5,.pointer (some ⟨P,0,none⟩)),(6,wv),(7,.int .i64 (f:Nat)),(8,.int .i64 (m.K8.length:Nat)),(89,w),(90,.int .i64 (N.length:Nat)),(91,.int .i64 (0:Nat))] vy
  ⟨0,g6,hl,N,rfl,KW _,rfl,S6,Le.refl _,YX⟩ ?_
 rintro k fr hz dk ⟨i,g7,bV,L,rfl,hi,rfl,S7,a7,aq⟩;have ew:L.length=N.length:=by rw[aq,Vw,yA,Ja,YA];omega
 refine yq ?_;refine DK.intro (fun ht=>?_) (fun hf=>?_)
 .have s : i < N.length := Ub ht
  clear ht;have ar:i<L.length:=QT;have dm:L[i]=N[i]:=by
   have h1:L[i]?=some N[i]:=by
    rw[aq,kc (by rw[yA,Ja];omega),yA,Ja,bE QT,iE,G3,dX];exact dR s
   rw[dR ar]at h1;injection h1
  obtain⟨a',b',c',r1,r2,r3,r4,r5,r6⟩:=S7.at_ ar;have dp:=S7.gL.jc ar r1 r2 r3;have bW:=S7.gL.ad3 ar;have hC:=eA3 (r:=2) S7.gL ar;have ey:aField Tryz.prog 125 (.pointer (some (elemAddr w (i*3)))) 2=some (.pointer (some (elemAddr w (i*3+2)))):=by rw[pf2,hC]
  rw[dm]at r4 r5 r6;have ck:=dj _ (om s);have cE:=I.qk hR ck;have cM:=I.GV hR ck;have W:=I.xp ck;have hD:=(I.VI _ ck).fits;generalize eA:N[i]=q at*;obtain⟨h8,h9,e8,e9,l9,w9,oQ,l8⟩:=Hb dk r4.sl.one r5.one r6.one;have S9:=S7.up l9;have aw:=Gm i QT
  have dQ:∀z,InS B O A C w z->z≠hz.next:=fun z G e=>by
   have:=(S7.own G).2;rw[e]at this
   exact this ((Le.refl hz).next dk (J4 _))
  generalize hz.next=Q at*
  have aB:=pB Q 1 QT;have ah:=pB Q 2 QT;have aE:N.take (i+1)=N.take i++[q]:=by rw[QM s,eA]
  have eB:N.drop i=q::N.drop (i+1):=by rw[BG s,eA]
  have aX:∀q':Lb,L.set i q'=(N.take i).map (z8 R f m.K8.length)++q'::N.drop (i+1):=fun q'=>by
   rw[aq];exact JV s eB
  simp only[Ud,Nat.reduceLT,↓reduceIte,Nat.reduceEqDiff,reduceCtorEq,bW,dp,e8,e9,ah,lP2 oQ];refine dK.intro pK ⟨Tryz.func101,rfl,xr⟩ (Xk W0 c' (aW q.fits) ((f:Nat):Int) h9 (r6.le Rr.IJ S9.le) (by rw[tG];omega)) ?_;rintro y a8 hE ⟨rfl,rfl⟩;by_cases cm:f∈q.fits
  rotate_left
  .have d:decide (((f:Nat):Int)∈aW q.fits)=false:=decide_eq_false fun hm=>cm (by
    obtain⟨z,G,e⟩:=T8.1 hm;have:z=f:=QT;rw[<-this];exact G)
   simp only[Ud,Nat.reduceLT,↓reduceIte,Nat.reduceEqDiff,reduceCtorEq,d,aw];refine cX (N.length-(i+1)) [(0,.pointer (some ⟨B,0,none⟩)),(5,.pointer (some ⟨P,0,none⟩)),(6,wv),(7,.int .i64 (f:Nat)),(8,.int .i64 (m.K8.length:Nat)),(89,w),(90,.int .i64 (N.length:Nat)),(91,.int .i64 (i+1:Nat))] (dN s) vy
    ⟨i+1,g7,bV,L,rfl,s,rfl,S9,a7,?_⟩
   rw[aq,aE,eB,qy,Nd];have:z8 R f m.K8.length q=q:=by unfold z8;rw[if_neg cm]
   simp[this]
  have d:decide (((f:Nat):Int)∈aW q.fits)=true:=decide_eq_true (T8.2 ⟨f,cm,rfl⟩);simp only[Ud,Nat.reduceLT,↓reduceIte,Nat.reduceEqDiff,reduceCtorEq,d];have T:∀h',Le a8 h'->aload Tryz.prog h' 75 ⟨B,5,none⟩=some w/\aload Tryz.prog h' 49 ⟨Q,1,none⟩=some b'/\aload Tryz.prog h' 49 ⟨Q,2,none⟩=some c':=fun h' l=>⟨(S9.f.le l).l5,lP1 (l.own _ _ oQ),lP2 (l.own _ _ oQ)⟩;obtain⟨dr,dv,dx⟩:=T a8 (Le.refl _);have aY:∀z∈q.fits++[m.K8.length],z<R.length:=fun z G=>by
   rw[ev];rcases uK.1 G with h|h
   .have:=((hD z).1 h).1;omega
   .have:=Rb.1 h;omega
  have a1:aW q.fits++[((m.K8.length:Nat):Int)]=aW (q.fits++[m.K8.length]):=by simp[aW]
  obtain⟨ha,ea,la,wa,oa⟩:=mV hE [.int .i64 ((m.K8.length:Nat):Int)];obtain⟨hF,hG,hI⟩:=T ha la;refine rD (vu [0,1,2,3,4,5,6,7,8,9,11] (.ch 10 [9] (PO 12 [11] (PO 13 [10,12] (PO 14 [5,7,13] (vu [15,16] (PO 17 [0,1,2,3,4,5,6,7,8,9,10,11,12,13,14,16] .done))))) (PO 12 [11] (PO 10 [9] (PO 13 [10,12] (PO 14 [5,7,13] (vu [15,16] (PO 17 [0,1,2,3,4,5,6,7,8,9,10,11,12,13,14,16] .done)))))))) ?_;simp only[Ud,Nat.reduceLT,↓reduceIte,Nat.reduceEqDiff,reduceCtorEq,Nat.reduceBEq,rm,M,dr,hF,aB,ah,dv,hG,dx,hI,Vb,ea];refine⟨?_,?_⟩
  .refine N1.intro pK ⟨dC, rfl, xr⟩ (fF W0 c' (aW q.fits) a8 (r6.le Rr.IJ S9.le) (by rw [tG]; exact Ow W Y E)) ?_
   rintro y AD wb ⟨gb,lb,ab⟩;obtain⟨bX,bY,b0⟩:=T AD lb;obtain⟨av,hJ,hc,eC,ec,aK,wc,hK,dy,hL⟩:=gb.push wb ((m.K8.length:Nat):Int) (by rw[tG];exact Ow W Y E);obtain⟨J,hM⟩:=dy a8 lb ab;rw[a1]at aK;obtain⟨eD,eE,eF⟩:=T hJ (lb.trans hK);obtain⟨b1,b2,b3⟩:=T hc J;simp only[Vb]at eC;simp only[Ud,Nat.reduceLT,↓reduceIte,Nat.reduceEqDiff,reduceCtorEq,Nat.reduceBEq,rm,M,dr,bX,eD,b1,aB,ah,dv,bY,eE,b2,dx,b0,eF,b3,Vb,eC,ec];obtain⟨hN,hP,hQ⟩:=T hc J;refine N1.intro pK ⟨KL,rfl,xr⟩ (iQ W0 B n bv _ A C w b' av R q.Xt (q.fits++[m.K8.length]) hc (S9.f.le J) (S9.rlI.le (Rr.RL Rr.Po) J) ((r5.le Rr.IJ S9.le).le Rr.IJ J) aK.rl cE aY (vh cM aT) (by rw[Vw,SB];exact Bc W Y E)) ?_;rintro y hd wd ⟨gy,dz,ay⟩;have b4:=J.trans dz;obtain⟨dA,dB,dE⟩:=T hd b4;obtain⟨Sd,dH⟩:=(S9.up b4).ZW;have dI:GI (qh hd B O A C w) y (aW (fg R q.Xt (q.fits++[m.K8.length]))):=G5 (h:=hd) S9 gy (fun b hb=>J.none (ay b hb));obtain⟨he,ee,Se,we⟩:=Sd.setT wd ar dI.rl;rw[dm]at Se;simp only[Ud,Nat.reduceLT,↓reduceIte,Nat.reduceEqDiff,reduceCtorEq,Nat.reduceBEq,rm,M,aB,ah,dA,dB,dE,bW,ey,ee,aw];refine cX (N.length-(i+1)) [(0,.pointer (some ⟨B,0,none⟩)),(5,.pointer (some ⟨P,0,none⟩)),(6,wv),(7,.int .i64 (f:Nat)),(8,.int .i64 (m.K8.length:Nat)),(89,w),(90,.int .i64 (N.length:Nat)),(91,.int .i64 (i+1:Nat))] (dN s) vy
    ⟨i+1,_,_,_,rfl,s,rfl,Se,a7.trans dH,?_⟩
   rw[aX,aE,qy,Nd];have:z8 R f m.K8.length q={q with fits:=fg R q.Xt (q.fits++[m.K8.length])}:=by unfold z8;rw[if_pos cm]
   simp[this]
  .refine N1.intro pK ⟨dC, rfl, xr⟩ (fF W0 c' (aW q.fits) ha ((r6.le Rr.IJ S9.le).le Rr.IJ la) (by rw [tG]; exact Ow W Y E)) ?_
   rintro y AD wb ⟨gb,lb,ab⟩;obtain⟨bX,bY,b0⟩:=T AD (la.trans lb)
   have ro:RL IJ AD (.slice (some ⟨a8.next,0,none⟩) 1 1) [((m.K8.length:Nat):Int)]:=RL.Kr (RS.whole (lb.own _ _ oa) rfl)
   obtain⟨av,hc,ec,aK,wc,dy,hL⟩:=GI.join gb wb ro (by rw[tG,SB];exact Jh (Bc W Y E) xr);obtain⟨hS,hM⟩:=dy ha lb ab;have J:=la.trans hS;rw[a1]at aK;obtain⟨b1,b2,b3⟩:=T hc J;simp only[Ud,Nat.reduceLT,↓reduceIte,Nat.reduceEqDiff,reduceCtorEq,Nat.reduceBEq,rm,M,dr,bX,b1,aB,ah,dv,bY,b2,dx,b0,b3,Vb,ec];obtain⟨hN,hP,hQ⟩:=T hc J;refine N1.intro pK ⟨KL,rfl,xr⟩ (iQ W0 B n bv _ A C w b' av R q.Xt (q.fits++[m.K8.length]) hc (S9.f.le J) (S9.rlI.le (Rr.RL Rr.Po) J) ((r5.le Rr.IJ S9.le).le Rr.IJ J) aK.rl cE aY (vh cM aT) (by rw[Vw,SB];exact Bc W Y E)) ?_;rintro y hd wd ⟨gy,dz,ay⟩;have b4:=J.trans dz;obtain⟨dA,dB,dE⟩:=T hd b4;obtain⟨Sd,dH⟩:=(S9.up b4).ZW;have dI:GI (qh hd B O A C w) y (aW (fg R q.Xt (q.fits++[m.K8.length]))):=G5 (h:=hd) S9 gy (fun b hb=>J.none (ay b hb));obtain⟨he,ee,Se,we⟩:=Sd.setT wd ar dI.rl;rw[dm]at Se;simp only[Ud,Nat.reduceLT,↓reduceIte,Nat.reduceEqDiff,reduceCtorEq,Nat.reduceBEq,rm,M,aB,ah,dA,dB,dE,bW,ey,ee,aw];refine cX (N.length-(i+1)) [(0,.pointer (some ⟨B,0,none⟩)),(5,.pointer (some ⟨P,0,none⟩)),(6,wv),(7,.int .i64 (f:Nat)),(8,.int .i64 (m.K8.length:Nat)),(89,w),(90,.int .i64 (N.length:Nat)),(91,.int .i64 (i+1:Nat))] (dN s) vy
    ⟨i+1,_,_,_,rfl,s,rfl,Se,a7.trans dH,?_⟩
   rw[aX,aE,qy,Nd];have:z8 R f m.K8.length q={q with fits:=fg R q.Xt (q.fits++[m.K8.length])}:=by unfold z8;rw[if_pos cm]
   simp[this]
 have ad:N.length<=i:=Yv hf;obtain rfl:i=N.length:=QT;rw[xV (J4 _),zl (J4 _),C7]at aq;clear ad hf hi;have eG:=a7.own _ _ (dd.own _ _ eo);have dL:=en.le (dd.trans a7);have eI:=fun g'=>dL.rl.zw g';rw[tG]at eI;simp only[Ud,Nat.reduceLT,↓reduceIte,Nat.reduceEqDiff,reduceCtorEq,eI];refine W9.intro (fun k fr hy=>∃(i:Nat),k=way.length-i/\i<=way.length/\fr=mkF [(0,.pointer (some ⟨B,0,none⟩)),(5,.pointer (some ⟨P,0,none⟩)),(6,wv),(8,.int .i64 (m.K8.length:Nat)),(118,wv),(119,.int .i64 (way.length:Nat)),(120,.int .i64 (i:Nat))]/\
   Cu g7 hy B O n (Oc n es) bv A C w bI bQ bV (XH m.on (way.take i)) R R L)
  way.length [(0,.pointer (some ⟨B,0,none⟩)),(5,.pointer (some ⟨P,0,none⟩)),(6,wv),(8,.int .i64 (m.K8.length:Nat)),(118,wv),(119,.int .i64 (way.length:Nat)),(120,.int .i64 (0:Nat))] vy
  ⟨0,rfl,KW _,rfl,S7⟩ ?_
 clear S7 dk;clear hz;rintro k fr hy ep ⟨i,rfl,hi,rfl,S8⟩;refine yq ?_;refine DK.intro (fun ht=>?_) (fun hf=>?_)
 .have s : i < way.length := Ub ht
  clear ht;have gy:=dL.le S8.le;have hT:=gy.rl.qW i (by rw[tG];exact s);have eM:=gy.rl.HN i (by rw[tG];exact s);rw[uD s]at eM;have hv:=cg way[i] (om s);have aE:way.take (i+1)=way.take i++[way[i]]:=QM s;generalize way[i]=v at*;have hU:aIndexAddr Tryz.prog 59 (.slice (some ⟨O,0,none⟩) n n) (.int .i64 (v:Int))=some (.pointer (some ⟨O,v,none⟩)):=by
   rw[vj aO v7 zd v hv];simp[Co]
  obtain⟨h9,e9,S9,w9⟩:=S8.setO ep hv;have hV:(XH m.on (way.take i)).set v true=XH m.on (way.take (i+1)):=by rw[aE];unfold XH;rw[Tr];rfl
  rw[hV]at S9;have aw:=Gm i (ym s (le_4 gz aT));simp only[Ud,Nat.reduceLT,↓reduceIte,Nat.reduceEqDiff,reduceCtorEq,hT,eM,ga,S8.f.l2,hU,e9,aw];exact cX (way.length-(i+1)) [(0,.pointer (some ⟨B,0,none⟩)),(5,.pointer (some ⟨P,0,none⟩)),(6,wv),(8,.int .i64 (m.K8.length:Nat)),(118,wv),(119,.int .i64 (way.length:Nat)),(120,.int .i64 (i+1:Nat))] (dN s) vy ⟨i+1,rfl,s,rfl,S9⟩
 have ad:way.length<=i:=Yv hf;rw[xV ad]at S8;clear ad hf hi;have hW:=S8.le.own _ _ eG;have b5:=dd.trans a7;have r6:=((ek.le Rr.IJ bF).le Rr.IJ b5);have r4:=((ej.le bF).le b5);simp only[Ud,Nat.reduceLT,↓reduceIte,Nat.reduceEqDiff,reduceCtorEq,c6,lP2 hW];refine dK.intro pK ⟨dC,rfl,xr⟩ (fF W0 c (aW p.fits) hy (r6.le Rr.IJ S8.le) (by rw[tG];exact Ow dc Y E)) ?_;rintro y h9 w9 ⟨g9,l9,a9⟩;obtain⟨av,a8,dM,eQ,hX,eS,kk,kl,eT,jQ⟩:=g9.push w9 ((m.K8.length:Nat):Int) (by rw[tG];exact Ow dc Y E);obtain⟨eU,hY⟩:=eT hy l9 a9;have a1:aW p.fits++[((m.K8.length:Nat):Int)]=aW (p.fits++[m.K8.length]):=by simp[aW]
 rw[a1]at eS;obtain⟨bb,aj⟩:=(S8.up eU).ZW;have aK:GI (qh dM B O A C w) av (aW (p.fits++[m.K8.length])):=G5 (h:=dM) S8 eS hY;have e0:=aj.own _ _ eG;have e3:=bb.le.own _ _ e0;have h0:=dL.le aj;simp only[Vb]at eQ;simp only[Ud,Nat.reduceLT,↓reduceIte,Nat.reduceEqDiff,reduceCtorEq,Vb,eQ,hX,gu,lP0 e3];refine dK.intro pK ⟨Tryz.func103,rfl,xr⟩ (Pd W0 B n bv _ A C w a wv p.bG way dM bb.f ((r4.le aj).le bb.le) (h0.le bb.le).rl db cg QT QT QT) ?_;rintro y2 h7 kn ⟨ih,ij,kp⟩;obtain⟨ak,b6⟩:=(bb.up ij).ZW;have b8:(im n p.bG way).Sublist p.bG:=F5;have dT:I7 n (im n p.bG way):=fun e he=>db e (b8.subset he);have dV:(im n p.bG way).length<=594:=Jh b8.length_le (Jh gA E);generalize kq:im n p.bG way=wo at*;refine yq ?_;refine dK.intro pK ⟨Tryz.func102,rfl,xr⟩ (vL W0 B n bv _ A C w y2 (XH m.on way) wo h7 ak.f ak.rlO ak.Xf ih.pr dT QT QT) ?_;rintro x Z ik ⟨vs,OP⟩;obtain⟨e4,b9⟩:=(ak.up OP.sep.le).ZW;have dW:vQ n (XH m.on way) wo=(I9 (qt (XH m.on way)) (grpsM (MK n (qt (XH m.on way)) wo) wo [] wo.length)).map fun q=>⟨q.1,q.2,[]⟩:=by
  unfold vQ I9;rw[UD];rfl
 have cr:∀q∈I9 (qt (XH m.on way)) (grpsM (MK n (qt (XH m.on way)) wo) wo [] wo.length),(∀z∈q.2,∃v:Nat,z=(v:Int)/\v<n)/\q.2.length<=n:=fun q V=>by
  obtain⟨gr,il,rfl⟩:=T8.1 V;obtain⟨-,-,-,-,e6⟩:=RW (MK n (qt (XH m.on way)) wo) wo [] wo.length;have cQ:=e6 gr il;refine⟨fun z G=>?_,Wj dT cQ⟩;obtain⟨_,e,he,h⟩:=zN.1 (((pd _).2 z).1 G);obtain⟨u,v,rfl,kr,ix⟩:=O0 dT (cQ e he);simp only at h;rcases h with rfl|rfl
  .exact⟨u,rfl,QT⟩
  .exact⟨v,rfl,ix⟩
 have e7:(I9 (qt (XH m.on way)) (grpsM (MK n (qt (XH m.on way)) wo) wo [] wo.length)).length<=wo.length:=by
  unfold I9;rw[yA];exact(RW _ _ _ _).2.2.2.1
 rw[dW];generalize I9 (qt (XH m.on way)) (grpsM (MK n (qt (XH m.on way)) wo) wo [] wo.length)=ps at*;have iJ:=OP.len_;have gx:GS 3 (qh Z B O A C w) x ps.length (cellsO vs ps.length):=G5 (h:=Z) ak OP.sl (OP.sep.ap 0 x rfl);have iN:∀(j:Nat) q,ps[j]?=some q->GP (qh Z B O A C w) (vs.getD (2*j) Y2) q.1/\GI (qh Z B O A C w) (vs.getD (2*j+1) Y2) q.2:=fun j q V=>by
  obtain⟨k1,k2⟩:=OP.ge j q V;have hj:=(bH.1 V).1;have kt:=OP.len;exact⟨G5 (h:=Z) ak k1 (OP.sep.ap _ _ (gh OP QT)),G5 (h:=Z) ak k2 (OP.sep.ap _ _ (gh OP QT))⟩
 have dY:=aK.le (b6.trans b9);have iR:Le g (qh Z B O A C w):=bx.trans (bF.trans (b5.trans (aj.trans (b6.trans b9))));have aY:∀z∈p.fits++[m.K8.length],z<R.length:=fun z G=>by
  rw[ev];rcases uK.1 G with h|h
  .have:=(((I.VI p ag).fits z).1 h).1;omega
  .have:=Rb.1 h;omega
 have ew:L.length<=594:=by rw[aq,yA,hx];omega
 clear OP b9 ak b6 bb aj S8;generalize qh Z B O A C w=fb at*;simp only[Ud,Nat.reduceLT,↓reduceIte,Nat.reduceEqDiff,reduceCtorEq,iJ];refine W9.intro (fun k fr V=>∃(i:Nat) (bj:AHeap) (al:List Value) (U:Value),k=ps.length-i/\i<=ps.length/\fr=mkF [(0,.pointer (some ⟨B,0,none⟩)),(13,av),(143,x),(144,.int .i64 (ps.length:Nat)),(145,.int .i64 (i:Nat))]/\
   Cu bj V B O n (Oc n es) bv A C U bI bQ al (XH m.on way) R R (L++(ps.take i).map fun q=>⟨q.1,q.2,fg R q.2 (p.fits++[m.K8.length])⟩)/\Le fb bj)
  ps.length [(0,.pointer (some ⟨B,0,none⟩)),(13,av),(143,x),(144,.int .i64 (ps.length:Nat)),(145,.int .i64 (0:Nat))] vy
  ⟨0,fb,bV,w,rfl,KW _,rfl,by simpa using e4,Le.refl _⟩ ?_
 clear e4 ik;clear Z;rintro k fr V a6 ⟨i,bj,al,U,rfl,hi,rfl,aM,X⟩;refine yq ?_;refine DK.intro (fun ht=>?_) (fun hf=>?_)
 .have s : i < ps.length := Ub ht
  clear ht;have iT:=dR s;obtain⟨ge,gf⟩:=iN i _ iT;obtain⟨fe,ff⟩:=cr _ (om s);have aE:ps.take (i+1)=ps.take i++[ps[i]]:=QM s;generalize ps[i]=q at*;have fk:=gx.le (X.trans aM.le);obtain⟨z1,z2,z3⟩:=mG vs ps.length s;have dp:=fk.jc s z1 z2 z3;have bW:=fk.ad3 s;have cY:=ge.le X;have cc:=gf.le X;generalize vs.getD (2*i) Y2=a' at*;generalize vs.getD (2*i+1) Y2=b' at*;obtain⟨ku,iW,iZ,jb,jh,kv,oQ,kR⟩:=Hb a6 (a:=a') (b:=b') (c:=Y2) cY.pr.sl.one cc.rl.one rfl;have bm:=aM.up jh
  have dQ:∀z,InS B O A C U z->z≠V.next:=fun z G e=>by
   have:=(aM.own G).2;rw[e]at this
   exact this ((Le.refl V).next a6 (J4 _))
  have fm:bj.own V.next=none:=aM.le.next a6 (J4 _)
  generalize V.next=Q at*
  have aB:=pB Q 1 QT;have ah:=pB Q 2 QT;have aw:=Gm i (ym s (Ei QT));simp only[Ud,Nat.reduceLT,↓reduceIte,Nat.reduceEqDiff,reduceCtorEq,bW,dp,iZ,jb,aB,lP1 oQ];refine dK.intro pK ⟨KL,rfl,xr⟩ (iQ W0 B n bv _ A C U b' av R q.2 (p.fits++[m.K8.length]) iW bm.f bm.rlI ((cc.le bm.le).rl) (((dY.le X).le bm.le).rl) fe aY (vh ff aT) (by rw[Vw,SB];exact Bc dc Y E)) ?_;rintro y aQ fp ⟨ed,fq,fs⟩;have c3:=fq.own _ _ oQ;have st:=Qr (P:=Tryz.prog) (t:=49) (x:=y) Rm zd c3 (off:=2) YX ed.rl.sl.cell ed.rl.one;have aX:([a',b',Y2]:List Value).set 2 y=[a',b',y]:=rfl;rw[aX]at st;have c4:(aQ.put Q (.cells [a',b',y])).own Q=some (.cells [a',b',y]):=AHeap.zm _ _ _;have jl:WF (aQ.put Q (.cells [a',b',y])):=fp.put _ (fp.lt c3);have jn:blk y≠some Q:=fun e=>by have:=fs Q e;rw[oQ]at this;cases this
  have jv:=GS.put ed (Uw.cells [a',b',y]) jn;have ft:∀z o,z≠Q->aQ.own z=some o->(aQ.put Q (.cells [a',b',y])).own z=some o:=fun z o G ho=>by rw[AHeap.Dz _ _ _ _ G];exact ho
  have fx:=bm.up fq;have jy:Cu bj (aQ.put Q (.cells [a',b',y])) B O n (Oc n es) bv A C U bI bQ al (XH m.on way) R R (L++(ps.take i).map fun q=>⟨q.1,q.2,fg R q.2 (p.fits++[m.K8.length])⟩):=
   fx.other (fx.le.put _ fm) fun z o G ho=>ft z o (dQ z G) ho
  obtain⟨ef,cd⟩:=jy.ZW;have gy:GI (qh (aQ.put Q (.cells [a',b',y])) B O A C U) y (aW (fg R q.2 (p.fits++[m.K8.length]))):=G5 (h:=aQ.put Q (.cells [a',b',y])) bm jv fs;obtain⟨fy,kU,k3,k4,jC,jG,jH,jL,k5,fB,jM,-⟩:=ef.pushL jl (a:=a') (b:=b') (c:=y) (p:=⟨q.1,q.2,fg R q.2 (p.fits++[m.K8.length])⟩) ((cY.le cd).pr) ((cc.le cd).rl) gy.rl (app_b ew (Jh e7 dV) i);have jN:=YD c4;have fI:=YD (fB.own _ _ c4);have jP:=ef.f.le fB;simp only[Ud,Nat.reduceLT,↓reduceIte,Nat.reduceEqDiff,reduceCtorEq,ah,st];refine rD (vu [0,1,2,3,4,5] (PO 6 [5] (PO 7 [4,6] (vu [8,9] (PO 10 [0,1,2,3,4,5,6,7,9] .done))))) ?_;simp only[Ud,Nat.reduceLT,↓reduceIte,Nat.reduceEqDiff,reduceCtorEq,Nat.reduceBEq,rm,M,ef.f.l5,jP.l5,jM.l5,jN,fI,jC,jG,jH,aw];refine cX (ps.length-(i+1)) [(0,.pointer (some ⟨B,0,none⟩)),(13,av),(143,x),(144,.int .i64 (ps.length:Nat)),(145,.int .i64 (i+1:Nat))] (dN s) vy
   ⟨i+1,_,al++[a',b',y],fy,rfl,s,rfl,?_,X.trans cd⟩
  rw[aE,qy,<-Nd];exact jL
 have ad:ps.length<=i:=Yv hf;rw[xV ad]at aM;refine yq ?_;refine⟨bj,iR.trans X,aM.le,.inr ⟨_,A,C,U,bI,bQ,al,rfl,trivial,?_⟩⟩;simp only;rw[<-aq,UD];exact aM
end
end Go.Fw
