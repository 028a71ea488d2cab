/- A text. -/
import Derived.Test.YtkccdnmaaelbiaaGreatFwLJ3
set_option linter.all false
set_option maxRecDepth 99999
set_option maxHeartbeats 9999999
namespace Go.Fw
section
attribute [local instance] Classical.propDecidable
attribute [local irreducible] Kp MQ lU KO1 KO KN KX KE VK Kl ZJ TC aab
open Go.Proofs
variable {cs:List Value} {h:AHeap} {i m:Nat} {v:Value}
theorem delX_any (K:LA) (id n i cap:Nat) (c:List Value) (h:AHeap) (L:h.own id=some (.cells c)) (hl:n*3<=c.length) (E:(c.take (n*3)).all (·.oneCell')=true) (hi:i<n) (hn:n<=100000) (w:n<=cap) (F:cap<RA):
  AC Tryz.prog K 99 [.slice (some ⟨id,0,none⟩) n cap,.int .i64 (i:Int),.int .i64 ((i+1:Nat):Int)] h fun x h'=>
   ∃y,y<=cap/\x=.slice (some ⟨id,0,none⟩) y cap/\y=n-1/\∃c',(h'.own id=some (.cells c')/\(∀f,Le f h->f.own id=none->Le f h')/\∀b o,b≠id->h.own b=some o->h'.own b=some o)/\c'.take ((n-1)*3)=c.take (i*3)++((c.drop ((i+1)*3)).take ((n-(i+1))*3)):=by
 have k:¬RA<=cap:=Fk.2 F;have d:=afm;have j:=zj;have M:(0:Int)<=(i:Int):=NH;have N:(i:Int)<=((i+1:Nat):Int):=NH;have e3:((i+1:Nat):Int)<=(n:Int):=NH;have e4:(0:Int)<=((i+1:Nat):Int):=NH;have G:(0:Int)<=(n:Int):=NH;have H:(n:Int)<=(cap:Int):=NH;have e7:(i:Int)<=(cap:Int):=NH;have A:∃v,aSlice Tryz.prog 75 (.slice (some ⟨id,0,none⟩) n cap) (some (.int .i64 (i:Int))) (some (.int .i64 ((i+1:Nat):Int))) (some (.int .i64 (n:Int)))=some v:=by
  refine⟨Value.slice (if n=i then some ⟨id,0,none⟩else some ⟨id,i*3,none⟩) (i+1-i) (n-i),?_⟩
  .simp only[aSlice,d,k,if_false,w,j,Cj,and_self,if_true,aBounds,aBound,M,N,e3,e4,G,H,HV,uu,Ip,dD,XJ]
 obtain⟨v1,A⟩:=A;have O:aSlice Tryz.prog 75 (.slice (some ⟨id,0,none⟩) n cap) none (some (.int .i64 (i:Int))) none=some (.slice (some ⟨id,0,none⟩) i cap):=pn d j i NH w F
 have Q:aSlice Tryz.prog 75 (.slice (some ⟨id,0,none⟩) n cap) (some (.int .i64 ((i+1:Nat):Int))) none none=some (.slice (if cap=i+1 then some ⟨id,0,none⟩else some ⟨id,(i+1)*3,none⟩) (n-(i+1)) (cap-(i+1))):=by
  have R:((i+1:Nat):Int)<=(n:Int):=e3;simp only[aSlice,d,k,if_false,w,j,Cj,and_self,if_true,aBounds,aBound,e4,R,HV,uu,Ip,dD,XJ]
 have rd:∀e,UA Tryz.prog e=3->srcCells Tryz.prog h e (.slice (if cap=i+1 then some ⟨id,0,none⟩else some ⟨id,(i+1)*3,none⟩) (n-(i+1)) (cap-(i+1)))=some (n-(i+1),(c.drop ((i+1)*3)).take ((n-(i+1))*3)):=fun e he=>by
  by_cases q:cap=i+1
  .have z : n - (i + 1) = 0 := NH
   rw[if_pos q,z];simp[srcCells,readN]
  grind [qF,srcCells]
 have nl:((c.drop ((i+1)*3)).take ((n-(i+1))*3)).length=(n-(i+1))*3:=pw;have n1:((c.drop ((i+1)*3)).take ((n-(i+1))*3)).all (·.oneCell')=true:=by
  rw[ff]at E ⊢;intro x S;refine E x ?_;obtain⟨q,B⟩:=IE.1 S;rw[Dj]at B;split at B
  .refine Gc (i := (i + 1) * 3 + q) ?_
   grind
  .cases B
 have app:∃c1 l,(l.own id=some (.cells c1)/\(∀f,Le f h->f.own id=none->Le f l)/\∀b o,b≠id->h.own b=some o->l.own b=some o)/\aAppend Tryz.prog h 75 75 (.slice (some ⟨id,0,none⟩) i cap) (.slice (if cap=i+1 then some ⟨id,0,none⟩else some ⟨id,(i+1)*3,none⟩) (n-(i+1)) (cap-(i+1)))=some (.slice (some ⟨id,0,none⟩) (n-1) cap,l)/\c1.length=c.length/\
   c1.take ((n-1)*3)=c.take (i*3)++((c.drop ((i+1)*3)).take ((n-(i+1))*3)):=by
  have u:azero Tryz.prog 125=some (.agg #[rW,rW,rW]):=Ji;have I:(Value.agg #[rW,rW,rW]).cells.size=UA Tryz.prog 125/\(Value.agg #[rW,rW,rW]).cells.toList.all (·.oneCell')=true:=⟨by kernel_rfl,by kernel_rfl⟩;have hs:=rd 125 dD;have T:Tryz.prog.bytesOf 125<=1000:=by decide
  have U:(i+(n-(i+1)))*Tryz.prog.bytesOf 125<=140737488355328:=Hs (KV (show i+(n-(i+1))<=100000 by omega) T) WY;have V:i+(n-(i+1))<=140737488355328:=NH;have J:(Value.agg #[rW,rW,rW]).cells.size=UA Tryz.prog 125/\(Value.agg #[rW,rW,rW]).cells.toList.all (·.oneCell')/\(Tryz.prog.underlying 125).isSome/\notIntD (.slice 125)/\((c.drop ((i+1)*3)).take ((n-(i+1))*3)).all (·.oneCell')/\(i+(n-(i+1)))*Tryz.prog.bytesOf 125<=140737488355328/\i+(n-(i+1))<=140737488355328/\((c.drop ((i+1)*3)).take ((n-(i+1))*3)).length=(n-(i+1))*UA Tryz.prog 125:=
   ⟨I.1,I.2,by rfl,rfl,n1,U,V,by grind [dD]⟩
  by_cases W:n-(i+1)=0
  .refine ⟨c, h, pw, ?_, rfl, ?_⟩
   .simp only [aAppend, d, u, hs]
    grind
   .rw [W]
    grind
  .have room : i * 3 + ((c.drop ((i + 1) * 3)).take ((n - (i + 1)) * 3)).length <= c.length := pw
   refine⟨putCells c (i*3) ((c.drop ((i+1)*3)).take ((n-(i+1))*3)),_,⟨AHeap.Y3 _ _ _,fun f X hf=>X.put _ hf,fun b o hb L=>by grind [AHeap.By]⟩,?_,O7 _ _ _,?_⟩
   .simp only [aAppend, d, u, hs]
    grind [dD]
   .rw[IW _ _ _ room,gX pw,yM pw]
 obtain⟨c1,l,⟨Y,Z,aa⟩,app,ae,C⟩:=app;have S4:aSlice Tryz.prog 75 (.slice (some ⟨id,0,none⟩) (n-1) cap) (some (.int .i64 ((n-1:Nat):Int))) (some (.int .i64 (n:Int))) none=some (.slice (some ⟨id,(n-1)*3,none⟩) 1 (cap-(n-1))):=by
  have a1:((n-1:Nat):Int)<=(n:Int):=NH;have a2:(0:Int)<=((n-1:Nat):Int):=NH;have a3:n-1<=cap:=NH;have a4:¬cap=n-1:=NH;have a5:n-(n-1)=1:=NH;simp only[aSlice,d,k,if_false,a3,j,Cj,and_self,if_true,aBounds,aBound,G,H,a1,a2,HV,a4,a5,uu,Ip,dD,XJ]
 have p:∃c2,aClear Tryz.prog l 75 (.slice (some ⟨id,(n-1)*3,none⟩) 1 (cap-(n-1)))=some (.tuple #[],l.put id (.cells c2))/\c2.take ((n-1)*3)=c1.take ((n-1)*3):=by
  have u:azero Tryz.prog 125=some (.agg #[rW,rW,rW]):=Ji;have ag:(Value.agg #[rW,rW,rW]).cells=#[rW,rW,rW]:=Ji;have zr:zrow (Value.agg #[rW,rW,rW]).cells.toList 1=[rW,rW,rW]:=Ji;refine⟨putCells c1 ((n-1)*3) [rW,rW,rW],?_,?_⟩
  .have r : (n - 1) * 3 + 1 * (Value.agg #[rW, rW, rW]).cells.size <= c1.length := pw
   have fl:(Value.agg #[rW,rW,rW]).cells.toList.all flat=true:=Ji;simp only[aClear,d,u,Y,fl,r,decide_true,Bool.and_self,cond_true,zr];rfl
  grind [IW]
 obtain⟨c2,p,D⟩:=p;refine AC.vE ⟨Tryz.func99,rfl,WY⟩ Tryz.ntmps99 Tryz.results99 fun aj=>?_;simp only[Br,Nat.reduceAdd];have s:=fun m g=>Jg (P:=Tryz.prog) (t:=75) (a:=some ⟨id,0,none⟩) (n:=m) (cap:=cap) d g;have d1:decide ((i:Int)=((i+1:Nat):Int))=false:=decide_eq_false NH;refine Sk (xU s A @lW d1) ?_;refine gh (tA [0,1,2,3,4,5] (JQ 6 [2,5] (JQ 7 [0,1,2,3,4,5,6] .done))) ?_;simp only[HO,Nat.reduceLT,↓reduceIte,Nat.reduceEqDiff,reduceCtorEq,Nat.reduceBEq,Qg,O,Q,app,s,S4,p];exact⟨n-1,NH,rfl,rfl,c2,(by grind [AHeap.Y3,Le.put,AHeap.By]),by rw[D,C]⟩
theorem afs (q:LA) (g:GS 3 h v m cs) (d:cu v) (z:cs.all (·.oneCell')=true) (hi:i<m) (k:m<=100000):
  AC Tryz.prog q 99 [v,.int .i64 (i:Int),.int .i64 ((i+1:Nat):Int)] h fun x h'=>
   GS 3 h' x (m-1) (cs.take (i*3)++cs.drop ((i+1)*3))/\cu x/\blk x=blk v/\(∀f,Le f h->Z2 f v->Le f h')/\∀b o,h.own b=some o->blk v≠some b->h'.own b=some o:=by
 obtain⟨A,⟨rfl,B⟩|⟨id,c,cap,rfl,s,C,l⟩⟩:=g
 .omega
 have j:cap=RA+3:=by
  rcases l with l|⟨rfl,k⟩
  .exact l
  .rcases d with d | ⟨a, n, c', d, r⟩
   all_goals grind [RA]
 subst j;have p:m*3<=c.length:=pw;refine(AC.exact (Q:=fun n h'=>n=m-1/\∃c',(h'.own id=some (.cells c')/\(∀f,Le f h->f.own id=none->Le f h')/\∀b o,b≠id->h.own b=some o->h'.own b=some o)/\c'.take ((m-1)*3)=c.take (i*3)++((c.drop ((i+1)*3)).take ((m-(i+1))*3))) NH fun cap h2 h3=>delX_any q id m i cap c h s p pw hi k h2 h3).mono ?_;rintro x h' ⟨n,rfl,rfl,c',⟨D,fr,t⟩,ct⟩;have u:c.take (i*3)=cs.take (i*3):=pw;have w:(c.drop ((i+1)*3)).take ((m-(i+1))*3)=cs.drop ((i+1)*3):=by grind [List.drop_take]
 rw[u,w]at ct;refine⟨⟨?_,(by grind [RA])⟩,.inr pw,rfl,fun f y af=>fr f y (af id rfl),fun b o hb k=>t b o (fun e=>k (by rw[e];rfl)) hb⟩
 grind
end
end Go.Fw
namespace Go.Fw
open Go.Proofs
attribute [local instance] Classical.propDecidable
structure lx (g h:AHeap) (B O n:Nat) (rows:AM) (bv fv iv lv:Value) (us ws cs:List Value) (on:List Bool) (F1 F2:Cs) (left:List wW):Prop where
 f:Sr h B n bv (.slice (some ⟨O,0,none⟩) n n) fv iv lv
 oO:h.own O=some (.cells (Bo on))
 ZA:on.length=n
 gF:GS 1 h fv us.length us
 uL:us.length=F1.length
 u1:us.all (·.oneCell')=true
 gI:GS 1 h iv ws.length ws
 wL:ws.length=F2.length
 w1:ws.all (·.oneCell')=true
 gL:GS 3 h lv left.length cs
 cuL:cu lv
 c1:cs.all (·.oneCell')=true
 sep:Sep g h [fv,iv,lv]
 gB:g.own B=none
 gO:g.own O=none
 bO:B≠O
 nb:∀u∈[fv,iv,lv],blk u≠some B/\blk u≠some O
 cF:∀(i:Nat) u f,us[i]?=some u->F1[i]?=some f->RL RP g u (kz f)
 cI:∀(i:Nat) w f,ws[i]?=some w->F2[i]?=some f->RL sJ g w (eJ n f)
 cL:∀(i:Nat) p,left[i]?=some p->∃a b c,cs[i*3]?=some a/\cs[i*3+1]?=some b/\cs[i*3+2]?=some c/\PR g a p.zp/\RL RP g b p.Fm/\RL RP g c (kz p.fits)
 cB:RL (RL RP) g bv rows
def InS (B O:Nat) (fv iv lv:Value) (b:Nat):Prop:=b=B\/b=O\/∃u∈[fv,iv,lv],blk u=some b
section
variable {g h : AHeap} {B O n : Nat} {rows : List (List Int)} {bv fv iv lv : Value} {us ws cs : List Value} {on : List Bool} {F1 F2 : List (List Nat)} {left : List wW}
theorem lx.le (S:lx g h B O n rows bv fv iv lv us ws cs on F1 F2 left):Le g h:=S.sep.le
theorem lx.own (S:lx g h B O n rows bv fv iv lv us ws cs on F1 F2 left) {b:Nat} (hb:InS B O fv iv lv b):g.own b=none/\h.own b≠none:=by
 rcases hb with rfl|rfl|⟨u,a,hb⟩
 .exact⟨S.gB,by rw[S.f.o];simp⟩
 .exact⟨S.gO,by rw[S.oO];simp⟩
 .obtain ⟨i, hi⟩ := IE.1 a
  exact⟨S.sep.ap i u hi b hb,S.sep.own i u b hi hb⟩
theorem lx.ground (S:lx g h B O n rows bv fv iv lv us ws cs on F1 F2 left) {a:AHeap} (l:Le g a) (l2:Le a h) (c:∀b,InS B O fv iv lv b->a.own b=none):lx a h B O n rows bv fv iv lv us ws cs on F1 F2 left:=
 {S with
  sep:=⟨S.sep.TE,S.sep.own,fun i u e b hb=>c b (.inr (by grind [List.mem_of_getElem?])),l2⟩
  gB:=c B (.inl rfl),gO:=c O (.inr (.inl rfl))
  cF:=fun i u f d h2=>(S.cF i u f d h2).le Nn.RP l
  cI:=fun i u f d h2=>(S.cI i u f d h2).le Nn.sJ l
  cL:=by grind [lx.cL,PR.le,RL.le,Nn.RP]
  cB:=S.cB.le (Nn.RL Nn.RP) l}
theorem lx.up (S:lx g h B O n rows bv fv iv lv us ws cs on F1 F2 left) {h':AHeap} (l:Le h h'):lx g h' B O n rows bv fv iv lv us ws cs on F1 F2 left:=
 {S with f:=S.f.le l,oO:=l.own _ _ S.oO,gF:=S.gF.le l,gI:=S.gI.le l,gL:=S.gL.le l,sep:=S.sep.up l}
def Hg (h:AHeap) (B O:Nat) (fv iv lv:Value):AHeap:=rem (B::O::(bl fv++bl iv++bl lv)) h
theorem HX {B O:Nat} {fv iv lv:Value} {b:Nat}:b∈B::O::(bl fv++bl iv++bl lv)↔InS B O fv iv lv b:=by grind [InS,Zr]
theorem lx.pV (S:lx g h B O n rows bv fv iv lv us ws cs on F1 F2 left):lx (Hg h B O fv iv lv) h B O n rows bv fv iv lv us ws cs on F1 F2 left/\Le g (Hg h B O fv iv lv):=by
 have l:Le g (Hg h B O fv iv lv):=S.le.iV fun b hb=>(S.own (HX.1 hb)).1
 grind [lx.ground,Sa,Hg,DC,HX]
def Pv {k m:Nat} {u:Value} {xs:List Value} {a:AHeap} (S:lx g a B O n rows bv fv iv lv us ws cs on F1 F2 left) (q:GS k h u m xs) (ha:Z2 a u):GS k (Hg h B O fv iv lv) u m xs:=by
 refine GS.Fi q fun b hb c=>?_;exact(S.own (HX.1 c)).2 (ha b hb)
def lx.stF {t:TypeId} {d:TypeDesc} (S:Sr h B n bv (.slice (some ⟨O,0,none⟩) n n) fv iv lv) (b:Tryz.prog.underlying t=some d) (hs:UA Tryz.prog t=1) {k:Nat} (c:k<6) {x:Value} {m:Nat} (a:xO x m):
  aStore Tryz.prog h t (.pointer (some ⟨B,k,none⟩)) x=some (h.put B (.cells (([.int .i64 n,bv,.slice (some ⟨O,0,none⟩) n n,fv,iv,lv]:List Value).set k x))):=
 QB b hs S.o (by simpa using c) a.cell a.one
def sep3 {a b c a':Value} (S:Sep g h [a,b,c]) {h':AHeap} (hf:∀f,Le f h->Z2 f a->Le f h'/\Z2 f a') (d:∀b o,h.own b=some o->blk a≠some b->h'.own b=some o/\blk a'≠some b) (e:∀b,blk a'=some b->h'.own b≠none):Sep g h' [a',b,c]:=S.app (i:=0) rfl hf d e
def sep3b {a b c a':Value} (S:Sep g h [a,b,c]) {h':AHeap} (hf:∀f,Le f h->Z2 f b->Le f h'/\Z2 f a') (d:∀x o,h.own x=some o->blk b≠some x->h'.own x=some o/\blk a'≠some x) (e:∀b,blk a'=some b->h'.own b≠none):Sep g h' [a,a',c]:=S.app (i:=1) rfl hf d e
def sep3c {a b c a':Value} (S:Sep g h [a,b,c]) {h':AHeap} (hf:∀f,Le f h->Z2 f c->Le f h'/\Z2 f a') (d:∀x o,h.own x=some o->blk c≠some x->h'.own x=some o/\blk a'≠some x) (e:∀b,blk a'=some b->h'.own b≠none):Sep g h' [a,b,a']:=S.app (i:=2) rfl hf d e
theorem Sep.put (S:Sep g h us) {b:Nat} (o:fK) (hb:g.own b=none):Sep g (h.put b o) us:=
 (by grind [Sep.kept,Sep.le,Le.put,AHeap.Y3,AHeap.By])
theorem lx.pushF (S:lx g h B O n rows bv fv iv lv us ws cs on F1 F2 left) (p:WF h) {u:Value} {f:II} (D:RL RP g u (kz f)) (M:F1.length<=100000):
  ∃a e d r,h.alloc (.cells [u])=e/\aAppend Tryz.prog e 27 27 fv (.slice (some ⟨h.next,0,none⟩) 1 1)=some (a,d)/\aStore Tryz.prog d 27 (.pointer (some ⟨B,3,none⟩)) a=some r/\
   lx g r B O n rows bv a iv lv (us++[u]) ws cs on (F1++[f]) F2 left/\WF r/\Le h e/\Sr d B n bv (.slice (some ⟨O,0,none⟩) n n) fv iv lv:=by
 obtain⟨e,e4,l4,z,E⟩:=Tt p [u];have j:=S.up l4;obtain⟨a,d,A,F,G⟩:=GS.push (P:=Tryz.prog) (t:=27) Ji j.gF E S.u1 D.one (by rw[S.uL];omega);have C:=xr z A;have s:=fun f H af=>G f z H af;have m:∀b o,e.own b=some o->blk fv≠some b->d.own b=some o/\blk a≠some b:=by grind [aG]
 obtain⟨l,I⟩:=m B _ j.f.o (S.nb fv Ma).1;obtain⟨J,K⟩:=m O _ j.oO (by grind [lx.nb]);have v:xO a (us.length+1):=by have:=F.cs.sl;exact this
 have st:=lx.stF (h:=d) ⟨l⟩ (t:=27) yU Ji (k:=3) NH v;have x:=sep3 j.sep s m (by grind [GS.Sy]);have TE:=j.sep.TE;have kI:∀b o,blk iv=some b->e.own b=some o->d.own b=some o:=fun b o hb y=>(m b o y (TE 1 0 iv fv b NH rfl rfl hb)).1;have kL:∀b o,blk lv=some b->e.own b=some o->d.own b=some o:=fun b o hb y=>(m b o y (TE 2 0 lv fv b NH rfl rfl hb)).1;have L:=S.nb iv Ma;have nL:=S.nb lv Ma;refine⟨a,e,d,_,e4,A,st,?_,C.put _ (C.lt l),l4,⟨l⟩⟩;exact{S with
  f:=⟨AHeap.Y3 _ _ _⟩
  oO:=by grind [AHeap.By,lx.bO]
  gF:=by grind [GS.put]
  uL:=by simp[S.uL]
  u1:=by grind [lx.u1,RL.one]
  gI:=GS.put (GS.kept j.gI kI) _ L.1
  gL:=GS.put (GS.kept j.gL kL) _ nL.1
  sep:=x.put _ S.gB
  nb:=pw
  cF:=fun i w q hw N=>by
   by_cases c:i<us.length
   .grind [lx.uL,lx.cF]
   grind [List.length_append,List.length_singleton,lx.uL]}
theorem lx.pushI (S:lx g h B O n rows bv fv iv lv us ws cs on F1 F2 left) (p:WF h) {u:Value} {f:II} (D:RL sJ g u (eJ n f)) (M:F2.length<=100000):
  ∃a e d r,h.alloc (.cells [u])=e/\aAppend Tryz.prog e 74 74 iv (.slice (some ⟨h.next,0,none⟩) 1 1)=some (a,d)/\aStore Tryz.prog d 74 (.pointer (some ⟨B,4,none⟩)) a=some r/\
   lx g r B O n rows bv fv a lv us (ws++[u]) cs on F1 (F2++[f]) left/\WF r/\Le h e/\Sr d B n bv (.slice (some ⟨O,0,none⟩) n n) fv iv lv:=by
 obtain⟨e,e4,l4,z,E⟩:=Tt p [u];have j:=S.up l4;obtain⟨a,d,A,F,G⟩:=GS.push (P:=Tryz.prog) (t:=74) Ji j.gI E S.w1 D.one (by rw[S.wL];omega);have C:=xr z A;have s:=fun f H af=>G f z H af;have m:∀b o,e.own b=some o->blk iv≠some b->d.own b=some o/\blk a≠some b:=by grind [aG]
 obtain⟨l,I⟩:=m B _ j.f.o (S.nb iv Ma).1;obtain⟨J,K⟩:=m O _ j.oO (by grind [lx.nb]);have v:xO a (ws.length+1):=by have:=F.cs.sl;exact this
 have st:=lx.stF (h:=d) ⟨l⟩ (t:=74) qS25 Ji (k:=4) NH v;have x:=sep3b j.sep s m (by grind [GS.Sy]);have TE:=j.sep.TE;have kF:∀b o,blk fv=some b->e.own b=some o->d.own b=some o:=fun b o hb y=>(m b o y (TE 0 1 fv iv b NH rfl rfl hb)).1;have kL:∀b o,blk lv=some b->e.own b=some o->d.own b=some o:=fun b o hb y=>(m b o y (TE 2 1 lv iv b NH rfl rfl hb)).1;have L:=S.nb fv Ma;have nL:=S.nb lv Ma;refine⟨a,e,d,_,e4,A,st,?_,C.put _ (C.lt l),l4,⟨l⟩⟩;exact{S with
  f:=⟨AHeap.Y3 _ _ _⟩
  oO:=by grind [AHeap.By,lx.bO]
  gI:=by grind [GS.put]
  wL:=by simp[S.wL]
  w1:=by grind [lx.w1,RL.one]
  gF:=GS.put (GS.kept j.gF kF) _ L.1
  gL:=GS.put (GS.kept j.gL kL) _ nL.1
  sep:=x.put _ S.gB
  nb:=pw
  cI:=fun i w q hw N=>by
   by_cases c:i<ws.length
   .grind [lx.wL,lx.cI]
   grind [List.length_append,List.length_singleton,lx.wL]}
theorem lx.setF (S:lx g h B O n rows bv fv iv lv us ws cs on F1 F2 left) (c:WF h) {u:Value} {f:II} (k:RL RP g u (kz f)) {i:Nat} (hi:i<F1.length):
  ∃h',aStore Tryz.prog h 49 (.pointer (some (elemAddr fv i))) u=some h'/\lx g h' B O n rows bv fv iv lv (us.set i u) ws cs on (F1.set i f) F2 left/\WF h':=by
 have m:i<us.length:=by grind [lx.uL]
 obtain⟨h',e,p,w',fr,a⟩:=GS.stor S.gF c (t:=49) (x:=u) Ac Ji (i:=i) NH k.sl.cell k.one;have TE:=S.sep.TE;have l:=S.nb fv Ma;refine⟨h',e,?_,w'⟩;exact{S with
  f:=⟨a _ _ S.f.o l.1⟩
  oO:=a _ _ S.oO l.2
  gF:=pw
  uL:=by simp[S.uL]
  u1:=by
   rw[ff];intro x d;rcases xP d with d|rfl
   .exact ff.1 S.u1 x d
   grind [RL.one]
  gI:=GS.kept S.gI fun b o hb j=>a b o j (TE 1 0 iv fv b NH rfl rfl hb)
  gL:=GS.kept S.gL fun b o hb j=>a b o j (TE 2 0 lv fv b NH rfl rfl hb)
  sep:=S.sep.kept (fr g S.le (S.sep.ap 0 fv rfl)) (by grind [GS.Sy])
  cF:=by grind [lx.cF]}
theorem lx.setI (S:lx g h B O n rows bv fv iv lv us ws cs on F1 F2 left) (c:WF h) {u:Value} {f:II} (k:RL sJ g u (eJ n f)) {i:Nat} (hi:i<F2.length):
  ∃h',aStore Tryz.prog h 59 (.pointer (some (elemAddr iv i))) u=some h'/\lx g h' B O n rows bv fv iv lv us (ws.set i u) cs on F1 (F2.set i f) left/\WF h':=by
 have m:i<ws.length:=by grind [lx.wL]
 obtain⟨h',e,p,w',fr,a⟩:=GS.stor S.gI c (t:=59) (x:=u) eY Ji (i:=i) NH k.sl.cell k.one;have TE:=S.sep.TE;have l:=S.nb iv Ma;refine⟨h',e,?_,w'⟩;exact{S with
  f:=⟨a _ _ S.f.o l.1⟩
  oO:=a _ _ S.oO l.2
  gI:=pw
  wL:=by simp[S.wL]
  w1:=by
   rw[ff];intro x d;rcases xP d with d|rfl
   .exact ff.1 S.w1 x d
   grind [RL.one]
  gF:=GS.kept S.gF fun b o hb j=>a b o j (TE 0 1 fv iv b NH rfl rfl hb)
  gL:=GS.kept S.gL fun b o hb j=>a b o j (TE 2 1 lv iv b NH rfl rfl hb)
  sep:=S.sep.kept (fr g S.le (S.sep.ap 1 iv rfl)) (by grind [GS.Sy])
  cI:=by grind [lx.cI]}
theorem lx.setO (S:lx g h B O n rows bv fv iv lv us ws cs on F1 F2 left) (a:WF h) {v:Nat} (b:v<n):
  ∃h',aStore Tryz.prog h 4 (.pointer (some ⟨O,v,none⟩)) (.bool true)=some h'/\lx g h' B O n rows bv fv iv lv us ws cs (on.set v true) F1 F2 left/\WF h':=by
 have st:aStore Tryz.prog h 4 (.pointer (some ⟨O,v,none⟩)) (.bool true)=some (h.put O (.cells (Bo (on.set v true)))):=by rw[QB (P:=Tryz.prog) (t:=4) (x:=.bool true) AV Ji S.oO (off:=v) (by rw[O2,S.ZA];exact b) rfl rfl,Tr]
 have c:=S.nb fv Ma;have d:=S.nb iv Ma;have nL:=S.nb lv Ma;refine⟨_,st,?_,a.put _ (a.lt S.oO)⟩;exact{S with
  f:=⟨by grind [AHeap.By,lx.bO,Sr.o,lx.f]⟩
  oO:=AHeap.Y3 _ _ _
  ZA:=by grind [lx.ZA]
  gF:=GS.put S.gF _ c.2
  gI:=GS.put S.gI _ d.2
  gL:=GS.put S.gL _ nL.2
  sep:=S.sep.put _ S.gO}
end
end Go.Fw
namespace Go.Fw
open Go.Proofs
attribute [local irreducible] Kp MQ lU KO1 KO KN KX KE VK Kl ZJ TC aab
attribute [local instance] Classical.propDecidable
section
variable {g h : AHeap} {B O n : Nat} {rows : List (List Int)} {bv fv iv lv : Value} {us ws cs : List Value} {on : List Bool} {F1 F2 : List (List Nat)} {left : List wW}
theorem get3 {cs:List Value} {k r j q:Nat} (a:r<3) (b:q<3) {x:Value} (c:k*3+r<cs.length):(cs.set (k*3+r) x)[j*3+q]?=if k=j/\r=q then some x else cs[j*3+q]?:=pw
theorem lx.setT (S:lx g h B O n rows bv fv iv lv us ws cs on F1 F2 left) (s:WF h) {i:Nat} (hi:i<left.length) {u:Value} {fits:II} (y:RL RP g u (kz fits)):
  ∃h',aStore Tryz.prog h 49 (.pointer (some (elemAddr lv (i*3+2)))) u=some h'/\lx g h' B O n rows bv fv iv lv us ws (cs.set (i*3+2) u) on F1 F2 (left.set i {left[i]with fits:=fits})/\WF h':=by
 have z:=S.gL.1;obtain⟨h',e,I,w',fr,l⟩:=GS.stor S.gL s (t:=49) (x:=u) Ac Ji (i:=i*3+2) NH y.sl.cell y.one;have TE:=S.sep.TE;have nL:=S.nb lv Ma;refine⟨h',e,?_,w'⟩;exact{S with
  f:=⟨l _ _ S.f.o nL.1⟩
  oO:=l _ _ S.oO nL.2
  gL:=pw
  c1:=by
   rw[ff];intro x v;rcases xP v with v|rfl
   .exact ff.1 S.c1 x v
   grind [RL.one]
  gF:=GS.kept S.gF fun b o hb m=>l b o m (TE 0 2 fv lv b NH rfl rfl hb)
  gI:=GS.kept S.gI fun b o hb m=>l b o m (TE 1 2 iv lv b NH rfl rfl hb)
  sep:=S.sep.kept (fr g S.le (S.sep.ap 2 lv rfl)) fun b o m=>by grind [GS.Sy]
  cL:=fun j p d=>by
   have w:i*3+2<cs.length:=NH;have A:=get3 (cs:=cs) (k:=i) (r:=2) (j:=j) (q:=0) (x:=u) NH NH w;have C:=get3 (cs:=cs) (k:=i) (r:=2) (j:=j) (q:=1) (x:=u) NH NH w;have D:=get3 (cs:=cs) (k:=i) (r:=2) (j:=j) (q:=2) (x:=u) NH NH w;rw[if_neg NH]at A C;rw[fj]at d;by_cases c:i=j
   .subst c
    simp only[if_true,hi]at d;injection d with d;subst d;obtain⟨a,b,c,E,F,G,H,J,K⟩:=S.cL i _ (BS hi)
    grind
   .rw [if_neg c] at d
    rw[if_neg (fun q=>c q.1)]at D;obtain⟨a,b,c,E,F,G,H⟩:=S.cL j p d
    grind}
def mkPcV (h:AHeap) {a b c:Value} {m1 m2 m3:Nat} (ha:xO a m1) (hb:xO b m2) (d:xO c m3):aBuildSlice Tryz.prog h 75 1 [(0,.agg #[a,b,c])]=some (.slice (some ⟨h.next,0,none⟩) 1 1,h.alloc (.cells [a,b,c])):=by
 obtain⟨_,_,rfl,_⟩:=ha;obtain⟨_,_,rfl,_⟩:=hb;obtain⟨_,_,rfl,_⟩:=d;rfl
theorem lx.pushL (S:lx g h B O n rows bv fv iv lv us ws cs on F1 F2 left) (z:WF h) {a b c:Value} {p:wW} (ha:PR g a p.zp) (hb:RL RP g b p.Fm) (A:RL RP g c (kz p.fits)) (Y:left.length<=100000):
  ∃d l i C,aBuildSlice Tryz.prog h 75 1 [(0,.agg #[a,b,c])]=some (.slice (some ⟨h.next,0,none⟩) 1 1,l)/\aAppend Tryz.prog l 75 75 lv (.slice (some ⟨h.next,0,none⟩) 1 1)=some (d,i)/\aStore Tryz.prog i 75 (.pointer (some ⟨B,5,none⟩)) d=some C/\
   lx g C B O n rows bv fv iv d us ws (cs++[a,b,c]) on F1 F2 (left++[p])/\WF C/\Le h l/\Sr i B n bv (.slice (some ⟨O,0,none⟩) n n) fv iv lv/\Le g i:=by
 obtain⟨l,e4,l4,D,J⟩:=Tt z [a,b,c];have mk:=mkPcV h ha.sl hb.sl A.sl;rw[e4]at mk;have m:=S.up l4;have K:([a,b,c]:List Value).all (·.oneCell')=true:=by simp[ha.sl.one,hb.one,A.one]
 have hs:∀e,UA Tryz.prog e=3->srcCells Tryz.prog l e (.slice (some ⟨h.next,0,none⟩) 1 1)=some (1,[a,b,c]):=fun e L=>
  CS.src L (CS.own (k:=3) (off:=0) (n:=1) (cap:=1) J Ma)
 obtain⟨d,i,E,G,H⟩:=GS.append (P:=Tryz.prog) (t:=75) (xt:=75) (k:=3) Ji m.gL hs m.c1 K rfl NH;have I:=xr D E;have F:=fun f M af=>H f D M af;have v:∀b o,l.own b=some o->blk lv≠some b->i.own b=some o/\blk d≠some b:=fun b o w hb=>aG H D w hb;obtain⟨r,N⟩:=v B _ m.f.o (S.nb lv Ma).1;obtain⟨Q,R⟩:=v O _ m.oO (S.nb lv Ma).2;have st:=lx.stF (h:=i) ⟨r⟩ (t:=75) afm Ji (k:=5) NH G.cs.sl;have y:=sep3c m.sep F v (fun b hb=>GS.Sy G hb);have TE:=m.sep.TE;have kF:∀b o,blk fv=some b->l.own b=some o->i.own b=some o:=fun b o hb w=>(v b o w (TE 0 2 fv lv b NH rfl rfl hb)).1;have kI:∀b o,blk iv=some b->l.own b=some o->i.own b=some o:=fun b o hb w=>(v b o w (TE 1 2 iv lv b NH rfl rfl hb)).1;have T:=S.nb fv Ma;have U:=S.nb iv Ma;refine⟨d,l,i,_,mk,E,st,?_,I.put _ (I.lt r),l4,⟨r⟩,y.le⟩;exact{S with
  f:=⟨AHeap.Y3 _ _ _⟩
  oO:=by grind [AHeap.By,lx.bO]
  gL:=by grind [List.length_singleton,GS.put]
  cuL:=uZ E S.cuL
  c1:=by grind [lx.c1]
  gF:=GS.put (GS.kept m.gF kF) _ T.1
  gI:=GS.put (GS.kept m.gI kI) _ U.1
  sep:=y.put _ S.gB
  nb:=fun x Z=>by grind
  cL:=fun j q u=>by
   have s:cs.length=left.length*3:=S.gL.1;by_cases c:j<left.length
   .rw [Eh c] at u
    obtain⟨a',V,c',q1,q2,q3,W⟩:=S.cL j q u;refine⟨a',V,c',?_,?_,?_,W⟩
    .grind
    .grind
    grind
   .have hi := (Ny.1 u).1
    rw[j9,QD]at hi;have X:j=left.length:=NH;subst X;rw[vZ (qL0 _),Q4]at u;simp at u;subst u;refine⟨a,b,_,?_,?_,?_,ha,hb,A⟩
    .rw[vZ NH,s,Q4];rfl
    .rw[vZ NH,s,adE];rfl
    .rw[vZ NH,s,adE];rfl}
theorem lx.delL (S:lx g h B O n rows bv fv iv lv us ws cs on F1 F2 left) {e:AHeap} (w1:WF e) {a:Value} {i:Nat} (hi:i<left.length) (gd:GS 3 e a (left.length-1) (cs.take (i*3)++cs.drop ((i+1)*3))) (C:cu a) (H:blk a=blk lv)
  (fr:∀f,Le f h->Z2 f lv->Le f e) (v:∀b o,h.own b=some o->blk lv≠some b->e.own b=some o):
  ∃h2,aStore Tryz.prog e 75 (.pointer (some ⟨B,5,none⟩)) a=some h2/\lx g h2 B O n rows bv fv iv a us ws (cs.take (i*3)++cs.drop ((i+1)*3)) on F1 F2 (left.eraseIdx i)/\WF h2:=by
 have I:=S.nb fv Ma;have J:=S.nb iv Ma;have nL:=S.nb lv Ma;have TE:=S.sep.TE;have r:=v _ _ S.f.o nL.1;have K:=v _ _ S.oO nL.2;have st:=lx.stF (h:=e) ⟨r⟩ (t:=75) afm Ji (k:=5) NH gd.cs.sl;have kF:∀b o,blk fv=some b->h.own b=some o->e.own b=some o:=fun b o hb y=>v b o y (TE 0 2 fv lv b NH rfl rfl hb);have kI:∀b o,blk iv=some b->h.own b=some o->e.own b=some o:=fun b o hb y=>v b o y (TE 1 2 iv lv b NH rfl rfl hb);have L:=fr g S.le (S.sep.ap 2 lv rfl);have D:Sep g e [fv,iv,a]:=by
  have key:∀(i:Nat) u,([fv,iv,a]:List Value)[i]?=some u->∃l,([fv,iv,lv]:List Value)[i]?=some l/\blk u=blk l:=fun i u d=>by
   match i,d with
   |0,d=>grind
   |1,d=>grind
   |2,d=>grind
   |i+3,d=>simp at d
  refine⟨fun i j u w b E d hw hb=>?_,fun i u b d hb=>?_,fun i u d b hb=>?_,L⟩
  .obtain ⟨l, m, p⟩ := key i u d
   obtain⟨M,z,s⟩:=key j w hw;rw[s];exact TE i j l M b E m z pw
  .obtain ⟨l, m, p⟩ := key i u d
   rw[p]at hb;by_cases c:blk lv=some b
   .grind [GS.Sy]
   .obtain ⟨o, y⟩ := Db.1 (S.sep.own i l b m hb)
    grind
  .obtain ⟨l, m, p⟩ := key i u d
   exact S.sep.ap i l m b pw
 have N:(left.eraseIdx i).length=left.length-1:=pw;refine⟨_,st,?_,w1.put _ (w1.lt r)⟩;exact{S with
  f:=⟨AHeap.Y3 _ _ _⟩
  oO:=by grind [AHeap.By,lx.bO]
  gL:=by grind [GS.put]
  cuL:=C
  c1:=by
   rw[ff];intro x P;refine ff.1 S.c1 x ?_
   grind
  gF:=GS.put (GS.kept S.gF kF) _ I.1
  gI:=GS.put (GS.kept S.gI kI) _ J.1
  sep:=D.put _ S.gB
  nb:=fun x P=>by grind
  cL:=fun j q A=>by
   have Q:cs.length=left.length*3:=S.gL.1;have F:(cs.take (i*3)).length=i*3:=pw;rw[List.getElem?_eraseIdx]at A;split at A
   .rename_i c
    obtain⟨a',G,c',m,p,z,s⟩:=S.cL j q A;refine⟨a',G,c',?_,?_,?_,s⟩
    .grind
    .grind
    grind
   .rename_i c
    obtain⟨a',G,c',m,p,z,s⟩:=S.cL (j+1) q A;refine⟨a',G,c',?_,?_,?_,s⟩
    .rw[vZ NH,F,abZ,show(i+1)*3+(j*3-i*3)=(j+1)*3 by omega];exact m
    .rw[vZ NH,F,abZ,show(i+1)*3+(j*3+1-i*3)=(j+1)*3+1 by omega];exact p
    .rw[vZ NH,F,abZ,show(i+1)*3+(j*3+2-i*3)=(j+1)*3+2 by omega];exact z}
end
def bldF (h:AHeap) {u:Value} {m:Nat} (a:xO u m):aBuildSlice Tryz.prog h 27 1 [(0,u)]=some (.slice (some ⟨h.next,0,none⟩) 1 1,h.alloc (.cells [u])):=by
 obtain⟨_,_,rfl,_⟩:=a;rfl
def bldI (h:AHeap) {u:Value} {m:Nat} (a:xO u m):aBuildSlice Tryz.prog h 74 1 [(0,u)]=some (.slice (some ⟨h.next,0,none⟩) 1 1,h.alloc (.cells [u])):=by
 obtain⟨_,_,rfl,_⟩:=a;rfl
def sB (B k:Nat) (a:k<6):aField Tryz.prog 77 (.pointer (some ⟨B,0,none⟩)) k=some (.pointer (some ⟨B,k,none⟩)):=by
 match k,a with
 |0,_=>rfl
 |1,_=>rfl
 |2,_=>rfl
 |3,_=>rfl
 |4,_=>rfl
 |5,_=>rfl
theorem IU (r:LA) {g h:AHeap} {B O n:Nat} {rows:AM} {bv fv iv lv:Value} {us ws cs:List Value} {on:List Bool} {F:Cs} {left:List wW} (S:lx g h B O n rows bv fv iv lv us ws cs on F F left)
  {u:Value} {f:II} (e:RL RP g u (kz f)) (hf:∀x∈f,x<n) (w:n<=1000) (y:f.length<=1000) (R:F.length<=10000):
  AC Tryz.prog r 95 [.pointer (some ⟨B,0,none⟩),u] h fun _ h'=>∃s a c i j,lx s h' B O n rows bv a c lv i j cs on (F++[f]) (F++[f]) left/\Le g s:=by
 refine AC.vE ⟨Tryz.func95,rfl,WY⟩ Tryz.ntmps95 Tryz.results95 fun k=>?_;simp only[Br,Nat.reduceAdd];obtain⟨a,T,U,z,e4,A,C,b,V,l4,-⟩:=S.pushF k e NH;have t:=bldF h e.sl;rw[e4]at t;have W:=(S.up l4).f;have l:=sB B 3 NH;have d:=sB B 4 NH;refine Sk (IX l S.f.l3 t A C) ?_;refine gh (tA [0,1,2,3,4,5,6] (JQ 7 [5,6] (JQ 8 [7] (JQ 9 [4,7,8] (tA [10,11] (JQ 12 [0,1,2,3,4,5,6,7,8,9,11] .done)))))) ?_;refine CO (XC d b.f.l4) ?_;refine VA.intro PJ ⟨Tryz.func133,rfl,WY⟩ (bJ r B n bv _ a iv lv u f z b.f (e.le Nn.RP b.le) hf w y) ?_;rintro x m D ⟨E,G,ax⟩;obtain⟨o,H⟩:=(b.up G).pV;have p:=Pv (h:=m) b E ax;have rx:RL sJ (Hg m B O a iv lv) x (eJ n f):=RL.Sm (by have:=GS.cs p;grind [CS.rs,Bo.eq_1]);obtain⟨c,X,Y,I,J,K,q,L,M,N,P⟩:=o.pushI D rx NH;have Q:=o.f.le N;have v:=bldI m rx.sl;rw[J]at v;refine CO (adG d b.f.l4 o.f.l4 Q.l4 P.l4 v K q) ?_
 grind
end Go.Fw
namespace Go.Fw
section
attribute [local instance] Classical.propDecidable
attribute [local irreducible] Kp MQ lU KO1 KO KN KX KE VK Kl ZJ TC aab
open Go.Proofs
variable {B O a b i j n x:Nat} {cs us ws:List Value} {f way:II} {g h:AHeap} {left:List wW} {rows:AM} {xs:RZ}
theorem idx_of {v i:Nat} (c:xs=kz f) (hi:i<xs.length) (h:xs[i]=(v:Int)) (a:∀j (b:j<i),xs[j]≠(v:Int)):Dn f v=i:=by
 subst c;have d:i<f.length:=by grind [y6]
 unfold Dn;rw[List.findIdx_eq d];refine⟨?_,fun j b=>?_⟩
 .grind [sY]
 .rw [decide_eq_false_iff_not]
  intro e;refine a j b ?_;rw[sY (show j<f.length by omega)]
  grind
def adW (f:II) (i j:Nat) (h:0<f.length):(Qk f i j).length<=f.length:=by
 unfold Qk;rw[jz,aex];exact C4 _ h
theorem Aw (h:0<f.length) (a:x∈Qk f i j):x∈f:=by grind [Qk,Nat.mod_lt]
def Uq (h:x∈jc way):x∈way:=List.mem_of_mem_drop (dr h)
theorem inn_len (way:II):(jc way).length<=way.length:=by grind [jc]
def NP (a b:II):kz (a++b)=kz a++kz b:=by simp[kz]
def sV (a:II):kz a.reverse=(kz a).reverse:=by simp[kz]
def headN0:∀{l:II} (h:0<l.length),l.headD 0=l[0]
 |_::_,_=>rfl
theorem se (h:b<=a) (h2:a<=100000):awrap .i64 ((a:Int)-(b:Int))=((a-b:Nat):Int):=by grind [ie]
theorem Kz (A:LA) {bv C G U V:Value} {on:List Bool} {F:Cs} (S:lx g h B O n rows bv C G U us ws cs on F F left)
  {f:Nat} (hf:f<F.length) (hw:GI g V (kz way)) (h2:2<=way.length) (ha:way.headD 0∈F.getD f []) (hb:Ni way∈F.getD f []) (W:∀x∈F.getD f [],x<n) (X:∀x∈way,x<n)
  (hn:n<=300) (bN:(F.getD f []).length<=300) (bQ:way.length<=301) (hF:F.length<=1000):
  AC Tryz.prog A 100 [.pointer (some ⟨B,0,none⟩),.int .i64 (f:Int),V] h fun _ h'=>∃d H I J K,lx d h' B O n rows bv H I U J K cs on (kY F f way) (kY F f way) left/\Le g d:=by
 have D:f<us.length:=by grind [lx.uL]
 have Y:=BS D;have az:=BS hf;have L:F.getD f []=F[f]:=D4 hf;have cu:=S.cF f _ _ Y az;rw[<-L]at cu;have e:Ee (F.getD f []) way=Qk (F.getD f []) (Dn (F.getD f []) (way.headD 0)) (Dn (F.getD f []) (Ni way))++(jc way).reverse:=rfl;have l:kP (F.getD f []) way=Qk (F.getD f []) (Dn (F.getD f []) (Ni way)) (Dn (F.getD f []) (way.headD 0))++jc way:=rfl;have Z:kY F f way=F.set f (Ee (F.getD f []) way)++[kP (F.getD f []) way]:=rfl;have p:0<(F.getD f []).length:=IK ha;have aa:∀v,v∈F.getD f []->Dn (F.getD f []) v<(F.getD f []).length:=fun v hv=>by grind [Dn]
 have ia:=aa _ ha;have ib:=aa _ hb;have ae:aIndexAddr Tryz.prog 27 C (.int .i64 (f:Int))=some (.pointer (some (elemAddr C f))):=by
  have:=(GS.cs S.gF).rs.NS f D;exact this
 have ldF:aload Tryz.prog h 49 (elemAddr C f)=some us[f]:=by rw[Bj Ac rfl];exact(GS.cs S.gF).rs.get f _ Y
 generalize hu:us[f]=u at*;generalize bW:F.getD f []=EI at*;refine AC.vE ⟨Tryz.func100,rfl,WY⟩ Tryz.ntmps100 Tryz.results100 fun bY=>?_;simp only[Br,Nat.reduceAdd];have M:=sB B 3 NH;have ag:=sB B 4 NH;have lw:=fun d=>hw.rl.Uc d;rw[y6]at lw;have w0:0<way.length:=NH;have aC:=hw.le S.le;have aj:∀q:Nat,q<way.length->aIndexAddr Tryz.prog 49 V (.int .i64 (q:Int))=some (.pointer (some (elemAddr V q))):=fun q hq=>hw.rl.TA q (by rw[y6];exact hq);have al:∀d,Le g d->∀q (hq:q<way.length),aload Tryz.prog d 3 (elemAddr V q)=some (.int .i64 ((way[q]:Nat):Int)):=fun d lg q hq=>by rw[(hw.le lg).rl.DH q (by rw[y6];exact hq),sY hq]
 have e0:way.headD 0=way[0]:=headN0 w0;have eL:Ni way=way[way.length-1]:=D4 NH;have s1:awrap .i64 ((way.length:Int)-1)=((way.length-1:Nat):Int):=by have:=se (a:=way.length) (b:=1) NH NH;exact this
 have r:=aj 0 w0;simp only[JR]at r;have N:=aj (way.length-1) NH;have s:=al h S.le 0 w0;have w:=al h S.le (way.length-1) NH;rw[<-e0]at s;rw[<-eL]at w;simp only[HO,Nat.reduceLT,↓reduceIte,Nat.reduceEqDiff,reduceCtorEq,M,S.f.l3,ae,ldF];refine gh (tA [0,1,2,3,5,6,7,8,9,10,11] (JQ 4 [0,3] (JQ 12 [4,5,11] (tA [13,14] .done)))) ?_;simp only[HO,Nat.reduceLT,↓reduceIte,Nat.reduceEqDiff,reduceCtorEq,Nat.reduceBEq,Qg,r,lw,s1,N,s,w];refine VA.intro PJ ⟨qS34,rfl,WY⟩ (OS A u (kz EI) ((way.headD 0:Nat):Int) h (cu.le Nn.RP S.le) (by rw[y6];omega)) ?_;rintro x h3 w3 ⟨c,rfl⟩;rcases c with⟨_,Q⟩|⟨i,hi,rfl,aD,aF⟩
 .exact absurd (Z6.2 ⟨_,ha,rfl⟩) Q
 have ei:=idx_of rfl hi aD aF;simp only[HO,Nat.reduceLT,↓reduceIte,Nat.reduceEqDiff,reduceCtorEq,Nat.reduceBEq,Qg,r,lw,s1,N,s,w];refine VA.intro PJ ⟨qS34,rfl,WY⟩ (OS A u (kz EI) ((Ni way:Nat):Int) h3 (cu.le Nn.RP S.le) (by rw[y6];omega)) ?_;rintro x h4 w4 ⟨c,rfl⟩;rcases c with⟨_,Q⟩|⟨j,hj,rfl,aH,aq⟩
 .exact absurd (Z6.2 ⟨_,hb,rfl⟩) Q
 have ej:=idx_of rfl hj aH aq;rw[ei,ej]at e l;rw[ei]at ia;rw[ej]at ib;obtain⟨nv,esl,bZ⟩:=Hx (P:=Tryz.prog) (t:=49) Ac Mb Ji aC (by rw[y6];omega) 1 (way.length-1) NH (by rw[y6];omega);have R:RL RP h4 nv (kz (jc way)):=RL.Wh (by
  have:(Bp (kz way)).drop 1=Bp (kz (way.drop 1)):=by simp[Bp,kz]
  grind [Bp,kz,jc,List.map_take])
 have ar:=fun d=>R.Uc d;rw[y6]at ar;have b0:=inn_len way;simp only[HO,Nat.reduceLT,↓reduceIte,Nat.reduceEqDiff,reduceCtorEq,Nat.reduceBEq,Qg,r,lw,s1,N,s,w];simp only[afR]at esl;simp only[HO,Nat.reduceLT,↓reduceIte,Nat.reduceEqDiff,reduceCtorEq,lw,s1,esl];refine TC.intro PJ ⟨Tryz.func142,rfl,WY⟩ (Ra A u EI i j h4 (cu.le Nn.RP S.le) ia ib NH) ?_;rintro x h5 w5 ⟨g5,l5,a5⟩;have b1:=adW EI i j p;obtain⟨ov,h6,e6,g6,w6,f6,k6⟩:=GI.join g5 w5 (R.le Nn.RP l5) (by grind [y6]);obtain⟨l6,a6⟩:=f6 h4 l5 a5;have xl:(kz (Qk EI i j)++kz (jc way)).length=(Qk EI i j).length+(jc way).length:=by grind [y6]
 have lo:=fun d=>g6.rl.Uc d;rw[xl]at lo;have sd:awrap .i64 ((((Qk EI i j).length+(jc way).length:Nat):Int)-((jc way).length:Int))=(((Qk EI i j).length:Nat):Int):=by rw[se NH NH,Nat.add_sub_cancel]
 obtain⟨tv,et,aJ⟩:=GI.tail g6 (i:=(Qk EI i j).length) pw;simp only[HO,Nat.reduceLT,↓reduceIte,Nat.reduceEqDiff,reduceCtorEq,e6,lo,ar,sd,et];refine TC.intro PJ ⟨XX,rfl,WY⟩ (xB A tv ov _ _ h6 g6 (by rw[xl];omega) aJ) ?_;rintro x h7 w7 ⟨g7,f7,k7⟩;have l7:=f7 h4 l6 a6;have eo:(kz (Qk EI i j)++kz (jc way)).take (Qk EI i j).length++((kz (Qk EI i j)++kz (jc way)).drop (Qk EI i j).length).reverse=kz (Ee EI way):=by
  rw[e,NP,sV];have hl:=y6 (Qk EI i j)
  grind
 rw[eo]at g7;refine Uy ?_;refine TC.intro PJ ⟨Tryz.func142,rfl,WY⟩ (Ra A u EI j i h7 (cu.le Nn.RP (S.le.trans l7)) ib ia NH) ?_;rintro y h8 w8 ⟨g8,l8,a8⟩;have b2:=adW EI j i p;obtain⟨tw,h9,e9,g9,w9,f9,k9⟩:=GI.join g8 w8 (R.le Nn.RP (l7.trans l8)) (by grind [y6]);rw[<-NP,<-l]at g9;obtain⟨l9,a9⟩:=f9 h7 l8 a8;have aK:=l7.trans l9;have aP:Z2 h4 tw:=fun b hb=>l7.none (a9 b hb);obtain⟨E,aT⟩:=(S.up aK).pV;have gone:GI (Hg h9 B O C G U) ov (kz (Ee EI way)):=by
  have:=Pv (h:=h9) S (GI.le g7 l9) a6;exact this
 have av:GI (Hg h9 B O C G U) tw (kz (kP EI way)):=by
  have:=Pv (h:=h9) S g9 aP;exact this
 have aW:∀x∈Ee EI way,x<n:=fun x c=>by
  rw[e,qL7,KG]at c;rcases c with c|c
  .exact W x (Aw p c)
  .exact X x (Uq c)
 have aX:∀x∈kP EI way,x<n:=fun x c=>by
  rw[l,qL7]at c;rcases c with c|c
  .exact W x (Aw p c)
  .exact X x (Uq c)
 have a7:(Ee EI way).length<=1000:=by rw[e,j9,afJ];omega
 have bb:(kP EI way).length<=1000:=by rw[l,j9];omega
 refine Sk e9 ?_;refine gh (tA [0,1,2,3,4,5,6,7,8,9,10,11,12] (JQ 13 [11,12] (tA [14] (JQ 15 [0,1,2,3,4,8,10,13,14] (tA [16] (JQ 17 [0,1,2,3,4,5,6,7,8,9,10,11,12,13,14,15,16] .done)))))) ?_;refine CO (xU M ag E.f.l3 E.f.l4) ?_;refine VA.intro PJ ⟨Tryz.func133,rfl,WY⟩ (bJ A B n bv _ C G U ov (Ee EI way) h9 E.f ((gone.le E.le).rl) aW NH a7) ?_;rintro z ay bg ⟨bh,bk,bm⟩;obtain⟨T,m⟩:=(E.up bk).pV;have gz:=Pv (h:=ay) E bh bm;have rz:RL sJ (Hg ay B O C G U) z (eJ n (Ee EI way)):=RL.Sm (by have:=GS.cs gz;rw[<-qc n (Ee EI way)]at this;exact CS.rs (by rw[Bo]at this;simpa[qc]using this));obtain⟨b3,bo,o,br⟩:=T.setF bg ((gone.le m).rl) (f:=Ee EI way) hf;obtain⟨b4,bx,bB,b5⟩:=o.setI br rz (f:=Ee EI way) (i:=f) hf;have bF:aIndexAddr Tryz.prog 74 G (.int .i64 (f:Int))=some (.pointer (some (elemAddr G f))):=
  (GS.cs o.gI).rs.addr (P:=Tryz.prog) qS25 eY Ji (k:=.i64) f (by rw[o.wL];exact hf)
 refine CO (ahv M ag E.f.l3 E.f.l4 T.f.l3 T.f.l4 o.f.l3 o.f.l4 ae bF bo bx) ?_;have fin:=IU A bB ((av.le m).rl) aX NH bb pw;refine TC.intro PJ ⟨Tryz.func95,rfl,WY⟩ fin ?_;rintro x b6 b8 ⟨d,H,I,J,K,bH,bI⟩;refine Uy ?_;rw[Z];exact⟨d,H,I,J,K,bH,aT.trans (m.trans bI)⟩
end
end Go.Fw
namespace Go.Fw
open Go.Proofs
attribute [local instance] Classical.propDecidable
section
variable {n : Nat} {es : List Pr} {H : Nat → Nat → Prop} {S : kR}
theorem Z8.abJ (I:Z8 n es H S) (hR:aV n es) {p:wW} (b:p∈S.left):∀x∈p.Fm,∃v:Nat,x=(v:Int)/\v<n:=fun x a=>by
 have P:=I.Aa p b;obtain⟨v,rfl⟩:=WA (P.nat x a);obtain⟨_,w,h2,_⟩:=(P.Fm v).1 a;exact⟨v,rfl,(((vD hR).1 h2.1).lt hR).1⟩
theorem Jo:∀{l:RZ},(∀x∈l,∃v:Nat,x=(v:Int))->∃q:II,l=kz q
 |[],_=>⟨[],rfl⟩
 |x::l,h=>by
  obtain⟨v,rfl⟩:=h x Ma;obtain⟨q,rfl⟩:=Jo (l:=l) pw;exact⟨v::q,rfl⟩
theorem nat64_nd {q:II} (h:(kz q).Nodup):q.Nodup:=by grind [kz.eq_1]
theorem Z8.UO (I:Z8 n es H S) (hR:aV n es) {p:wW} (a:p∈S.left):p.Fm.length<=n:=by
 have P:=I.Aa p a;obtain⟨q,b⟩:=Jo fun x c=>by
  obtain⟨v,h,_⟩:=I.abJ hR a x c
  grind
 have nd:=P.fnd;rw[b]at nd ⊢;rw[y6];have:=tf (nat64_nd nd) (B:=List.range n) fun v d=>by
  have e:((v:Nat):Int)∈p.Fm:=by rw[b];exact Z6.2 ⟨v,d,rfl⟩
  grind [Z8.abJ]
 grind
def Z8.My (I:Z8 n es H S):S.Jv.length<=es.length+2:=by have:=I.OT;omega
theorem Z8.Xg (I:Z8 n es H S) {p:wW} (a:p∈S.left):p.fits.length<=S.Jv.length:=by
 have P:=I.Aa p a;have:=tf P.tnd (B:=List.range S.Jv.length) (by grind [EJ.fits])
 grind
def Z8.Ca (I:Z8 n es H S) {p:wW} (a:p∈S.left):p.zp.length<=es.length:=(I.Aa p a).sub.length_le
theorem LQ:∀{l:List wW},(∀p∈l,p.zp≠[])->(l.Pairwise fun p q=>∀e∈p.zp,e∉q.zp)->(l.map fun p=>p.zp.headD (0,0)).Nodup
 |[],_,_=>ahc
 |p::l,a,hd=>by
  rw[gK]at hd;rw[mJ,aaf];have c:∀q∈p::l,q.zp.headD (0,0)∈q.zp:=fun q b=>by
   obtain⟨x,t,e⟩:=xD (a q b);rw[e];simp
  refine⟨fun h=>?_,LQ pw hd.2⟩
  grind
theorem Z8.Vw (I:Z8 n es H S):S.left.length<=es.length:=by
 have:=tf (LQ (fun p a=>(I.Aa p a).ne) I.TE) (B:=es) fun e b=>by
  obtain⟨p,a,rfl⟩:=Z6.1 b;have P:=I.Aa p a;obtain⟨x,t,e⟩:=xD P.ne;exact P.sub.subset (by rw[e];simp)
 grind
theorem Z8.face_lt (I:Z8 n es H S) {f:Nat} (hf:f<S.Jv.length):(∀x∈S.Jv.getD f [],x<n)/\(S.Jv.getD f []).length<=n:=by
 have a:S.Jv.getD f []∈S.Jv:=pw;obtain⟨b,h2⟩:=I.inv.O0 a;have:=tf b (B:=List.range n) (by grind)
 grind
theorem Z8.way_face (I:Z8 n es H S) (hR:aV n es) (hA:D3 es) (D:QG (eN n es)) {p:wW} (s:p∈S.left) {f:Nat} (hf:f∈p.fits):
  2<=(J6 n (Zh n es) S.on p).length/\(J6 n (Zh n es) S.on p).headD 0∈S.Jv.getD f []/\Ni (J6 n (Zh n es) S.on p)∈S.Jv.getD f []/\(∀x∈J6 n (Zh n es) S.on p,x<n)/\(J6 n (Zh n es) S.on p).length<=n:=by
 have d:=MG hR hA;have hs:=I.inv.sym;have P:=I.Aa p s;obtain⟨a,inn,b,w,W,c⟩:=I.way hR hA D s;rw[w];obtain⟨A,j⟩:=(P.fits f).1 hf;have e:=P.XB hR c;have C:QP (eN n es) H a ((inn++[b]).headD 0):=⟨fun q=>by obtain⟨z,m,o⟩:=W.JX;exact q z m o,e.1,e.2⟩;have t:a∈S.Jv.getD f []:=by have:=j _ (P.E8 C c);grind
 have u:b∈S.Jv.getD f []:=by
  have k:=W.lst d hs;have E:Ay a inn b b ((inn.reverse++[a]).headD 0):=(W.Kk d hs).2 rfl;have F:=W.PW d hs E;have G:=(P.one _ _ b _ e ⟨k.1,k.2⟩ c).2 F;have:=j _ ((P.Fm b).2 ⟨fun q=>by obtain⟨z,m,o⟩:=W.sN;exact q z m o,_,⟨k.1,k.2⟩,G⟩)
  grind
 have r:∀x∈nr a inn b,x<n:=fun x l=>by
  rw[nr,EL,qL7,jf]at l;rcases l with rfl|l|rfl
  .exact d.lt _ _ e.1
  .obtain ⟨i, y, J, h2⟩ := qm (a := a) (b := b) (inn := inn) (v := x) (.inr l)
   exact d.lt _ _ (d.sy _ _ (W.UQ i _ _ J h2).1)
  .exact d.lt _ _ (d.sy _ _ (W.lst d hs).1 |> d.sy _ _)
 obtain⟨K,L,e3⟩:=Oy a b inn;refine⟨by grind [Eo],pw,pw,r,?_⟩;have:=tf W.nd (B:=List.range n) (by grind)
 grind
end
theorem alloc125 (h:AHeap):aAlloc Tryz.prog h 125=some (.pointer (some ⟨h.next,0,none⟩),h.alloc (.cells [rW,rW,rW])):=Ji
theorem store125 {h:AHeap} {P:Nat} {x y z a b c:Value} (d:h.own P=some (.cells [x,y,z])) (ha:a.oneCell'=true) (hb:b.oneCell'=true) (f:c.oneCell'=true):aStore Tryz.prog h 125 (.pointer (some ⟨P,0,none⟩)) (.agg #[a,b,c])=some (h.put P (.cells [a,b,c])):=by
 have e:(Value.agg #[a,b,c]).cells=#[a,b,c]:=rfl;simp[aStore,d,e,dD,putCells,zj,ha,hb,f]
theorem Od {h:AHeap} (hw:WF h) {a b c:Value} (ha:a.oneCell'=true) (hb:b.oneCell'=true) (e:c.oneCell'=true):∃d h2,aAlloc Tryz.prog h 125=some (.pointer (some ⟨h.next,0,none⟩),d)/\aStore Tryz.prog d 125 (.pointer (some ⟨h.next,0,none⟩)) (.agg #[a,b,c])=some h2/\Le h h2/\WF h2/\h2.own h.next=some (.cells [a,b,c])/\Le h d:=by
 obtain⟨d,f,l1,w1,i⟩:=Tt hw [rW,rW,rW]
 have j:h.own h.next=none:=(Le.refl h).next hw (qL0 _)
 grind [alloc125,store125,Le.put,WF.put,WF.lt,AHeap.Y3]
def OU {h:AHeap} {P:Nat} {a b c:Value} (d:h.own P=some (.cells [a,b,c])):aload Tryz.prog h 125 ⟨P,0,none⟩=some (.agg #[a,b,c]):=by rw[Wx zj rfl dD d Ma];rfl
def lP0 {h:AHeap} {P:Nat} {a b c:Value} (d:h.own P=some (.cells [a,b,c])):aload Tryz.prog h 22 ⟨P,0,none⟩=some a:=by rw[Fq Uh rfl d];rfl
def lP1 {h:AHeap} {P:Nat} {a b c:Value} (d:h.own P=some (.cells [a,b,c])):aload Tryz.prog h 49 ⟨P,1,none⟩=some b:=by rw[Fq Ac rfl d];rfl
def lP2 {h:AHeap} {P:Nat} {a b c:Value} (d:h.own P=some (.cells [a,b,c])):aload Tryz.prog h 49 ⟨P,2,none⟩=some c:=by rw[Fq Ac rfl d];rfl
def pB (P k:Nat) (a:k<3):aField Tryz.prog 125 (.pointer (some ⟨P,0,none⟩)) k=some (.pointer (some ⟨P,k,none⟩)):=by
 match k,a with
 |0,_=>rfl
 |1,_=>rfl
 |2,_=>rfl
theorem GS.load3 {h:AHeap} {v a b c:Value} {m k:Nat} {cs:List Value} (g:GS 3 h v m cs) (f:k<m) (ha:cs[k*3]?=some a) (hb:cs[k*3+1]?=some b) (l:cs[k*3+2]?=some c):aload Tryz.prog h 125 (elemAddr v (k*3))=some (.agg #[a,b,c]):=by
 have gc:=g.cs.get;have e:∀r,Ip (elemAddr v (k*3)) r=elemAddr v (k*3+r):=fun r=>eA3 g f;have:=ua (h:=h) [a,b,c] (elemAddr v (k*3)) fun i x d=>by
  match i,d with
  |0,d=>grind
  |1,d=>grind
  |2,d=>grind
  |i+3,d=>simp at d
 have j:([a,b,c]:List Value).length=3:=rfl;rw[j]at this;simp only[aload,zj,isAggD,cond_true,dD,this]
section
variable {g h : AHeap} {B O n : Nat} {rows : List (List Int)} {bv fv iv lv : Value} {us ws cs : List Value} {on : List Bool} {F1 F2 : List (List Nat)} {left : List wW}
theorem lx.rlI (S:lx g h B O n rows bv fv iv lv us ws cs on F1 F2 left):RL (RL sJ) h iv (F2.map (eJ n)):=
 ⟨ws,(GS.cs S.gI).rs,by grind [lx.wL],fun i x u a c=>by
  rw[Yq]at a;cases b:F2[i]? with
  |none=>grind
  |some f=>
   rw[b]at a;simp at a;subst a;exact(S.cI i u f c b).le Nn.sJ S.le⟩
theorem lx.rlO (S:lx g h B O n rows bv fv iv lv us ws cs on F1 F2 left):RL sJ h (.slice (some ⟨O,0,none⟩) n n) on:=RL.Sm (RS.whole S.oO (by grind [lx.ZA]))
def lx.lenL (S:lx g h B O n rows bv fv iv lv us ws cs on F1 F2 left) (h':AHeap):aLen Tryz.prog h' 75 lv=some (.int .i64 (left.length:Nat)):=by
 obtain⟨a,c,rfl,_⟩:=S.gL.cs.sl;exact Jg afm h'
theorem lx.LF (S:lx g h B O n rows bv fv iv lv us ws cs on F1 F2 left) (h':AHeap):aLen Tryz.prog h' 27 fv=some (.int .i64 (F1.length:Nat)):=by
 obtain⟨a,c,e,_⟩:=S.gF.cs.sl;rw[e,S.uL];exact Jg yU h'
theorem lx.at_ (S:lx g h B O n rows bv fv iv lv us ws cs on F1 F2 left) {k:Nat} (d:k<left.length):∃a b c,cs[k*3]?=some a/\cs[k*3+1]?=some b/\cs[k*3+2]?=some c/\PR g a left[k].zp/\RL RP g b left[k].Fm/\RL RP g c (kz left[k].fits):=S.cL k _ (BS d)
end
end Go.Fw
namespace Go.Fw
section
attribute [local instance] Classical.propDecidable
attribute [local irreducible] Kp MQ lU KO1 KO KN KX KE VK Kl ZJ TC aab
open Go.Proofs
variable {B O a b c i n:Nat} {bv fv iv lv:Value} {cs us ws:List Value} {es:List Pr} {g h h':AHeap} {left:List wW} {rows:AM}
theorem Jd (hi:i<left.length):LF left i=left[i].fits.length:=by grind [LF]
theorem Vr {L1:List wW} {φ:wW->wW} {q b:wW} (hi:i<L1.length) (a:L1.drop i=q::L1.drop (i+1)):((L1.take i).map φ++L1.drop i).set i b=(L1.take i).map φ++b::L1.drop (i+1):=by
 have c:((L1.take i).map φ).length=i:=pw;rw[a,iU _ _ NH,c,Q4];rfl
def Xi (h:a<=b) (h2:b<=c+2) (h3:c<=594):a<=100000:=NH
def ig (h:a<=b) (h2:b<=c+2) (h3:c<=594):a+1<=100000:=NH
def sr (h:a<=n) (h2:(n:Int)<=200):a<=100000:=NH
theorem app_b {α β:Type} {L:List β} {ps:List α} {φ:α->β} (h:L.length<=594) (h2:ps.length<=594) (i:Nat):(L++(ps.take i).map φ).length<=100000:=pw
theorem le_4 (h:a<=n) (h2:(n:Int)<=200):a<=40000:=NH
theorem lx.other {on:List Bool} {d e:Cs} (S:lx g h B O n rows bv fv iv lv us ws cs on d e left) (l:Le g h')
  (c:∀z o,InS B O fv iv lv z->h.own z=some o->h'.own z=some o):lx g h' B O n rows bv fv iv lv us ws cs on d e left:=
 {S with
  f:=⟨c _ _ (.inl rfl) S.f.o⟩
  oO:=c _ _ (.inr (.inl rfl)) S.oO
  gF:=GS.kept S.gF fun b o hb a=>c b o (.inr pw) a
  gI:=GS.kept S.gI fun b o hb a=>c b o (.inr pw) a
  gL:=GS.kept S.gL fun b o hb a=>c b o (.inr pw) a
  sep:=⟨S.sep.TE,fun i u b j hb=>by
   obtain⟨o,a⟩:=Db.1 (S.sep.own i u b j hb);rw[c b o (.inr (by grind [List.mem_of_getElem?])) a];simp,S.sep.ap,l⟩}
theorem lay_any (W0:LA) {H:Nat->Nat->Prop} {m:kR} (S:lx g h B O n (Zh n es) bv fv iv lv us ws cs m.on m.Jv m.Jv m.left)
  (hr:bX ⟨(n:Int),es⟩) (D:QG (eN n es)) (I:Z8 n es H m) (eU:m.left≠[]):
  AC Tryz.prog W0 53 [.pointer (some ⟨B,0,none⟩)] h fun x h'=>∃g',Le g g'/\Le g' h'/\((AU n (Zh n es) m=none/\x=.bool false)\/∃bh eV eW eX eZ e0 e6,AU n (Zh n es) m=some bh/\x=.bool true/\lx g' h' B O n (Zh n es) bv eV eW eX eZ e0 e6 bh.on bh.Jv bh.Jv bh.left):=by
 have hR:=hr.GD;have hA:=hr.q9;have bk:(n:Int)<=200:=hr.n1;have T:es.length<=594:=hr.len;have hU:=I.Vw;have aP:=I.My;have dy:0<m.left.length:=qL191.2 eU;refine AC.vE ⟨Tryz.func53,rfl,WY⟩ Tryz.ntmps53 Tryz.results53 fun hV=>?_;simp only[Br,Nat.reduceAdd];have J:=sB B 5 NH;have e7:=sB B 3 NH;have fb:=sB B 2 NH;have bm:=fun k hk=>S.gL.ad3 (k:=k) hk;have eL:=fun k r (hk:k<m.left.length)=>eA3 (k:=k) (r:=r) S.gL hk;have cx:∀k (hk:k<m.left.length),∃c,aload Tryz.prog h 49 (elemAddr lv (k*3+2))=some c/\∀g',aLen Tryz.prog g' 49 c=some (.int .i64 (m.left[k].fits.length:Nat)):=fun k hk=>by
  obtain⟨a,b,c,q1,q2,q3,q4,q5,q6⟩:=S.at_ hk;refine⟨c,by rw[Bj Ac rfl];exact S.gL.cs.get _ _ q3,fun g'=>?_⟩;have:=q6.Uc g';rwa[y6]at this
 refine Sk (Yb J S.f.l5 S.lenL) ?_;refine aab.intro (fun k fr W=>∃i:Nat,k=m.left.length-i/\i<=m.left.length/\fr=mkF [(0,.pointer (some ⟨B,0,none⟩)),(3,.int .i64 (bestK m.left i:Nat)),(20,.int .i64 (m.left.length:Nat)),(21,.int .i64 (i:Nat))]/\W=h)
  m.left.length [(0,.pointer (some ⟨B,0,none⟩)),(3,.int .i64 (0:Nat)),(20,.int .i64 (m.left.length:Nat)),(21,.int .i64 (0:Nat))] fD ⟨0,rfl,Og _,rfl,rfl⟩ ?_
 rintro k fr W aT ⟨i,rfl,hi,rfl,rfl⟩;refine Uy ?_;refine Kl.intro (fun ht=>?_) (fun hf=>?_)
 .have s : i < m.left.length := CC ht
  clear ht;have F:bestK m.left i<m.left.length:=by
   have:=(EY m.left i).1;rcases Nat.eq_zero_or_pos i with rfl|h
   .exact dy
   grind
  obtain⟨c1,q1,q2⟩:=cx i s;obtain⟨c2,q3,q4⟩:=cx _ F;have aw:=aaa i NH;have e1:=Jd s;have e2:=Jd F;refine Uy ?_;refine gh (tA [0,1,2,3,4,5,6,7,8,9,10,11,12,13,14,15,16,17,18] .done) ?_;by_cases c:m.left[i].fits.length<(m.left[bestK m.left i]).fits.length
  .have d : decide (((m.left[i].fits.length : Nat) : Int) < (((m.left[bestK m.left i]).fits.length : Nat) : Int)) = true := decide_eq_true NH
   have eb:bestK m.left (i+1)=i:=by grind [bestK.eq_2]
   simp only[HO,Nat.reduceLT,↓reduceIte,Nat.reduceEqDiff,reduceCtorEq,Nat.reduceBEq,Qg,J,S.f.l5,bm i s,bm _ F,pf2,eL i 2 s,eL _ 2 F,q1,q2,q3,q4,d,aw];exact tn (m.left.length-(i+1)) [(0,.pointer (some ⟨B,0,none⟩)),(3,.int .i64 (i:Nat)),(20,.int .i64 (m.left.length:Nat)),(21,.int .i64 (i+1:Nat))] (JS s) fD ⟨i+1,rfl,s,by rw[eb];rfl,rfl⟩
  .have d : decide (((m.left[i].fits.length : Nat) : Int) < (((m.left[bestK m.left i]).fits.length : Nat) : Int)) = false := decide_eq_false NH
   have eb:bestK m.left (i+1)=bestK m.left i:=by grind [bestK.eq_2]
   simp only[HO,Nat.reduceLT,↓reduceIte,Nat.reduceEqDiff,reduceCtorEq,Nat.reduceBEq,Qg,J,S.f.l5,bm i s,bm _ F,pf2,eL i 2 s,eL _ 2 F,q1,q2,q3,q4,d,aw];exact tn (m.left.length-(i+1)) [(0,.pointer (some ⟨B,0,none⟩)),(3,.int .i64 (bestK m.left i:Nat)),(20,.int .i64 (m.left.length:Nat)),(21,.int .i64 (i+1:Nat))] (JS s) fD ⟨i+1,rfl,s,by rw[eb];rfl,rfl⟩
 have Z:m.left.length<=i:=vp hf;obtain rfl:i=m.left.length:=NH;clear Z hf hi cx;have F:=(EY m.left m.left.length).1 dy
 have cc:AU n (Zh n es) m=if(m.left.getD (bestK m.left m.left.length) default).fits.length=0 then none else
   if(J6 n (Zh n es) m.on (m.left.getD (bestK m.left m.left.length) default)).length<2 then none else
   some ⟨tV m.on (J6 n (Zh n es) m.on (m.left.getD (bestK m.left m.left.length) default)),kY m.Jv ((m.left.getD (bestK m.left m.left.length) default).fits.headD 0) (J6 n (Zh n es) m.on (m.left.getD (bestK m.left m.left.length) default)),
    (m.left.eraseIdx (bestK m.left m.left.length)).map (GF (kY m.Jv ((m.left.getD (bestK m.left m.left.length) default).fits.headD 0) (J6 n (Zh n es) m.on (m.left.getD (bestK m.left m.left.length) default))) ((m.left.getD (bestK m.left m.left.length) default).fits.headD 0) m.Jv.length)++
    (vX n (tV m.on (J6 n (Zh n es) m.on (m.left.getD (bestK m.left m.left.length) default))) (V8 n (m.left.getD (bestK m.left m.left.length) default).zp (J6 n (Zh n es) m.on (m.left.getD (bestK m.left m.left.length) default)))).map fun q=>{q with fits:=zh (kY m.Jv ((m.left.getD (bestK m.left m.left.length) default).fits.headD 0) (J6 n (Zh n es) m.on (m.left.getD (bestK m.left m.left.length) default))) q.Fm ((m.left.getD (bestK m.left m.left.length) default).fits++[m.Jv.length])}⟩:=rfl
 rw[cc];clear cc;obtain⟨a,b,c,q1,q2,q3,q4,q5,q6⟩:=S.at_ F;have fc:=S.gL.load3 F q1 q2 q3;have fe:=bm _ F;have aa:m.left[bestK m.left m.left.length]∈m.left:=ZT F;have fg:m.left.getD (bestK m.left m.left.length) default=m.left[bestK m.left m.left.length]:=D4 F;rw[fg];generalize fh:bestK m.left m.left.length=K at*;generalize hp:m.left[K]=p at*;obtain⟨h1,h2,e1,e2,l2,w2,oP,-⟩:=Od aT q4.sl.one q5.one q6.one;obtain⟨S2,b5⟩:=(S.up l2).pV
 have hW:∀z,InS B O fv iv lv z->z≠W.next:=fun z hz e=>by
  have:=(S.own hz).2;rw[e]at this
  exact this ((Le.refl W).next aT (qL0 _))
 have gP:(Hg h2 B O fv iv lv).own W.next=some (.cells [a,b,c]):=by grind [Hg,Th,HX]
 generalize W.next=P at*
 have fi:=pB P 0 NH;have hX:=pB P 1 NH;have cz:=pB P 2 NH;have lc:=fun g'=>q6.Uc g';rw[y6]at lc;simp only[HO,Nat.reduceLT,↓reduceIte,Nat.reduceEqDiff,reduceCtorEq,J,S.f.l5,fe,fc,e1,e2,cz,lP2 oP,lc];by_cases c0:p.fits.length=0
 .have d0 : decide (((p.fits.length : Nat) : Int) = 0) = true := decide_eq_true NH
  refine Sk (XC @lW d0) ?_
  grind [lx.le]
 have d0:decide (((p.fits.length:Nat):Int)=0)=false:=decide_eq_false NH;rw[if_neg c0];have dz:p.fits.headD 0∈p.fits:=by grind [Lt]
 obtain⟨fm,wh,cC,b6,hY⟩:=I.way_face hR hA D aa dz;rw[if_neg NH];have dA:=((I.Aa p aa).fits _).1 dz;have cE:aV n p.zp:=fun e he=>hR e ((I.Aa p aa).sub.subset he);have hZ:=I.Ca aa;have h0:=I.UO hR aa;have dB:=I.Xg aa;have fp:=I.abJ hR aa;have dE:=q4.le b5;have fq:=q5.le Nn.RP b5;have dF:=q6.le Nn.RP b5;refine Sk (Yb @lW d0 (OU oP)) ?_;refine TC.intro PJ ⟨Tryz.func98,rfl,WY⟩ (way_any W0 B n bv _ fv iv lv a b c es m.on p h2 S2.f (S2.cB.le (Nn.RL Nn.RP) S2.le) S2.rlO S2.ZA (dE.le S2.le) (fq.le Nn.RP S2.le) q6.one hR cE fp NH NH NH NH) ?_;rintro wv h3 w3 ⟨gw,l3,aw3⟩;obtain⟨S3,bo⟩:=(S2.up l3).pV;have dH:GI (Hg h3 B O fv iv lv) wv (kz (J6 n (Zh n es) m.on p)):=Pv (h:=h3) S2 gw aw3;have dI:=bo.own _ _ gP;have h7:∀x∈J6 n (Zh n es) m.on p,x<n:=b6;obtain⟨fs,ic⟩:=I.face_lt dA.1;have ih:=zh;generalize dJ:J6 n (Zh n es) m.on p=way at*;have lw:=fun g'=>gw.rl.Uc g';rw[y6]at lw;have dw:decide (((way.length:Nat):Int)<2)=false:=decide_eq_false NH;have ft:awrap .i64 ((K:Int)+1)=((K+1:Nat):Int):=by grind [aaa]
 simp only[HO,Nat.reduceLT,↓reduceIte,Nat.reduceEqDiff,reduceCtorEq,lw,dw,J,S3.f.l5,ft];refine TC.intro PJ ⟨Tryz.func99,rfl,WY⟩ (afs W0 S3.gL S3.cuL S3.c1 F NH) ?_;rintro w h4 w4 ⟨gd,fx,fy,fC,fF⟩;obtain⟨h5,e5,S5,w5⟩:=S3.delL w4 F gd fx fy fC fF;have l5g:=S5.le;have fJ:=l5g.own _ _ dI;have fL:=(dF.le Nn.RP bo).le Nn.RP l5g;have dL:=q6.TA 0 (by rw[y6];omega);have dM:=fL.DH 0 (by rw[y6];omega);have t0:0<p.fits.length:=NH;rw[sY t0,<-headN0 t0]at dM;simp only[JR]at dL;generalize ij:p.fits.headD 0=f at*;generalize il:(cs.take (K*3)++cs.drop ((K+1)*3))=fN at*;refine Sk (XC J e5) ?_;refine gh (tA [0,1,2,3,4,5,6,7,8,9,10] .done) ?_;refine CO (rE cz (lP2 fJ) dL dM e7 S5.f.l3 S5.LF) ?_;have fP:=Kz W0 S5 (f:=f) (way:=way) dA.1 dH fm wh cC fs b6 NH NH NH NH;refine TC.intro PJ ⟨Tryz.func100,rfl,WY⟩ fP ?_;rintro x h6 w6 ⟨g6,A,C,br,bx,S6,cK⟩;have ix:(m.left.eraseIdx K).length=m.left.length-1:=pw;have cM:∀q∈m.left.eraseIdx K,q∈m.left:=by grind [List.mem_of_mem_eraseIdx]
 generalize iz:m.left.eraseIdx K=L1 at*;have dO:(kY m.Jv f way).length=m.Jv.length+1:=Yz;generalize iA:kY m.Jv f way=M at*;have iB:=sB B 0 NH;refine Sk (Yb J S6.f.l5 S6.lenL) ?_;refine aab.intro (fun k fr hz=>∃(i:Nat) (g7:AHeap) (bB:List Value) (L:List wW),k=L1.length-i/\i<=L1.length/\fr=mkF [(0,.pointer (some ⟨B,0,none⟩)),(5,.pointer (some ⟨P,0,none⟩)),(6,wv),(7,.int .i64 (f:Nat)),(8,.int .i64 (m.Jv.length:Nat)),(89,w),(90,.int .i64 (L1.length:Nat)),(91,.int .i64 (i:Nat))]/\
   lx g7 hz B O n (Zh n es) bv A C w br bx bB m.on M M L/\Le g6 g7/\L=(L1.take i).map (GF M f m.Jv.length)++L1.drop i)
  L1.length [(0,.pointer (some ⟨B,0,none⟩)),(5,.pointer (some ⟨P,0,none⟩)),(6,wv),(7,.int .i64 (f:Nat)),(8,.int .i64 (m.Jv.length:Nat)),(89,w),(90,.int .i64 (L1.length:Nat)),(91,.int .i64 (0:Nat))] fD
  ⟨0,g6,fN,L1,rfl,Og _,rfl,S6,Le.refl _,Ma⟩ ?_
 rintro k fr hz cN ⟨i,g7,bB,L,rfl,hi,rfl,S7,aW,aX⟩;have dS:L.length=L1.length:=by rw[aX,j9,jz,PN,ahJ];omega
 refine Uy ?_;refine Kl.intro (fun ht=>?_) (fun hf=>?_)
 .have s : i < L1.length := CC ht
  clear ht;have a6:i<L.length:=NH;have cP:L[i]=L1[i]:=by
   have h1:L[i]?=some L1[i]:=by
    rw[aX,vZ (by rw[jz,PN];omega),jz,PN,Jj NH,Q4,abZ,zx]
    grind
   grind
  obtain⟨a',X,c',r1,r2,r3,r4,r5,r6⟩:=S7.at_ a6;have cR:=S7.gL.load3 a6 r1 r2 r3;have bF:=S7.gL.ad3 a6;have fQ:=eA3 (r:=2) S7.gL a6;have dT:aField Tryz.prog 125 (.pointer (some (elemAddr w (i*3)))) 2=some (.pointer (some (elemAddr w (i*3+2)))):=by rw[pf2,fQ]
  rw[cP]at r4 r5 r6;have b8:=cM _ (ZT s);have cd:=I.abJ hR b8;have cf:=I.UO hR b8;have aF:=I.Xg b8;have fR:=(I.Aa _ b8).fits;generalize dV:L1[i]=q at*;obtain⟨h8,h9,e8,e9,l9,w9,oQ,l8⟩:=Od cN r4.sl.one r5.one r6.one;have Y:=S7.up l9;have aw:=aaa i NH
  have dQ:∀z,InS B O A C w z->z≠hz.next:=fun z G e=>by
   have:=(S7.own G).2;rw[e]at this
   exact this ((Le.refl hz).next cN (qL0 _))
  generalize hz.next=Q at*
  have aq:=pB Q 1 NH;have ae:=pB Q 2 NH;have ar:L1.take (i+1)=L1.take i++[q]:=by rw[Sb s,dV]
  have ed:L1.drop i=q::L1.drop (i+1):=by rw[vY s,dV]
  have aH:∀q':wW,L.set i q'=(L1.take i).map (GF M f m.Jv.length)++q'::L1.drop (i+1):=fun q'=>by rw[aX];exact Vr s ed
  refine Sk (bG bF cR e8 e9 ae (lP2 oQ)) ?_;refine TC.intro PJ ⟨qS35,rfl,WY⟩ (W3 W0 c' (kz q.fits) ((f:Nat):Int) h9 (r6.le Nn.RP Y.le) (by rw[y6];omega)) ?_;rintro y a7 fS ⟨rfl,rfl⟩;by_cases cm:f∈q.fits
  rotate_left
  .have d:decide (((f:Nat):Int)∈kz q.fits)=false:=decide_eq_false fun hm=>cm (by
    obtain⟨z,G,e⟩:=Z6.1 hm;have:z=f:=NH
    grind)
   simp only[HO,Nat.reduceLT,↓reduceIte,Nat.reduceEqDiff,reduceCtorEq,d,aw];refine tn (L1.length-(i+1)) [(0,.pointer (some ⟨B,0,none⟩)),(5,.pointer (some ⟨P,0,none⟩)),(6,wv),(7,.int .i64 (f:Nat)),(8,.int .i64 (m.Jv.length:Nat)),(89,w),(90,.int .i64 (L1.length:Nat)),(91,.int .i64 (i+1:Nat))] (JS s) fD
    ⟨i+1,g7,bB,L,rfl,s,rfl,Y,aW,?_⟩
   rw[aX,ar,ed,bC,Ki];have:GF M f m.Jv.length q=q:=by unfold GF;grind
   simp[this]
  have d:decide (((f:Nat):Int)∈kz q.fits)=true:=decide_eq_true (Z6.2 ⟨f,cm,rfl⟩);refine Sk d ?_;have N:∀h',Le a7 h'->aload Tryz.prog h' 75 ⟨B,5,none⟩=some w/\aload Tryz.prog h' 49 ⟨Q,1,none⟩=some X/\aload Tryz.prog h' 49 ⟨Q,2,none⟩=some c':=fun h' l=>⟨(Y.f.le l).l5,lP1 (l.own _ _ oQ),lP2 (l.own _ _ oQ)⟩;obtain⟨cU,cZ,c3⟩:=N a7 (Le.refl _);have aJ:∀z∈q.fits++[m.Jv.length],z<M.length:=fun z G=>by
   rw[dO];rcases qL7.1 G with h|h
   .have:=((fR z).1 h).1;omega
   .have:=jf.1 h;omega
  have aK:kz q.fits++[((m.Jv.length:Nat):Int)]=kz (q.fits++[m.Jv.length]):=by simp[kz]
  obtain⟨ha,ea,la,wa,oa⟩:=Tt fS [.int .i64 ((m.Jv.length:Nat):Int)];obtain⟨fU,fV,fW⟩:=N ha la;refine gh (tA [0,1,2,3,4,5,6,7,8,9,11] (.ch 10 [9] (JQ 12 [11] (JQ 13 [10,12] (JQ 14 [5,7,13] (tA [15,16] (JQ 17 [0,1,2,3,4,5,6,7,8,9,10,11,12,13,14,16] .done))))) (JQ 12 [11] (JQ 10 [9] (JQ 13 [10,12] (JQ 14 [5,7,13] (tA [15,16] (JQ 17 [0,1,2,3,4,5,6,7,8,9,10,11,12,13,14,16] .done)))))))) ?_;simp only[HO,Nat.reduceLT,↓reduceIte,Nat.reduceEqDiff,reduceCtorEq,Nat.reduceBEq,Qg,J,cU,fU,aq,ae,cZ,fV,c3,fW,DQ,ea];refine⟨?_,?_⟩
  .refine VA.intro PJ ⟨Md, rfl, WY⟩ (QY W0 c' (kz q.fits) a7 (r6.le Nn.RP Y.le) (by rw [y6]; exact Xi aF aP T)) ?_
   rintro y sZ wb ⟨gb,lb,ab⟩;obtain⟨bH,bI,bN⟩:=N sZ lb;obtain⟨av,fY,hc,ef,ec,az,wc,ga,c4,gg⟩:=gb.push wb ((m.Jv.length:Nat):Int) (by rw[y6];grind);obtain⟨E,gi⟩:=c4 a7 lb ab;rw[aK]at az;obtain⟨eg,eh,ei⟩:=N fY (lb.trans ga);obtain⟨bQ,bW,bY⟩:=N hc E;simp only[DQ]at ef;simp only[HO,Nat.reduceLT,↓reduceIte,Nat.reduceEqDiff,reduceCtorEq,Nat.reduceBEq,Qg,J,cU,bH,eg,bQ,aq,ae,cZ,bI,eh,bW,c3,bN,ei,bY,DQ,ef,ec];obtain⟨gj,gk,gl⟩:=N hc E;refine VA.intro PJ ⟨ahp,rfl,WY⟩ (NR W0 B n bv _ A C w X av M q.Fm (q.fits++[m.Jv.length]) hc (Y.f.le E) (Y.rlI.le (Nn.RL Nn.sJ) E) ((r5.le Nn.RP Y.le).le Nn.RP E) az.rl cd aJ (sr cf bk) (by rw[j9,QD];exact ig aF aP T)) ?_;rintro y hd wd ⟨gy,c5,ay⟩;have bZ:=E.trans c5;obtain⟨c6,c9,da⟩:=N hd bZ;obtain⟨Sd,db⟩:=(Y.up bZ).pV;have dc:GI (Hg hd B O A C w) y (kz (zh M q.Fm (q.fits++[m.Jv.length]))):=Pv (h:=hd) Y gy (fun b hb=>E.none (ay b hb));obtain⟨he,ee,Se,we⟩:=Sd.setT wd a6 dc.rl;rw[cP]at Se;simp only[HO,Nat.reduceLT,↓reduceIte,Nat.reduceEqDiff,reduceCtorEq,Nat.reduceBEq,Qg,J,aq,ae,c6,c9,da,bF,dT,ee,aw];refine tn (L1.length-(i+1)) [(0,.pointer (some ⟨B,0,none⟩)),(5,.pointer (some ⟨P,0,none⟩)),(6,wv),(7,.int .i64 (f:Nat)),(8,.int .i64 (m.Jv.length:Nat)),(89,w),(90,.int .i64 (L1.length:Nat)),(91,.int .i64 (i+1:Nat))] (JS s) fD
    ⟨i+1,_,_,_,rfl,s,rfl,Se,aW.trans db,?_⟩
   rw[aH,ar,bC,Ki];have:GF M f m.Jv.length q={q with fits:=zh M q.Fm (q.fits++[m.Jv.length])}:=by unfold GF;grind
   simp[this]
  .refine VA.intro PJ ⟨Md, rfl, WY⟩ (QY W0 c' (kz q.fits) ha ((r6.le Nn.RP Y.le).le Nn.RP la) (by rw [y6]; exact Xi aF aP T)) ?_
   rintro y sZ wb ⟨gb,lb,ab⟩;obtain⟨bH,bI,bN⟩:=N sZ (la.trans lb)
   have ro:RL RP sZ (.slice (some ⟨a7.next,0,none⟩) 1 1) [((m.Jv.length:Nat):Int)]:=RL.Wh (RS.whole (lb.own _ _ oa) rfl)
   obtain⟨av,hc,ec,az,wc,c4,gg⟩:=GI.join gb wb ro (by rw[y6,QD];grind);obtain⟨gn,gi⟩:=c4 ha lb ab;have E:=la.trans gn;rw[aK]at az;obtain⟨bQ,bW,bY⟩:=N hc E;refine CO (Da J cU bH bQ aq ae cZ bI bW c3 bN bY @DQ ec) ?_;obtain⟨gj,gk,gl⟩:=N hc E;refine VA.intro PJ ⟨ahp,rfl,WY⟩ (NR W0 B n bv _ A C w X av M q.Fm (q.fits++[m.Jv.length]) hc (Y.f.le E) (Y.rlI.le (Nn.RL Nn.sJ) E) ((r5.le Nn.RP Y.le).le Nn.RP E) az.rl cd aJ (sr cf bk) (by rw[j9,QD];exact ig aF aP T)) ?_;rintro y hd wd ⟨gy,c5,ay⟩;have bZ:=E.trans c5;obtain⟨c6,c9,da⟩:=N hd bZ;obtain⟨Sd,db⟩:=(Y.up bZ).pV;have dc:GI (Hg hd B O A C w) y (kz (zh M q.Fm (q.fits++[m.Jv.length]))):=Pv (h:=hd) Y gy (fun b hb=>E.none (ay b hb));obtain⟨he,ee,Se,we⟩:=Sd.setT wd a6 dc.rl;rw[cP]at Se;simp only[HO,Nat.reduceLT,↓reduceIte,Nat.reduceEqDiff,reduceCtorEq,Nat.reduceBEq,Qg,J,aq,ae,c6,c9,da,bF,dT,ee,aw];refine tn (L1.length-(i+1)) [(0,.pointer (some ⟨B,0,none⟩)),(5,.pointer (some ⟨P,0,none⟩)),(6,wv),(7,.int .i64 (f:Nat)),(8,.int .i64 (m.Jv.length:Nat)),(89,w),(90,.int .i64 (L1.length:Nat)),(91,.int .i64 (i+1:Nat))] (JS s) fD
    ⟨i+1,_,_,_,rfl,s,rfl,Se,aW.trans db,?_⟩
   rw[aH,ar,bC,Ki];have:GF M f m.Jv.length q={q with fits:=zh M q.Fm (q.fits++[m.Jv.length])}:=by unfold GF;grind
   simp[this]
 have Z:L1.length<=i:=vp hf;obtain rfl:i=L1.length:=NH;rw[yM (qL0 _),qL227 (qL0 _),wV]at aX;clear Z hf hi;have ej:=aW.own _ _ (cK.own _ _ dI);have dd:=dH.le (cK.trans aW);have ek:=fun g'=>dd.rl.Uc g';rw[y6]at ek;refine Sk ek ?_;refine aab.intro (fun k fr hy=>∃(i:Nat),k=way.length-i/\i<=way.length/\fr=mkF [(0,.pointer (some ⟨B,0,none⟩)),(5,.pointer (some ⟨P,0,none⟩)),(6,wv),(8,.int .i64 (m.Jv.length:Nat)),(118,wv),(119,.int .i64 (way.length:Nat)),(120,.int .i64 (i:Nat))]/\
   lx g7 hy B O n (Zh n es) bv A C w br bx bB (tV m.on (way.take i)) M M L)
  way.length [(0,.pointer (some ⟨B,0,none⟩)),(5,.pointer (some ⟨P,0,none⟩)),(6,wv),(8,.int .i64 (m.Jv.length:Nat)),(118,wv),(119,.int .i64 (way.length:Nat)),(120,.int .i64 (0:Nat))] fD
  ⟨0,rfl,Og _,rfl,S7⟩ ?_
 clear S7 cN;clear hz;rintro k fr hy dJ ⟨i,rfl,hi,rfl,S8⟩;refine Uy ?_;refine Kl.intro (fun ht=>?_) (fun hf=>?_)
 .have s : i < way.length := CC ht
  clear ht;have gy:=dd.le S8.le;have gq:=gy.rl.TA i (by rw[y6];exact s);have en:=gy.rl.DH i (by rw[y6];exact s);rw[sY s]at en;have hv:=b6 way[i] (ZT s);have ar:way.take (i+1)=way.take i++[way[i]]:=Sb s;generalize way[i]=v at*;have gu:aIndexAddr Tryz.prog 59 (.slice (some ⟨O,0,none⟩) n n) (.int .i64 (v:Int))=some (.pointer (some ⟨O,v,none⟩)):=by rw[Wc eY AV Ji v hv];simp[Ip]
  obtain⟨h9,e9,Y,w9⟩:=S8.setO dJ hv;have gv:(tV m.on (way.take i)).set v true=tV m.on (way.take (i+1)):=by rw[ar];unfold tV;rw[gS];rfl
  rw[gv]at Y;have aw:=aaa i (by grind [le_4]);simp only[HO,Nat.reduceLT,↓reduceIte,Nat.reduceEqDiff,reduceCtorEq,gq,en,fb,S8.f.l2,gu,e9,aw];exact tn (way.length-(i+1)) [(0,.pointer (some ⟨B,0,none⟩)),(5,.pointer (some ⟨P,0,none⟩)),(6,wv),(8,.int .i64 (m.Jv.length:Nat)),(118,wv),(119,.int .i64 (way.length:Nat)),(120,.int .i64 (i+1:Nat))] (JS s) fD ⟨i+1,rfl,s,rfl,Y⟩
 have Z:way.length<=i:=vp hf;rw[yM Z]at S8;clear Z hf hi;have gz:=S8.le.own _ _ ej;have b0:=cK.trans aW;have r6:=((dF.le Nn.RP bo).le Nn.RP b0);have r4:=((dE.le bo).le b0);refine Sk (XC cz (lP2 gz)) ?_;refine TC.intro PJ ⟨Md,rfl,WY⟩ (QY W0 c (kz p.fits) hy (r6.le Nn.RP S8.le) (by rw[y6];exact Xi dB aP T)) ?_;rintro y h9 w9 ⟨g9,l9,a9⟩;obtain⟨av,a7,de,eo,gA,ep,iD,iE,er,hT⟩:=g9.push w9 ((m.Jv.length:Nat):Int) (by grind [y6]);obtain⟨et,gC⟩:=er hy l9 a9;have aK:kz p.fits++[((m.Jv.length:Nat):Int)]=kz (p.fits++[m.Jv.length]):=by simp[kz]
 rw[aK]at ep;obtain⟨a8,ag⟩:=(S8.up et).pV;have az:GI (Hg de B O A C w) av (kz (p.fits++[m.Jv.length])):=Pv (h:=de) S8 ep gC;have eu:=ag.own _ _ ej;have ev:=a8.le.own _ _ eu;have gE:=dd.le ag;simp only[DQ]at eo;refine Sk (IX @DQ eo gA fi (lP0 ev)) ?_;refine TC.intro PJ ⟨Tryz.func103,rfl,WY⟩ (Bs W0 B n bv _ A C w a wv p.zp way de a8.f ((r4.le ag).le a8.le) (gE.le a8.le).rl cE b6 NH NH NH) ?_;rintro y2 gJ iF ⟨gM,gR,iI⟩;obtain⟨aj,b1⟩:=(a8.up gR).pV;have dg:(V8 n p.zp way).Sublist p.zp:=eR;have dj:aV n (V8 n p.zp way):=fun e he=>cE e (dg.subset he);have dk:(V8 n p.zp way).length<=594:=by grind [List.Sublist.length_le]
 generalize iK:V8 n p.zp way=wo at*;refine Uy ?_;refine TC.intro PJ ⟨Tryz.func102,rfl,WY⟩ (Xr W0 B n bv _ A C w y2 (tV m.on way) wo gJ aj.f aj.rlO aj.ZA gM.pr dj NH NH) ?_;rintro x V gT ⟨vs,OP⟩;obtain⟨ew,b2⟩:=(aj.up OP.sep.le).pV;have dm:vX n (tV m.on way) wo=(qT (Wg (tV m.on way)) (grpsM (frL n (Wg (tV m.on way)) wo) wo [] wo.length)).map fun q=>⟨q.1,q.2,[]⟩:=by
  unfold vX qT;rw[b7];rfl
 have b9:∀q∈qT (Wg (tV m.on way)) (grpsM (frL n (Wg (tV m.on way)) wo) wo [] wo.length),(∀z∈q.2,∃v:Nat,z=(v:Int)/\v<n)/\q.2.length<=n:=fun q W=>by
  obtain⟨gr,gU,rfl⟩:=Z6.1 W;obtain⟨-,-,-,-,ey⟩:=Pt (frL n (Wg (tV m.on way)) wo) wo [] wo.length;have cg:=ey gr gU;refine⟨fun z G=>?_,Qr dj cg⟩;obtain⟨_,e,he,h⟩:=zS.1 (((VW _).2 z).1 G);obtain⟨u,v,rfl,iL,iM⟩:=jB dj (cg e he);simp only at h;rcases h with rfl|rfl
  .grind
  grind
 have eA:(qT (Wg (tV m.on way)) (grpsM (frL n (Wg (tV m.on way)) wo) wo [] wo.length)).length<=wo.length:=by
  unfold qT;rw[jz];exact(Pt _ _ _ _).2.2.2.1
 rw[dm];generalize qT (Wg (tV m.on way)) (grpsM (frL n (Wg (tV m.on way)) wo) wo [] wo.length)=ps at*;have gV:=OP.len_;have gx:GS 3 (Hg V B O A C w) x ps.length (cellsO vs ps.length):=Pv (h:=V) aj OP.sl (OP.sep.ap 0 x rfl);have gZ:∀(j:Nat) q,ps[j]?=some q->GP (Hg V B O A C w) (vs.getD (2*j) rW) q.1/\GI (Hg V B O A C w) (vs.getD (2*j+1) rW) q.2:=fun j q W=>by
  obtain⟨k1,k2⟩:=OP.ge j q W;have hj:=(Ny.1 W).1;have iT:=OP.len;exact⟨Pv (h:=V) aj k1 (OP.sep.ap _ _ (u6 OP NH)),Pv (h:=V) aj k2 (OP.sep.ap _ _ (u6 OP NH))⟩
 have dp:=az.le (b1.trans b2);have hl:Le g (Hg V B O A C w):=b5.trans (bo.trans (b0.trans (ag.trans (b1.trans b2))));have aJ:∀z∈p.fits++[m.Jv.length],z<M.length:=fun z G=>by
  rw[dO];rcases qL7.1 G with h|h
  .have:=(((I.Aa p aa).fits z).1 h).1;omega
  .have:=jf.1 h;omega
 have dS:L.length<=594:=pw;clear OP b2 aj b1 a8 ag S8;generalize Hg V B O A C w=eB at*;refine Sk gV ?_;refine aab.intro (fun k fr W=>∃(i:Nat) (bb:AHeap) (al:List Value) (R:Value),k=ps.length-i/\i<=ps.length/\fr=mkF [(0,.pointer (some ⟨B,0,none⟩)),(13,av),(143,x),(144,.int .i64 (ps.length:Nat)),(145,.int .i64 (i:Nat))]/\
   lx bb W B O n (Zh n es) bv A C R br bx al (tV m.on way) M M (L++(ps.take i).map fun q=>⟨q.1,q.2,zh M q.2 (p.fits++[m.Jv.length])⟩)/\Le eB bb)
  ps.length [(0,.pointer (some ⟨B,0,none⟩)),(13,av),(143,x),(144,.int .i64 (ps.length:Nat)),(145,.int .i64 (0:Nat))] fD
  ⟨0,eB,bB,w,rfl,Og _,rfl,by simpa using ew,Le.refl _⟩ ?_
 clear ew gT;clear V;rintro k fr W aT ⟨i,bb,al,R,rfl,hi,rfl,aC,U⟩;refine Uy ?_;refine Kl.intro (fun ht=>?_) (fun hf=>?_)
 .have s : i < ps.length := CC ht
  clear ht;have hn:=BS s;obtain⟨ge,gf⟩:=gZ i _ hn;obtain⟨eC,eE⟩:=b9 _ (ZT s);have ar:ps.take (i+1)=ps.take i++[ps[i]]:=Sb s;generalize ps[i]=q at*;have eF:=gx.le (U.trans aC.le);obtain⟨z1,z2,z3⟩:=aY vs ps.length s;have cR:=eF.load3 s z1 z2 z3;have bF:=eF.ad3 s;have ck:=ge.le U;have b3:=gf.le U;generalize vs.getD (2*i) rW=a' at*;generalize vs.getD (2*i+1) rW=X at*;obtain⟨iW,hx,hC,hD,hE,iX,oQ,iY⟩:=Od aT (a:=a') (b:=X) (c:=rW) ck.pr.sl.one b3.rl.one rfl;have bg:=aC.up hE
  have dQ:∀z,InS B O A C R z->z≠W.next:=fun z G e=>by
   have:=(aC.own G).2;rw[e]at this
   exact this ((Le.refl W).next aT (qL0 _))
  have eG:bb.own W.next=none:=aC.le.next aT (qL0 _)
  generalize W.next=Q at*
  have aq:=pB Q 1 NH;have ae:=pB Q 2 NH;have aw:=aaa i (by grind [QJ]);refine Sk (bG bF cR hC hD aq (lP1 oQ)) ?_;refine TC.intro PJ ⟨ahp,rfl,WY⟩ (NR W0 B n bv _ A C R X av M q.2 (p.fits++[m.Jv.length]) hx bg.f bg.rlI ((b3.le bg.le).rl) (((dp.le U).le bg.le).rl) eC aJ (sr eE bk) (by rw[j9,QD];exact ig dB aP T)) ?_;rintro y aD eH ⟨dq,eI,eM⟩;have cp:=eI.own _ _ oQ;have st:=QB (P:=Tryz.prog) (t:=49) (x:=y) Ac Ji cp (off:=2) Ma dq.rl.sl.cell dq.rl.one;have aH:([a',X,rW]:List Value).set 2 y=[a',X,y]:=rfl;rw[aH]at st;have cq:(aD.put Q (.cells [a',X,y])).own Q=some (.cells [a',X,y]):=AHeap.Y3 _ _ _;have hF:WF (aD.put Q (.cells [a',X,y])):=eH.put _ (eH.lt cp);have hG:blk y≠some Q:=fun e=>by have:=eM Q e;grind
  have hI:=GS.put dq (fK.cells [a',X,y]) hG;have eO:∀z o,z≠Q->aD.own z=some o->(aD.put Q (.cells [a',X,y])).own z=some o:=fun z o G ho=>by rw[AHeap.By _ _ _ _ G];exact ho
  have eP:=bg.up eI;have hJ:lx bb (aD.put Q (.cells [a',X,y])) B O n (Zh n es) bv A C R br bx al (tV m.on way) M M (L++(ps.take i).map fun q=>⟨q.1,q.2,zh M q.2 (p.fits++[m.Jv.length])⟩):=
   eP.other (eP.le.put _ eG) fun z o G ho=>eO z o (dQ z G) ho
  obtain⟨dv,b4⟩:=hJ.pV;have gy:GI (Hg (aD.put Q (.cells [a',X,y])) B O A C R) y (kz (zh M q.2 (p.fits++[m.Jv.length]))):=Pv (h:=aD.put Q (.cells [a',X,y])) bg hI eM;obtain⟨eQ,ja,jb,je,hK,hL,hM,hN,jg,eS,hP,-⟩:=dv.pushL hF (a:=a') (b:=X) (c:=y) (p:=⟨q.1,q.2,zh M q.2 (p.fits++[m.Jv.length])⟩) ((ck.le b4).pr) ((b3.le b4).rl) gy.rl (app_b dS (Hs eA dk) i);have hQ:=OU cq;have eT:=OU (eS.own _ _ cq);have hS:=dv.f.le eS;simp only[HO,Nat.reduceLT,↓reduceIte,Nat.reduceEqDiff,reduceCtorEq,ae,st];refine gh (tA [0,1,2,3,4,5] (JQ 6 [5] (JQ 7 [4,6] (tA [8,9] (JQ 10 [0,1,2,3,4,5,6,7,9] .done))))) ?_;simp only[HO,Nat.reduceLT,↓reduceIte,Nat.reduceEqDiff,reduceCtorEq,Nat.reduceBEq,Qg,J,dv.f.l5,hS.l5,hP.l5,hQ,eT,hK,hL,hM,aw];refine tn (ps.length-(i+1)) [(0,.pointer (some ⟨B,0,none⟩)),(13,av),(143,x),(144,.int .i64 (ps.length:Nat)),(145,.int .i64 (i+1:Nat))] (JS s) fD
   ⟨i+1,_,al++[a',X,y],eQ,rfl,s,rfl,?_,U.trans b4⟩
  rw[ar,bC,<-Ki];exact hN
 have Z:ps.length<=i:=vp hf;rw[yM Z]at aC;refine Uy ?_;refine⟨bb,hl.trans U,aC.le,.inr ⟨_,A,C,R,br,bx,al,rfl,trivial,?_⟩⟩;simp only;rw[<-aX,b7];exact aC
variable {T:AM} {b0:AHeap} {j m t w:Nat}
theorem Rows.setRow {L:Nat} (R:Rows b0 h L us rows) (c:WF h) (hw:w<us.length) {u:Value} {r:RZ} (g:GI h u r) (k:Z2 b0 u) (i:blk u≠some L) (hd:∀(v:Nat) a b,us[v]?=some a->blk a=some b->blk u≠some b):
  ∃h',aStore Tryz.prog h 49 (.pointer (some ⟨L,w,none⟩)) u=some h'/\Rows b0 h' L (us.set w u) (rows.set w r)/\WF h'/\Le (h.kill L) h'/\∀b o,b≠L->h.own b=some o->h'.own b=some o:=by
 have st:=QB (P:=Tryz.prog) (t:=49) (x:=u) Ac Ji R.oL (off:=w) hw g.rl.sl.cell g.rl.one;have keep:∀b o,b≠L->h.own b=some o->(h.put L (.cells (us.set w u))).own b=some o:=fun b o hb l=>by grind [AHeap.By]
 have key:∀(v:Nat) a,(us.set w u)[v]?=some a->(v=w/\a=u)\/(v≠w/\us[v]?=some a):=fun v a ha=>by grind
 refine⟨_,st,⟨AHeap.Y3 _ _ _,by grind [Rows.len],fun v a q ha d=>?_,fun v a ha=>?_,fun v w' a a' b j ha mi hb=>?_,fun v a ha=>?_,R.le.put _ R.bL,R.bL⟩,c.put _ (c.lt R.oL),((Le.Qz h L).put _ (AHeap.Dg _ _)),keep⟩
 .rcases key v a ha with ⟨e, f⟩ | ⟨e, f⟩
  .rw [e, fj, if_pos rfl] at d
   simp only[show w<rows.length by grind,if_true]at d;injection d with d;rw[f,<-d];exact GS.put g _ i
  grind [GS.put,Rows.gs,Rows.nL]
 .grind [Rows.nL]
 .rcases key v a ha with ⟨e, f⟩ | ⟨e, f⟩
  .grind
  grind [Rows.TE]
 grind [Rows.ap]
def xi (n:Nat) (a:List (Nat×Nat×Nat)):AM:=a.foldl XN (List.replicate n (List.replicate n (-1)))
def adh {n:Nat}:∀(a:List (Nat×Nat×Nat)) (T:AM),(T.length=n/\∀v,v<n->(T.getD v []).length=n)->(a.foldl XN T).length=n/\∀v,v<n->((a.foldl XN T).getD v []).length=n
 |[],_,h=>h
 |t::a,T,h=>adh a (XN T t) (sQ h)
theorem BA (n:Nat):(List.replicate n (List.replicate n (-1:Int))).length=n/\∀v,v<n->((List.replicate n (List.replicate n (-1:Int))).getD v []).length=n:=pw
theorem ZB (n:Nat) (a:List (Nat×Nat×Nat)) (t:Nat×Nat×Nat):xi n (a++[t])=XN (xi n a) t:=by grind [xi]
def Hz (n i:Nat):AM:=List.replicate i (List.replicate n (-1))++List.replicate (n-i) []
def jG (h:i<n):(Hz n i).set i (List.replicate n (-1))=Hz n (i+1):=by
 unfold Hz;rw[iU _ _ Ma,List.length_replicate,Q4,List.replicate_succ',show n-i=(n-(i+1))+1 by omega,agS];simp
def BU (n:Nat) (T rows:AM) (i k:Nat):AM:=(List.range i).map (lH T rows)++((List.range k).map fun t=>itI (T.getD i []) t ((rows.getD i []).getD 0 0))::List.replicate (n-(i+1)) []
theorem rowsR_at (n:Nat) (T rows:AM) (i k:Nat):(BU n T rows i k)[i]?=some ((List.range k).map fun t=>itI (T.getD i []) t ((rows.getD i []).getD 0 0)):=by grind [BU]
def ZX (n:Nat) (T rows:AM) (i k:Nat):(BU n T rows i k).set i (((List.range k).map fun t=>itI (T.getD i []) t ((rows.getD i []).getD 0 0))++[itI (T.getD i []) k ((rows.getD i []).getD 0 0)])=BU n T rows i (k+1):=by
 unfold BU;rw[iU _ _ Ma,jz,aex,Q4,Bx,bC];rfl
theorem Ow (h:i+1<n):BU n T rows i (rows.getD i []).length=BU n T rows (i+1) 0:=by
 unfold BU;rw[Bx,bC,Ki];congr 1;rw[show n-(i+1)=(n-(i+1+1))+1 by omega,agS];rfl
theorem iP (h:i+1=n):BU n T rows i (rows.getD i []).length=(List.range n).map (lH T rows):=by
 unfold BU;rw[<-h,Bx,bC,Q4];rfl
theorem j8 (h:0<n):BU n T rows 0 0=List.replicate n []:=by
 unfold BU;rw[show n=(n-1)+1 by omega,agS];simp
theorem H7 (h:j<m):((j:Int)+(m:Int)-1).tmod (m:Int)=(((j+m-1)%m:Nat):Int):=pw
theorem Y7 (h:0<m) (b:m<=1000):awrap .i64 ((a%m:Nat):Int)=((a%m:Nat):Int):=by
 have:a%m<m:=C4 _ h
 grind [cT]
def rh (h:t<m) (a:m<=1000):awrap .i64 ((t:Int)+(m:Int))=(t:Int)+(m:Int):=ie _ NH NH
def Ad (h:t<m) (a:m<=1000):awrap .i64 ((t:Int)+(m:Int)-1)=(t:Int)+(m:Int)-1:=ie _ NH NH
def nz_len (h:t<m):¬((m:Int)=0):=NH
theorem Wt (h:t<m):(((t+1:Nat):Int)).tmod (m:Int)=(((t+1)%m:Nat):Int):=pw
def FI (h:a<b):0<b:=afP (Og _) h
theorem pY (W0:LA) (B n:Nat) (bv ov fv iv lv:Value) (rows:AM) (F:Cs) (h:AHeap) (hs:Sr h B n bv ov fv iv lv) (hb:RL (RL RP) h bv rows) (hF:RL (RL RP) h fv (F.map kz)) (cd:rows.length=n)
  (h0:∀v,v<n->0<(rows.getD v []).length/\(rows.getD v []).length<=2000) (aT:∀f∈F,(∀x∈f,x<n)/\f.length<=1000) (hn:n<=300) (aW:0<n) (cf:F.length<=1000)
  (aX:∀v,v<n->∀k,k<=(rows.getD v []).length->∃u:Nat,u<n/\itI ((N4 n F).getD v []) k ((rows.getD v []).getD 0 0)=(u:Int)):
  AC Tryz.prog W0 54 [.pointer (some ⟨B,0,none⟩)] h fun x h'=>RL (RL RP) h' x (xY n rows F)/\Le h h':=by
 refine AC.vE ⟨Tryz.func54,rfl,WY⟩ Tryz.ntmps54 Tryz.results54 fun aj=>?_;simp only[Br,Nat.reduceAdd];have U:=sB B 0 NH;have a6:=sB B 1 NH;have a7:=sB B 3 NH;obtain⟨h1,e1,l1,w1,o1⟩:=Tt aj (List.replicate n rW);have mk:=mk57 h n NH;rw[e1]at mk
 have nL:h.own h.next=none:=(Le.refl h).next aj (qL0 _)
 have R0:Rows h h1 h.next (List.replicate n rW) (Hz n 0):=by grind [Rows.start,Hz]
 generalize h.next=L1 at*
 have a8:=fun g=>Jg (P:=Tryz.prog) (t:=27) (a:=some ⟨L1,0,none⟩) (n:=n) (cap:=n) yU g;have N:∀v,v<n->aIndexAddr Tryz.prog 27 (.slice (some ⟨L1,0,none⟩) n n) (.int .i64 (v:Int))=some (.pointer (some ⟨L1,v,none⟩)):=fun v O=>by rw[Wc yU Ac Ji v O];simp[Ip]
 simp only[HO,Nat.reduceLT,↓reduceIte,Nat.reduceEqDiff,reduceCtorEq,U,hs.l0,mk,a8];refine lIn (fun k fr s=>∃(i:Nat) (us:List Value),k=n-i/\i<=n/\fr=mkF [(0,.pointer (some ⟨B,0,none⟩)),(3,.slice (some ⟨L1,0,none⟩) n n),(20,.int .i64 (n:Nat)),(21,.int .i64 (i:Nat))]/\Rows h s L1 us (Hz n i)/\us.length=n) ⟨0,_,rfl,Og _,rfl,R0,Ma⟩ ?_;clear R0 mk o1 w1 l1 e1;clear h1;rintro k fr s al ⟨i,us,rfl,hi,rfl,R,m⟩;refine Uy ?_;refine Kl.intro (fun A=>?_) (fun hf=>?_)
 .have C : i < n := CC A
  clear A;obtain⟨h4,e4,l4,w4,o4⟩:=Tt al [.int .i64 (-1)];have s4:=hs.le (R.le.trans l4);refine Sk (xU @DQ e4 U s4.l0) ?_;refine TC.intro PJ ⟨NQ,rfl,WY⟩ (rN W0 _ n hn h4 (RL.Wh (RS.whole o4 rfl))) ?_;rintro x h5 w5 ⟨T,rfl,hT,o5,l5⟩;have R5:=(R.up l4).up l5;have gT:GI h5 (.slice (some ⟨T,0,none⟩) n n) (List.replicate n (-1)):=by
   have:h5.own T=some (.cells (Bp (List.replicate n (-1)))):=by rw[o5];simp[Bp]
   have:=GS.full (k:=1) (n:=n) this (by simp[Bp]) NH;show GS 1 h5 _ _ _
   grind
  have dT:∀{b o},h4.own b=some o->T≠b:=fun{b o} ob e=>by have:=w4.lt ob;omega
  obtain⟨h6,e6,R6,w6,-,-⟩:=R5.setRow w5 (w:=i) NH gT (fun b sZ=>by
    simp[blk]at sZ;subst sZ
    exact(R.le.trans l4).next w4 hT) (fun e=>by
    simp[blk]at e;exact dT (l4.own _ _ R.oL) e) (fun v a b ha sZ e=>by
    simp[blk]at e;have O:v<(Hz n i).length:=by grind [Rows.len]
    have:=GS.Sy (R.gs v a _ ha (BS O)) sZ;obtain⟨o,ho⟩:=Db.1 this
    grind [Le.own])
  rw[jG C]at R6;refine Sk (Yb (N i C) e6 (aaa i NH)) ?_;exact lgA (JS C) ⟨i+1,_,rfl,C,rfl,R6,by rw[adP];exact m⟩
 have y:n<=i:=vp hf;obtain rfl:i=n:=NH;clear y hf hi;have aq:Hz i i=xi i ((F.take 0).flatMap ZO):=by simp[Hz,xi]
 rw[aq]at R;have lF:=fun g=>hF.len (P:=Tryz.prog) yU g;rw[jz]at lF;have sq:=hs.le R.le;refine Sk (Yb a7 sq.l3 lF) ?_;refine lIn (fun k fr p=>∃(j:Nat) (us:List Value),k=F.length-j/\j<=F.length/\fr=mkF [(0,.pointer (some ⟨B,0,none⟩)),(3,.slice (some ⟨L1,0,none⟩) i i),(37,fv),(38,.int .i64 (F.length:Nat)),(39,.int .i64 (j:Nat))]/\Rows h p L1 us (xi i ((F.take j).flatMap ZO))/\us.length=i) ⟨0,us,rfl,Og _,rfl,R,m⟩ ?_;clear R m al aq sq;clear us s;rintro k fr p V ⟨j,us,rfl,hj,rfl,R,m⟩;refine Uy ?_;refine Kl.intro (fun A=>?_) (fun hf=>?_)
 .have D : j < F.length := CC A
  clear A;have bb:=hF.NS j (by rw[jz];exact D);obtain⟨u,lu,hu⟩:=hF.Wm j (by rw[jz];exact D);rw[List.getElem_map]at hu;obtain⟨bg,J⟩:=aT F[j] (ZT D);have cg:F.take (j+1)=F.take j++[F[j]]:=Sb D;generalize F[j]=f at*;have W:=fun g=>hu.Uc g;rw[y6]at W;simp only[HO,Nat.reduceLT,↓reduceIte,Nat.reduceEqDiff,reduceCtorEq,bb,lu p R.le,W];have R':Rows h p L1 us (xi i ((F.take j).flatMap ZO++(ZO f).take 0)):=by simpa using R
  refine lIn (fun k fr E=>∃(t:Nat) (us:List Value),k=f.length-t/\t<=f.length/\fr=mkF [(0,.pointer (some ⟨B,0,none⟩)),(3,.slice (some ⟨L1,0,none⟩) i i),(6,u),(37,fv),(38,.int .i64 (F.length:Nat)),(39,.int .i64 (j:Nat)),(43,u),(44,.int .i64 (f.length:Nat)),(45,.int .i64 (t:Nat))]/\Rows h E L1 us (xi i ((F.take j).flatMap ZO++(ZO f).take t))/\us.length=i) ⟨0,us,rfl,Og _,rfl,R',m⟩ ?_;clear R' R m V;clear us p;rintro k fr E X ⟨t,us,rfl,ck,rfl,R,m⟩;refine Uy ?_;have tl:(ZO f).length=f.length:=by simp[ZO]
  refine Kl.intro (fun A=>?_) (fun hf=>?_)
  .have l : t < f.length := CC A
   clear A;have fp:(t+f.length-1)%f.length<f.length:=C4 _ NH;have ar:(t+1)%f.length<f.length:=C4 _ NH;have ad:∀q,q<f.length->aIndexAddr Tryz.prog 49 u (.int .i64 (q:Int))=some (.pointer (some (elemAddr u q))):=fun q s=>hu.TA q (by rw[y6];exact s);have ld:∀q (s:q<f.length),aload Tryz.prog E 3 (elemAddr u q)=some (.int .i64 ((f.getD q 0:Nat):Int)):=fun q s=>by rw[(hu.le Nn.RP R.le).DH q (by rw[y6];exact s),sY s,D4 s]
   have mm:∀q,q<f.length->f.getD q 0<i:=fun q s=>by rw[D4 s];exact bg _ (ZT s)
   have bh:(ZO f).take (t+1)=(ZO f).take t++[(f.getD t 0,f.getD ((t+f.length-1)%f.length) 0,f.getD ((t+1)%f.length) 0)]:=by
    rw[Sb (by rw[tl];exact l)];congr 2;unfold ZO;rw[List.getElem_map,List.getElem_range]
   have O:=mm t l;have cm:=mm _ fp;have d:=adh ((F.take j).flatMap ZO++(ZO f).take t) _ (BA i);obtain⟨K,Y⟩:∃a,us[f.getD t 0]?=some a:=⟨_,BS NH⟩;have Q:(xi i ((F.take j).flatMap ZO++(ZO f).take t))[f.getD t 0]?=some ((xi i ((F.take j).flatMap ZO++(ZO f).take t)).getD (f.getD t 0) []):=by grind [xi,D4]
   have S:f.getD ((t+f.length-1)%f.length) 0<((xi i ((F.take j).flatMap ZO++(ZO f).take t)).getD (f.getD t 0) []).length:=by grind [xi]
   obtain⟨h9,e9,R9,w9,-,-⟩:=R.put X Y Q S ((f.getD ((t+1)%f.length) 0:Nat):Int);have bk:=R.gs _ K _ Y Q;have bm:=(show GI E K _ from bk).rl.TA _ S;have bo:aload Tryz.prog E 49 ⟨L1,f.getD t 0,none⟩=some K:=by rw[Fq Ac rfl R.oL];exact Y
   have br:awrap .i64 ((t:Int)+(f.length:Int))=(t:Int)+(f.length:Int):=rh l J;have bx:awrap .i64 ((t:Int)+(f.length:Int)-1)=(t:Int)+(f.length:Int)-1:=Ad l J;have nz:¬((f.length:Int)=0):=nz_len l;have bB:=H7 l;have bF:awrap .i64 (((t+f.length-1)%f.length:Nat):Int)=(((t+f.length-1)%f.length:Nat):Int):=Y7 (FI l) J;have aw:=aaa t (Lb l (Hs J WY));have bH:(((t+1:Nat):Int)).tmod (f.length:Int)=(((t+1)%f.length:Nat):Int):=Wt l;have bI:awrap .i64 (((t+1)%f.length:Nat):Int)=(((t+1)%f.length:Nat):Int):=Y7 (FI l) J;simp only[HO,Nat.reduceLT,↓reduceIte,Nat.reduceEqDiff,reduceCtorEq,ad t l,ld t l];refine gh (tA [0,1,2,3,4,5,6,7,8,9,10,11,12,13,14,15,16,17,18,19,20] .done) ?_;simp only[HO,Nat.reduceLT,↓reduceIte,Nat.reduceEqDiff,reduceCtorEq,Nat.reduceBEq,Qg,W,br,bx,nz,bB,bF,aw,bH,bI,ad _ fp,ad _ ar,ld _ fp,ld _ ar,N _ O,bo,bm,e9];refine lgA (JS l) ⟨t+1,us,rfl,l,rfl,?_,m⟩;rw[bh,<-Ki,ZB];exact R9
  .have y : f.length <= t := vp hf
   have bN:(ZO f).take t=ZO f:=yM pw;rw[bN]at R;refine Sk (aaa j NH) ?_;refine lgA (JS D) ⟨j+1,us,rfl,D,rfl,?_,m⟩
   grind
 have y:F.length<=j:=vp hf;rw[yM y]at R;have eT:xi i (F.flatMap ZO)=N4 i F:=rfl;rw[eT]at R;have dT:(N4 i F).length=i/\∀v,v<i->((N4 i F).getD v []).length=i:=adh (F.flatMap ZO) _ (BA i);clear y hf hj eT;have sz:=hs.le R.le;obtain⟨h7,e7,l7,w7,o7⟩:=Tt V (List.replicate i rW)
 have mk:aMakeSlice Tryz.prog p 28 (.int .i64 (i:Int)) (.int .i64 (i:Int))=some (.slice (some ⟨p.next,0,none⟩) i i,p.alloc (.cells (List.replicate i rW))):=
  Ye (P:=Tryz.prog) (t:=28) (z:=.slice none 0 0) p qS38 Ji rfl rfl rfl Ji Ac Ji i NH
 rw[e7]at mk
 have cp:p.own p.next=none:=(Le.refl p).next V (qL0 _)
 have I:Rows p h7 p.next (List.replicate i rW) (BU i (N4 i F) rows 0 0):=by grind [j8,Rows.start]
 have av:=R.rl (n:=i) (c:=i) m
 generalize p.next=L2 at*
 have ay:=fun g=>Jg (P:=Tryz.prog) (t:=28) (a:=some ⟨L2,0,none⟩) (n:=i) (cap:=i) qS38 g;have az:∀v,v<i->aIndexAddr Tryz.prog 28 (.slice (some ⟨L2,0,none⟩) i i) (.int .i64 (v:Int))=some (.pointer (some ⟨L2,v,none⟩)):=fun v O=>by rw[Wc qS38 Ac Ji v O];simp[Ip]
 simp only[HO,Nat.reduceLT,↓reduceIte,Nat.reduceEqDiff,reduceCtorEq,U,sz.l0,mk,ay];refine lIn (fun k fr E=>∃(v:Nat) (us:List Value),k=i-v/\v<=i/\fr=mkF [(0,.pointer (some ⟨B,0,none⟩)),(3,.slice (some ⟨L1,0,none⟩) i i),(11,.slice (some ⟨L2,0,none⟩) i i),(84,.int .i64 (i:Nat)),(85,.int .i64 (v:Nat))]/\us.length=i/\((v<i/\Rows p E L2 us (BU i (N4 i F) rows v 0))\/(v=i/\Rows p E L2 us ((List.range i).map (lH (N4 i F) rows))))) ⟨0,_,rfl,Og _,rfl,Ma,.inl ⟨aW,I⟩⟩ ?_;clear I mk o7 w7 l7 e7;clear h7;rintro k fr E X ⟨v,G,rfl,O,rfl,r,bQ⟩;refine Uy ?_;refine Kl.intro (fun A=>?_) (fun hf=>?_)
 .have H : v < i := CC A
  clear A;have I:Rows p E L2 G (BU i (N4 i F) rows v 0):=pw;clear bQ;have Z:v<rows.length:=pw;have bW:rows.getD v []=rows[v]:=D4 Z;have bY:=hb.NS v Z;obtain⟨bu,bZ,L⟩:=hb.Wm v Z;rw[<-bW]at L;obtain⟨aC,cq⟩:=h0 v H;have aD:=aX v H;have b0:=fun g=>L.Uc g;have aF:=L.TA 0 aC;have M:=R.le.trans I.le;have aa:=(L.le Nn.RP M).DH 0 aC;have g0:(rows.getD v [])[0]=itI ((N4 i F).getD v []) 0 ((rows.getD v []).getD 0 0):=by
   show _=(rows.getD v []).getD 0 0
   grind [D4]
  rw[g0]at aa;simp only[JR]at aF;have sy:=hs.le M;have ae:v<(N4 i F).length:=pw;have b1:=av.NS v ae;obtain⟨tu,b2,ag⟩:=av.Wm v ae;have b3:(N4 i F)[v]=(N4 i F).getD v []:=(D4 ae).symm;rw[b3]at ag;have aH:=dT.2 v H;simp only[HO,Nat.reduceLT,↓reduceIte,Nat.reduceEqDiff,reduceCtorEq,a6,sy.l1,bY,bZ E M,aF,aa,b0];refine aab.intro (fun k fr hx=>∃(q:Nat) (us:List Value),k=(rows.getD v []).length-q/\q<=(rows.getD v []).length/\fr=mkF [(0,.pointer (some ⟨B,0,none⟩)),(3,.slice (some ⟨L1,0,none⟩) i i),(11,.slice (some ⟨L2,0,none⟩) i i),(12,.int .i64 (v:Nat)),(13,.int .i64 (itI ((N4 i F).getD v []) q ((rows.getD v []).getD 0 0))),(84,.int .i64 (i:Nat)),(85,.int .i64 (v:Nat)),(104,.int .i64 ((rows.getD v []).length:Nat)),(105,.int .i64 (q:Nat))]/\us.length=i/\Rows p hx L2 us (BU i (N4 i F) rows v q))
   (rows.getD v []).length [(0,.pointer (some ⟨B,0,none⟩)),(3,.slice (some ⟨L1,0,none⟩) i i),(11,.slice (some ⟨L2,0,none⟩) i i),(12,.int .i64 (v:Nat)),(13,.int .i64 (itI ((N4 i F).getD v []) 0 ((rows.getD v []).getD 0 0))),(84,.int .i64 (i:Nat)),(85,.int .i64 (v:Nat)),(104,.int .i64 ((rows.getD v []).length:Nat)),(105,.int .i64 (0:Nat))] fD
   ⟨0,G,rfl,Og _,rfl,r,I⟩ ?_
  clear I r X sy aa M;clear G E;rintro k fr hx b4 ⟨q,G,rfl,s,rfl,r,I⟩;refine Uy ?_;refine Kl.intro (fun A=>?_) (fun hf=>?_)
  .have aJ : q < (rows.getD v []).length := CC A
   clear A;obtain⟨w,aK,ew⟩:=aD q s;have eN:itI ((N4 i F).getD v []) (q+1) ((rows.getD v []).getD 0 0)=((N4 i F).getD v []).getD w 0:=by grind [itI,Int.toNat_natCast]
   obtain⟨uo,un,h9,cx,b5,k1,k2,k3,k4,k5,k6,k7,R3,cz,kk⟩:=I.push b4 (rowsR_at i (N4 i F) rows v q) (itI ((N4 i F).getD v []) q ((rows.getD v []).getD 0 0)) pw;rw[ZX]at R3;have b6:aload Tryz.prog hx 49 ⟨L2,v,none⟩=some uo:=by rw[Fq Ac rfl I.oL];exact k1
   have b8:=ag.TA w (by rw[aH];exact aK);have aP:=(ag.le Nn.RP R3.le).DH w (by rw[aH];exact aK);have b9:((N4 i F).getD v [])[w]'(by grind)=((N4 i F).getD v []).getD w 0:=(D4 _).symm
   rw[b9,<-eN]at aP;rw[ew]at k2
   have cc:aBuildSlice Tryz.prog hx 49 1 [(0,.int .i64 (w:Int))]=some (.slice (some ⟨hx.next,0,none⟩) 1 1,h9):=by rw[DQ,k2]
   refine Sk (rk (az v H) b6 ew cc k3 k4 b1 (b2 b5 R3.le) b8 aP (aaa q NH)) ?_;exact lgA (JS aJ) ⟨q+1,_,rfl,aJ,rfl,pw,R3⟩
  .have y : (rows.getD v []).length <= q := vp hf
   obtain rfl:q=(rows.getD v []).length:=NH;refine Sk (aaa v NH) ?_;refine lgA (JS H) ⟨v+1,G,rfl,H,rfl,r,?_⟩;by_cases c:v+1<i
   .grind [Ow]
   grind [iP]
 have y:i<=v:=vp hf;have I:Rows p E L2 G ((List.range i).map (lH (N4 i F) rows)):=pw;refine Uy ?_;exact⟨I.rl r,R.le.trans I.le⟩
variable {ps web:List Pr} {v:Value}
def Xy (fr:Pr->Nat->Int) (r:Nat×Pr×List Pr):Int×List Pr:=(fr r.2.1 r.1,r.2.2)
theorem Ij {es web:List Pr} {fr fr':Pr->Nat->Int} (h:∀(j d:Nat) e e',es[j]?=some e->es[d]?=some e'->e∉web->e'∉web->(fr e j=fr e' d↔fr' e j=fr' e' d)) {i:Nat} {p:Pr} (f:es[i]?=some p) (hw:p∉web):
  ∀rs:List (Nat×Pr×List Pr),(∀r∈rs,es[r.1]?=some r.2.1/\r.2.1∉web)->∃a:List (Nat×Pr×List Pr),(∀r∈a,es[r.1]?=some r.2.1/\r.2.1∉web)/\addG (rs.map (Xy fr)) (fr p i) p=a.map (Xy fr)/\addG (rs.map (Xy fr')) (fr' p i) p=a.map (Xy fr')
 |[],_=>⟨[(i,p,[p])],pw,rfl,rfl⟩
 |r::rs,g=>by
  obtain⟨k,h2⟩:=g r Ma;have key:=h r.1 i r.2.1 p k f h2 hw;by_cases c:fr r.2.1 r.1=fr p i
  .have c' := key.1 c
   refine⟨(r.1,r.2.1,r.2.2++[p])::rs,fun q b=>?_,?_,?_⟩
   .rcases EL.1 b with rfl | b
    .grind
    grind
   .grind [Xy.eq_1,addG.eq_2]
   grind [Xy.eq_1,addG.eq_2]
  .have c' : ¬ fr' r.2.1 r.1 = fr' p i := fun q => c (key.2 q)
   obtain⟨a,k1,k2,l⟩:=Ij h f hw rs fun q b=>g q (by simp[b]);refine⟨r::a,fun q b=>?_,?_,?_⟩
   .rcases EL.1 b with rfl | b
    .grind
    grind
   .grind [Xy.eq_1,addG.eq_2]
   grind [Xy.eq_1,addG.eq_2]
theorem aeR {es web:List Pr} {fr fr':Pr->Nat->Int} (h:∀(j a:Nat) e e',es[j]?=some e->es[a]?=some e'->e∉web->e'∉web->(fr e j=fr e' a↔fr' e j=fr' e' a)):
  ∀i:Nat,∃rs:List (Nat×Pr×List Pr),(∀r∈rs,es[r.1]?=some r.2.1/\r.2.1∉web)/\grpsM fr es web i=rs.map (Xy fr)/\grpsM fr' es web i=rs.map (Xy fr')
 |0=>⟨[],Ma,rfl,rfl⟩
 |i+1=>by
  obtain⟨rs,b,h2,h3⟩:=aeR h i;cases c:es[i]? with
  |none=>grind [grpsM]
  |some p=>
   by_cases w:p∈web
   .grind [JJ]
   .rw [dh c w, dh c w, h2, h3]
    exact Ij h c w rs b
def frag_tog {L b:RZ} (hR:aV n es) (nd:es.Nodup) (f:wx n (fun u=>(Cb n web).getD u false) es L) (c:wx n (fun u=>(Cb n web).getD u false) es b):LJ n es web L=LJ n es web b:=by
 obtain⟨rs,-,h2,h3⟩:=aeR (es:=es) (web:=web) (fr:=Zo n (fun u=>(Cb n web).getD u false) L) (fr':=Zo n (fun u=>(Cb n web).getD u false) b)
  (fun j g e e' d a _ _=>(K2 hR nd f d a).trans (K2 hR nd c d a).symm) es.length
 unfold LJ;rw[h2,h3,b7,b7];rfl
theorem circ_hit (p:bX ⟨(n:Int),es⟩) (q:zW n es) {r:Nat->II} {F:Cs} (G:vy n r F) (s:∀x y,y∈r x↔y∈eN n es x):
  ∀v,v<n->∀k,k<=((Zh n es).getD v []).length->∃u:Nat,u<n/\itI ((N4 n F).getD v []) k (((Zh n es).getD v []).getD 0 0)=(u:Int):=by
 have hR:=p.GD;have m:∀f∈F,f.Nodup:=G.O.nd;let a:Nat->Nat->Nat:=fun v u=>nx (r v) u;have b:∀t∈F.flatMap ZO,t.1<n/\t.2.1<n/\t.2.2=a t.1 t.2.1:=fun t z=>by
  obtain⟨f,hf,h⟩:=Yi.1 z;obtain⟨o,h2,h3⟩:=vh (m f hf) h;obtain⟨D,E,H⟩:=G.O.pv hf o;have hi:=G.O.df G.Rl hf o;refine⟨G.Rl.lt _ _ hi,by rw[h2];exact G.Rl.lt _ _ (G.Rl.sy _ _ hi),?_⟩
  grind
 obtain⟨-,A⟩:=Vx (F.flatMap ZO) _ (BA n) b;have d:∀v u,u∈r v->MC (N4 n F) v u=(a v u:Int):=fun v u i=>by
  refine A v u (.inr ?_);obtain⟨f,hf,B,e⟩:=G.O.cover u v (G.Rl.sy _ _ i);have j:v∈f:=by grind [ZP]
  refine⟨_,Yi.2 ⟨f,hf,wA (m f hf) j⟩,rfl,?_⟩
  grind [c7]
 intro v j k _;obtain⟨w,hw⟩:=q.ne hR j;obtain⟨u,c,e⟩:=xD ((aU hR).2 ⟨w,hw⟩);have hb:=(qG n es).back hR v;have i:u∈r v:=(s v u).2 (by rw[e];simp);have C:(Zh n es).getD v []=(u:Int)::kz c:=by
  rw[<-hb];show(eN n es v).map _=_;rw[e];rfl
 rw[C];obtain⟨k1,k2⟩:=HN (T:=(N4 n F).getD v []) (g:=a v) (P:=fun x=>x∈r v) (fun x l=>d v x l) (fun x l=>ZP l) i k;exact⟨it (a v) k u,G.Rl.lt _ _ (G.Rl.sy _ _ k2),pw⟩
abbrev BP:=Fin 1000×Fin 1000
def qf (x:BP):Pr:=((x.1.1:Int),(x.2.1:Int))
def zM (x y:BP):Int:=if(x.1.1:Int)=(y.1.1:Int)then(x.2.1:Int)-(y.2.1:Int)else(x.1.1:Int)-(y.1.1:Int)
theorem Z9 (x y:BP):Go.Proofs.ltOf zM x y=ltP (qf x) (qf y):=by
 rw[abz,XW];unfold Go.Proofs.ltOf zM qf
 grind
theorem prB_inj {x y:BP} (h:qf x=qf y):x=y:=by grind [qf]
theorem swoB:Go.Sort.SWO (Go.Proofs.ltOf zM):=by
 refine⟨fun x=>?_,fun x y z a h2=>?_,fun x y z a h2=>?_⟩
 .grind [Z9,Nc]
 all_goals grind [Z9,Nc]
theorem VO (xs:List BP):Go.Sort.flatK (fun x=>xM (qf x)) 2 xs.toArray=(Iu (xs.map qf)).toArray:=by
 rw[<-flatK_P];apply Array.ext
 .simp
 .intro i a h2
  have b:i<xs.length*2:=by simpa using a
  have hi:i / 2<xs.length:=NH;simp only[Go.Sort.flatK,Array.getElem_map,Array.getElem_range]
  grind
def subB (a b:Fin 1000):awrap .i64 ((a.1:Int)-(b.1:Int))=(a.1:Int)-(b.1:Int):=ie _ NH NH
theorem X8 (f:LA) (x y:BP) (h:AHeap):AC Tryz.prog f 92 [UI (qf x),UI (qf y)] h fun v h'=>v=.int .i64 (zM x y)/\Le h h':=by
 refine AC.vE ⟨Tryz.func92,rfl,WY⟩ Tryz.ntmps92 Tryz.results92 fun e=>?_;simp only[Br,Nat.reduceAdd];obtain⟨g,i,l1,w1,j⟩:=Tt e (xM (qf x));obtain⟨h2,k,l2,w2,d⟩:=Tt w1 (xM (qf y));have c:=l2.own _ _ j;refine Sk (Yb @Ci i k) ?_
 generalize h.next=a at*
 generalize g.next=b at*
 have s1:awrap .i64 ((qf x).1-(qf y).1)=(qf x).1-(qf y).1:=subB x.1 y.1;have s2:awrap .i64 ((qf x).2-(qf y).2)=(qf x).2-(qf y).2:=subB x.2 y.2;refine Sk (Pj @Dh @Z0 @Ip.eq_1 @XJ (lK c) (HY c) (lK d) (HY d) s1 s2) ?_;refine Kl.intro (fun l=>?_) (fun hf=>?_)
 .refine Sk (Pj @Dh @Z0 @Ip.eq_1 @XJ (lK c) (HY c) (lK d) (HY d) s1 s2) ?_
  grind [qf,zM,Le.trans]
 .refine Sk (Pj @Dh @Z0 @Ip.eq_1 @XJ (lK c) (HY c) (lK d) (HY d) s1 s2) ?_
  grind [qf,zM,Le.trans]
def bp_of (hb:∀p∈ps,∃a b:Nat,p=((a:Int),(b:Int))/\a<1000/\b<1000):∃xs:List BP,ps=xs.map qf:=by
 induction ps with
 |nil=>exact⟨[],rfl⟩
 |cons p ps c=>
  obtain⟨xs,e⟩:=c fun q d=>hb q (by simp[d]);obtain⟨a,b,f,ha,sZ⟩:=hb p Ma;exact⟨(⟨a,ha⟩,⟨b,sZ⟩)::xs,by rw[e,f];rfl⟩
theorem sortB (xs:List BP):(xs.mergeSort fun x y=>!Go.Proofs.ltOf zM y x).map qf=sortP (xs.map qf):=by grind [sortP,List.map_mergeSort,Z9]
theorem CH (u:LA) (g:GP h v ps) (z:ps.length<=100000) (hb:∀p∈ps,∃a b:Nat,p=((a:Int),(b:Int))/\a<1000/\b<1000):
  AC Tryz.prog u 69 [v,.func (.func 92) #[] #[]] h fun x h'=>x=.tuple #[]/\GP h' v (sortP ps)/\∀f,Le f h->Z2 f v->Le f h':=by
 have A:∀args w,(callFunc 92 args).run Tryz.prog w=.ok (.enter 92 args) w:=enters_of Tryz.func92 Ji rfl;obtain⟨bs,i⟩:=bp_of hb;rcases g.cases z with⟨a,cap,rfl,rfl⟩|⟨id,c,cap,rfl,B,C,j,D,l,o⟩
 .refine (AC.ofNoneF fun a' cap' w => AnyF.slices_SortFunc_none { Tryz.sortP with } a' cap' (.func (.func 92) #[] #[]) w).mono ?_
  rintro x h' ⟨rfl,rfl⟩;exact⟨rfl,by simpa[sortP]using g,fun f q _=>q⟩
 .have r : bs.length = ps.length := pw
  have key:=fun(blk off cap':Nat) (w:World) s hb (d:ps.length<=cap')=>
   AnyQ.slices_SortFunc_total (α:=BP) Tryz.sortP 2 Tryz.isAgg38 Tryz.sizeOf38 (fun x=>xM (qf x)) (fun _=>rfl) (fun x v E=>(Aq [qf x] v (by simpa[Iu]using E)).2) zM swoB 92 #[] blk off cap' bs.toArray w A
    (fun m os G _ x y=>AC.grown (args:=[UI (qf x),UI (qf y)]) _ ((X8 _ x y _).mono fun _ _ h=>h.1) (fun m=>valP_vrs m (qf x) (qf y))) s hb (by simp;omega)
    (fun x y H h2=>by grind [Z9,Nc,prB_inj])
  refine(AC.ofRowK (k:=2) (xs:=Iu ps) (ys:=Iu (sortP ps)) B C (Ta _) (by rw[Ta,ZS]) o l D (fun y F=>(Aq ps y F).1) (Aq _) fun blk off cap' w s hb d=>?_).mono ?_
  .have t:Go.Sort.HoldsK (fun x:BP=>xM (qf x)) 2 w blk off bs.toArray:=by
    unfold Go.Sort.HoldsK;rw[VO,<-i];exact s
   have k:=key blk off cap' w t hb d;rw[show bs.toArray.size=ps.length by simp[r]]at k;refine k.mono ?_;rintro e w' ⟨rfl,n,os,rfl⟩;refine⟨rfl,n,os,?_⟩;unfold Go.Proofs.sortWorldK Go.Sort.putRowK;rw[VO,sortB,<-i];rfl
  .rintro x h' ⟨rfl, rfl⟩
   refine⟨rfl,?_,fun f q af=>q.put _ (af id rfl)⟩;rw[GP,ZS];refine⟨by rw[Ta,ZS],.inr ⟨id,_,cap,rfl,AHeap.Y3 _ _ _,?_,j⟩⟩
   grind [Ta,ZS]
variable {F1 F2:Cs} {on:List Bool}
theorem AC.side {P:Program} {d:LA} {f:FuncId} {args:List Value}:∀(X:II) (h:AHeap) (Q:Value->AHeap->Prop),(∀b∈X,h.own b≠none)->X.Nodup->AC P d f args (rem X h) Q->
  AC P d f args h fun x h'=>∃g,Q x g/\Le g h'/\∀b∈X,g.own b=none/\h'.own b=h.own b
 |[],h,Q,_,_,q=>q.mono fun x h' i=>⟨h',i,Le.refl _,fun b hb=>by cases hb⟩
 |a::l,h,Q,e,nd,q=>by
  have q:AC P d f args ((rem l h).kill a) Q:=q;have j:∀b∈l,h.own b≠none:=fun b hb=>e b (by simp[hb]);obtain⟨k,nl⟩:=aaf.1 nd;obtain⟨o,m⟩:=Db.1 (e a Ma);have c:(rem l h).own a=some o:=by grind [DC]
  refine(AC.side l h _ j nl (AC.frame c q)).mono ?_
  grind [Le.Y5,Le.trans,Le.own,AHeap.Y3,AHeap.By]
theorem lx.ndX (S:lx g h B O n rows bv fv iv lv us ws cs on F1 F2 left):(B::O::(bl fv++bl iv++bl lv)).Nodup:=by
 have d:=S.sep.TE;have n1:=S.nb fv Ma;have c:=S.nb iv Ma;have n3:=S.nb lv Ma;have nd:∀v,(bl v).Nodup:=fun v=>by grind [bl]
 simp only[aaf,EL,qL7,Zr,AE,not_or];refine⟨⟨S.bO,⟨n1.1,c.1⟩,n3.1⟩,⟨⟨n1.2,c.2⟩,n3.2⟩,⟨nd _,nd _,fun a ha b hb e=>?_⟩,nd _,fun a ha b hb e=>?_⟩
 .subst e;exact d 0 1 fv iv a NH rfl rfl ha hb
 .subst e
  rcases ha with ha|ha
  .exact d 0 2 fv lv a NH rfl rfl ha hb
  .exact d 1 2 iv lv a NH rfl rfl ha hb
theorem lx.side {i:LA} {P:Program} {g h:AHeap} {B O n:Nat} {rows:AM} {bv c d e:Value} {us ws cs:List Value} {on:List Bool} {j m:Cs} {left:List wW} (S:lx g h B O n rows bv c d e us ws cs on j m left)
  {f:FuncId} {args:List Value} {Q:Value->AHeap->Prop} (q:AC P i f args (Hg h B O c d e) fun x a=>Le (Hg h B O c d e) a/\Q x a):
  AC P i f args h fun x h'=>∃a,Q x a/\lx a h' B O n rows bv c d e us ws cs on j m left/\Le h h'/\Le (Hg h B O c d e) a/\Le a h':=by
 refine(AC.side _ h _ (fun b hb=>(S.own (HX.1 hb)).2) S.ndX q).mono ?_;rintro x h' ⟨a,⟨l1,p⟩,l2,k⟩;have l:Le h h':=⟨by
   have:=(l1.trans l2).ext;rw[this];exact vL _,fun b o r=>by grind [Le.own,Hg,DC]⟩
 obtain⟨s,l3⟩:=S.pV
 grind [lx.up,lx.ground,HX]
def okc (k:Nat) (v:Value):Prop:=∃a n c,v=.slice a n c/\((n<=c/\c<RA)\/(c=RA+k/\a.isSome=true))
def GS.okc {k n:Nat} {h:AHeap} {v:Value} {cs:List Value} (g:GS k h v n cs):okc k v:=by
 obtain⟨-,⟨rfl,b⟩|⟨id,c,cap,rfl,d,e,rfl|⟨rfl,a⟩⟩⟩:=g
 .exact⟨none,0,0,rfl,.inl ⟨qL0 _,WY⟩⟩
 .exact⟨_,_,_,rfl,.inr ⟨rfl,rfl⟩⟩
 .exact⟨_,_,_,rfl,.inl ⟨qL0 _,V9 a WY⟩⟩
theorem CS.drop {k n i:Nat} {h:AHeap} {a:Addr} {c c':Nat} {cs:List Value} (r:CS k h (.slice (some a) n c) n cs) (hi:i<=n):CS k h (.slice (some (Ip a (i*k))) (n-i) c') (n-i) (cs.drop (i*k)):=by
 refine⟨⟨_,_,rfl,fun _=>rfl⟩,by grind [CS.len,Nat.sub_mul],fun j x b=>?_⟩;rw[abZ]at b;have:=r.get _ x b
 grind [fA,Ub]
theorem PR.cut (r:PR h v ps) (o:okc 2 v) (hi:i<=ps.length):∃v',aSlice Tryz.prog 22 v (some (.int .i64 i)) none none=some v'/\PR h v' (ps.drop i)/\okc 2 v':=by
 have n1:(0:Int)<=i:=NH;have k:(i:Int)<=ps.length:=NH;obtain⟨l,d,m,hs⟩:=r.sl;obtain⟨a,n,c,e,f⟩:=o;rw[m]at e;injection e with p s e3;subst p s e3 m;rcases f with⟨t,h2⟩|⟨rfl,h2⟩
 .have b : ¬ RA <= d := Fk.2 h2
  by_cases q:d=i
  .have : i = ps.length := NH
   subst q this;refine⟨.slice l 0 0,?_,?_⟩
   .simp[aSlice,Uh,qS8,WE,aBounds,aBound,n1,b]
   .rw [qL227 (qL0 _)]
    exact⟨⟨⟨_,_,rfl,Ma⟩,rfl,fun j x g=>by cases g⟩,⟨_,_,_,rfl,.inl ⟨qL0 _,WY⟩⟩⟩
  .cases l with
   |none=>
    have u:ps.length=0:=pw;obtain rfl:ps=[]:=IC.1 u;refine⟨.slice none 0 (d-i),?_,?_⟩
    .have : i = 0 := pw
     subst this;simp[aSlice,Uh,qS8,WE,aBounds,aBound,b]
    .rw [List.drop_nil]
     exact⟨⟨⟨_,_,rfl,Ma⟩,rfl,fun j x g=>by cases g⟩,⟨_,_,_,rfl,.inl ⟨Og _,NH⟩⟩⟩
   |some a=>
    refine⟨.slice (some (Ip a (i*2))) (ps.length-i) (d-i),?_,?_⟩
    .simp[aSlice,Uh,qS8,WE,aBounds,aBound,n1,k,b,t,q]
    .have := CS.drop (c' := d - i) r hi
     rw[<-za]at this;exact⟨by grind [PR.eq_1],⟨_,_,_,rfl,.inl ⟨NH,NH⟩⟩⟩
 .obtain ⟨a, rfl⟩ := LH.1 h2
  refine⟨.slice (some (Ip a (i*2))) (ps.length-i) (RA+2),?_,?_⟩
  .simp[aSlice,Uh,qS8,WE,aBounds,aBound,n1,k]
  .have := CS.drop (c' := RA + 2) r hi
   rw[<-za]at this;exact⟨by grind [PR.eq_1],⟨_,_,_,rfl,.inr ⟨rfl,rfl⟩⟩⟩
theorem DA (g:LA) (v:Value) (ps:List Pr) (h:AHeap) (e:PR h v ps) (p:ps.length<=100000):AC Tryz.prog g 72 [v] h fun x h'=>GP h' x ps/\Le h h'/\Z2 h x:=by
 obtain⟨a,c,rfl,hs⟩:=e.sl;refine AC.vE ⟨ahq,rfl,WY⟩ Tryz.ntmps72 Tryz.results72 fun d=>?_;simp only[Br,Nat.reduceAdd];cases a with
 |none=>
  have i:ps=[]:=by
   cases ps<;>grind
  subst i;simp only[HO,Nat.reduceLT,↓reduceIte,Nat.reduceEqDiff,reduceCtorEq,aEq,Uh,Option.isNone_none];exact⟨GP.nil _,Le.refl _,fun b hb=>by grind [blk]⟩
 |some a=>
  obtain⟨f,j,l1,w1,k⟩:=Tt d []
  have mk:aBuildSlice Tryz.prog h 22 0 []=some (.slice (some ⟨h.next,0,none⟩) 0 0,f):=by rw[<-j];rfl
  have q:h.own h.next=none:=(Le.refl h).next d (qL0 _)
  have l:GP f (.slice (some ⟨h.next,0,none⟩) 0 0) []:=GS.full k rfl WY
  have m:Z2 h (.slice (some ⟨h.next,0,none⟩) 0 0):=fun b hb=>by injection hb with hb;grind
  obtain⟨r,s,n,t,u,o,-⟩:=GP.join l w1 (e.le l1) (by simp;omega);obtain⟨l6,w⟩:=o h l1 m;simp only[HO,Nat.reduceLT,↓reduceIte,Nat.reduceEqDiff,reduceCtorEq,aEq,Uh,Dl,mk,n]
  grind
theorem bX.tail {n:Int} (a:bX ⟨n,es⟩):bX ⟨n,es.drop 1⟩:=by
 refine⟨a.n0,a.n1,?_,fun i hi p b=>?_⟩
 .have := a.len
  grind
 .simp only [ahJ] at hi
  simp only[abZ]at b ⊢;obtain⟨c,h2⟩:=a.ok (1+i) pw p b
  grind
end
end Go.Fw
