/- A text. -/
import Derived.Test.YtkccdnmaaelbiaaGreatFwLJ12
set_option linter.all false
set_option maxRecDepth 99999
set_option maxHeartbeats 9999999
open Go.Proofs
namespace Go.Fw
section
attribute [local instance] Classical.propDecidable
attribute [local irreducible] Kp MQ lU rS KO KN KX KE VK Kl ZJ TC aab
variable {cs:List Value} {h:aae} {i m:Nat} {v:Value}
theorem delX_any(L:LA)(id n i cap:Nat)(c:List Value)(h:aae)(M:h.own id=some (.cells c))(hl:n*3<=c.length)(D:(c.take (n*3)).all (·.oneCell')=true)(hi:i<n)(hn:n<=100000)(w:n<=cap)(E:cap<UNK):
  AC Tryz.prog L 99 [.slice (some ⟨id,0,none⟩) n cap,.int .i64 (i:Int),.int .i64 ((i+1:Nat):Int)] h fun x h'=>
   ∃n',n'<=cap/\x=.slice (some ⟨id,0,none⟩) n' cap/\n'=n-1/\∃c',(h'.own id=some (.cells c')/\(∀f,Le f h->f.own id=none->Le f h')/\∀b o,b≠id->h.own b=some o->h'.own b=some o)/\c'.take ((n-1)*3)=c.take (i*3)++((c.drop ((i+1)*3)).take ((n-(i+1))*3)):=by
 have k:¬UNK<=cap:=M1.2 E;have d:=adW;have j:=qS19;have N:(0:Int)<=(i:Int):=NH;have O:(i:Int)<=((i+1:Nat):Int):=NH;have F:((i+1:Nat):Int)<=(n:Int):=NH;have G:(0:Int)<=((i+1:Nat):Int):=NH;have H:(0:Int)<=(n:Int):=NH;have I:(n:Int)<=(cap:Int):=NH;have e7:(i:Int)<=(cap:Int):=NH;have y:∃v,afp Tryz.prog 75 (.slice (some ⟨id,0,none⟩) n cap) (some (.int .i64 (i:Int))) (some (.int .i64 ((i+1:Nat):Int))) (some (.int .i64 (n:Int)))=some v:=by
  refine⟨Value.slice (if n=i then some ⟨id,0,none⟩else some ⟨id,i*3,none⟩) (i+1-i) (n-i),?_⟩
  .simp only[afp,d,k,if_false,w,j,TN,and_self,if_true,afB,af4,N,O,F,G,H,I,af8,ai3,Ip,dD,Gc]
 obtain⟨v1,y⟩:=y;have Q:afp Tryz.prog 75 (.slice (some ⟨id,0,none⟩) n cap) none (some (.int .i64 (i:Int))) none=some (.slice (some ⟨id,0,none⟩) i cap):=pn d j i NH w E
 have R:afp Tryz.prog 75 (.slice (some ⟨id,0,none⟩) n cap) (some (.int .i64 ((i+1:Nat):Int))) none none=some (.slice (if cap=i+1 then some ⟨id,0,none⟩else some ⟨id,(i+1)*3,none⟩) (n-(i+1)) (cap-(i+1))):=by have S:((i+1:Nat):Int)<=(n:Int):=F;simp only[afp,d,k,if_false,w,j,TN,and_self,if_true,afB,af4,G,S,af8,ai3,Ip,dD,Gc]
 have rd:∀e,UA Tryz.prog e=3->agM Tryz.prog h e (.slice (if cap=i+1 then some ⟨id,0,none⟩else some ⟨id,(i+1)*3,none⟩) (n-(i+1)) (cap-(i+1)))=some (n-(i+1),(c.drop ((i+1)*3)).take ((n-(i+1))*3)):=fun e he=>by
  by_cases q:cap=i+1
  .have z:n-(i+1)=0:=NH;rw[AE q,z];simp[agM,agK]
  grind[qF,agM]
 have nl:((c.drop ((i+1)*3)).take ((n-(i+1))*3)).length=(n-(i+1))*3:=pw;have n1:((c.drop ((i+1)*3)).take ((n-(i+1))*3)).all (·.oneCell')=true:=by
  rw[DF]at D ⊢;intro x T;refine D x ?_;obtain⟨q,A⟩:=qy.1 T;rw[mg]at A;split at A
  .refine BS (i:=(i+1)*3+q) ?_;grind
  .cases A
 have app:∃c1 l,(l.own id=some (.cells c1)/\(∀f,Le f h->f.own id=none->Le f l)/\∀b o,b≠id->h.own b=some o->l.own b=some o)/\adg Tryz.prog h 75 75 (.slice (some ⟨id,0,none⟩) i cap) (.slice (if cap=i+1 then some ⟨id,0,none⟩else some ⟨id,(i+1)*3,none⟩) (n-(i+1)) (cap-(i+1)))=some (.slice (some ⟨id,0,none⟩) (n-1) cap,l)/\c1.length=c.length/\
   c1.take ((n-1)*3)=c.take (i*3)++((c.drop ((i+1)*3)).take ((n-(i+1))*3)):=by
  have u:ag2 Tryz.prog 125=some (.agg #[rW,rW,rW]):=Ji;have J:(Value.agg #[rW,rW,rW]).cells.size=UA Tryz.prog 125/\(Value.agg #[rW,rW,rW]).cells.toList.all (·.oneCell')=true:=⟨by kernel_rfl,by kernel_rfl⟩;have hs:=rd 125 dD;have U:Tryz.prog.bytesOf 125<=1000:=by decide
  have V:(i+(n-(i+1)))*Tryz.prog.bytesOf 125<=140737488355328:=Tn (aiD (show i+(n-(i+1))<=100000 by omega) U) WY;have W:i+(n-(i+1))<=140737488355328:=NH;have K:(Value.agg #[rW,rW,rW]).cells.size=UA Tryz.prog 125/\(Value.agg #[rW,rW,rW]).cells.toList.all (·.oneCell')/\(Tryz.prog.underlying 125).isSome/\ahf (.slice 125)/\((c.drop ((i+1)*3)).take ((n-(i+1))*3)).all (·.oneCell')/\(i+(n-(i+1)))*Tryz.prog.bytesOf 125<=140737488355328/\i+(n-(i+1))<=140737488355328/\((c.drop ((i+1)*3)).take ((n-(i+1))*3)).length=(n-(i+1))*UA Tryz.prog 125:=⟨J.1,J.2,by rfl,rfl,n1,V,W,by grind[dD]⟩;by_cases X:n-(i+1)=0
  .refine⟨c,h,pw,?_,rfl,?_⟩
   .simp only[adg,d,u,hs];grind
   .rw[X];grind
  .have room:i*3+((c.drop ((i+1)*3)).take ((n-(i+1))*3)).length<=c.length:=pw;refine⟨putCells c (i*3) ((c.drop ((i+1)*3)).take ((n-(i+1))*3)),_,⟨aae.Y3 _ _ _,fun f lf hf=>lf.put _ hf,fun b o hb M=>by grind[aae.By]⟩,?_,aha _ _ _,?_⟩
   .simp only[adg,d,u,hs];grind[dD]
   .rw[IW _ _ _ room,Bc pw,HV pw]
 obtain⟨c1,l,⟨o1,aa,ae⟩,app,ag,B⟩:=app;have S4:afp Tryz.prog 75 (.slice (some ⟨id,0,none⟩) (n-1) cap) (some (.int .i64 ((n-1:Nat):Int))) (some (.int .i64 (n:Int))) none=some (.slice (some ⟨id,(n-1)*3,none⟩) 1 (cap-(n-1))):=by have a1:((n-1:Nat):Int)<=(n:Int):=NH;have a2:(0:Int)<=((n-1:Nat):Int):=NH;have a3:n-1<=cap:=NH;have a4:¬cap=n-1:=NH;have a5:n-(n-1)=1:=NH;simp only[afp,d,k,if_false,a3,j,TN,and_self,if_true,afB,af4,H,I,a1,a2,af8,a4,a5,ai3,Ip,dD,Gc]
 have p:∃c2,aja Tryz.prog l 75 (.slice (some ⟨id,(n-1)*3,none⟩) 1 (cap-(n-1)))=some (.tuple #[],l.put id (.cells c2))/\c2.take ((n-1)*3)=c1.take ((n-1)*3):=by
  have u:ag2 Tryz.prog 125=some (.agg #[rW,rW,rW]):=Ji;have aj:(Value.agg #[rW,rW,rW]).cells=#[rW,rW,rW]:=Ji;have zr:ahh (Value.agg #[rW,rW,rW]).cells.toList 1=[rW,rW,rW]:=Ji;refine⟨putCells c1 ((n-1)*3) [rW,rW,rW],?_,?_⟩
  .have r:(n-1)*3+1*(Value.agg #[rW,rW,rW]).cells.size<=c1.length:=pw;have fl:(Value.agg #[rW,rW,rW]).cells.toList.all flat=true:=Ji;simp only[aja,d,u,o1,fl,r,decide_true,Bool.and_self,cond_true,zr];rfl
  grind[IW]
 obtain⟨c2,p,C⟩:=p;refine AC.vE ⟨Tryz.func99,rfl,WY⟩ Tryz.ntmps99 Tryz.results99 fun al=>?_;simp only[Br,seval];have s:=fun m g=>Jg (P:=Tryz.prog) (t:=75) (a:=some ⟨id,0,none⟩) (n:=m) (cap:=cap) d g;have d1:decide ((i:Int)=((i+1:Nat):Int))=false:=Sb NH;refine Sk (xU s y @ahI d1) ?_;refine gh (tA [0,1,2,3,4,5] (JQ 6 [2,5] (JQ 7 [0,1,2,3,4,5,6] .done))) ?_;simp only[HO,seval,Qg,Q,R,app,s,S4,p];exact⟨n-1,NH,rfl,rfl,c2,(by grind[aae.Y3,Le.put,aae.By]),by rw[C,B]⟩
theorem F5(p:LA)(g:GS 3 h v m cs)(d:cu v)(y:cs.all (·.oneCell')=true)(hi:i<m)(k:m<=100000):
  AC Tryz.prog p 99 [v,.int .i64 (i:Int),.int .i64 ((i+1:Nat):Int)] h fun x h'=>
   GS 3 h' x (m-1) (cs.take (i*3)++cs.drop ((i+1)*3))/\cu x/\blk x=blk v/\(∀f,Le f h->Z2 f v->Le f h')/\∀b o,h.own b=some o->blk v≠some b->h'.own b=some o:=by
 obtain⟨z,⟨rfl,A⟩|⟨id,c,cap,rfl,r,B,l⟩⟩:=g
 .omega
 have j:cap=UNK+3:=by
  rcases l with l|⟨rfl,k⟩
  .exact l
  .rcases d with d|⟨a,n',c',d,q⟩
   all_goals grind[UNK]
 subst j;have n:m*3<=c.length:=pw;refine(AC.exact (Q:=fun n' h'=>n'=m-1/\∃c',(h'.own id=some (.cells c')/\(∀f,Le f h->f.own id=none->Le f h')/\∀b o,b≠id->h.own b=some o->h'.own b=some o)/\c'.take ((m-1)*3)=c.take (i*3)++((c.drop ((i+1)*3)).take ((m-(i+1))*3))) NH fun cap h2 h3=>delX_any p id m i cap c h r n pw hi k h2 h3).mono ?_;rintro x h' ⟨n',rfl,rfl,c',⟨C,fr,s⟩,ct⟩;have t:c.take (i*3)=cs.take (i*3):=pw;have u:(c.drop ((i+1)*3)).take ((m-(i+1))*3)=cs.drop ((i+1)*3):=by grind[List.drop_take]
 rw[t,u]at ct;refine⟨⟨?_,(by grind[UNK])⟩,.inr pw,rfl,fun f w af=>fr f w (af id rfl),fun b o hb k=>s b o (fun e=>k (by rw[e];rfl)) hb⟩;grind
structure ShS (g h:aae) (B O n:Nat) (rows:AM) (bv fv iv lv:Value) (us ws cs:List Value) (on:List Bool) (F1 F2:Cs) (left:List wW):Prop where
 f:Sr h B n bv (.slice (some ⟨O,0,none⟩) n n) fv iv lv
 oO:h.own O=some (.cells (Bo on))
 ZA:on.length=n
 gF:GS 1 h fv us.length us
 uL:us.length=F1.length
 u1:us.all (·.oneCell')=true
 gI:GS 1 h iv ws.length ws
 wL:ws.length=F2.length
 w1:ws.all (·.oneCell')=true
 gL:GS 3 h lv left.length cs
 cuL:cu lv
 c1:cs.all (·.oneCell')=true
 sep:Sep g h [fv,iv,lv]
 gB:g.own B=none
 gO:g.own O=none
 bO:B≠O
 nb:∀u∈[fv,iv,lv],blk u≠some B/\blk u≠some O
 cF:∀(i:Nat) u f,us[i]?=some u->F1[i]?=some f->RL RP g u (aaa f)
 cI:∀(i:Nat) w f,ws[i]?=some w->F2[i]?=some f->RL sJ g w (eJ n f)
 cL:∀(i:Nat) p,left[i]?=some p->∃a b c,cs[i*3]?=some a/\cs[i*3+1]?=some b/\cs[i*3+2]?=some c/\PR g a p.zp/\RL RP g b p.Fm/\RL RP g c (aaa p.fits)
 cB:RL (RL RP) g bv rows
def InS(B O:Nat)(fv iv lv:Value)(b:Nat):Prop:=b=B\/b=O\/∃u∈[fv,iv,lv],blk u=some b
section
variable{g h:aae}{B O n:Nat}{rows:AM}{bv fv iv lv:Value}{us ws cs:List Value}{on:List Bool}{F1 F2:Cs}{left:List wW}
theorem ShS.le(S:ShS g h B O n rows bv fv iv lv us ws cs on F1 F2 left):Le g h:=S.sep.le
theorem ShS.own(S:ShS g h B O n rows bv fv iv lv us ws cs on F1 F2 left){b:Nat}(hb:InS B O fv iv lv b):g.own b=none/\h.own b≠none:=by
 rcases hb with rfl|rfl|⟨u,a,hb⟩
 .exact⟨S.gB,by rw[S.f.o];simp⟩
 .exact⟨S.gO,by rw[S.oO];simp⟩
 .obtain⟨i,hi⟩:=qy.1 a;exact⟨S.sep.ap i u hi b hb,S.sep.own i u b hi hb⟩
theorem ShS.ground(S:ShS g h B O n rows bv fv iv lv us ws cs on F1 F2 left){a:aae}(l:Le g a)(l2:Le a h)(c:∀b,InS B O fv iv lv b->a.own b=none):ShS a h B O n rows bv fv iv lv us ws cs on F1 F2 left:=
 {S with
  sep:=⟨S.sep.TE,S.sep.own,fun i u e b hb=>c b (.inr (by grind[List.mem_of_getElem?])),l2⟩
  gB:=c B (.inl rfl),gO:=c O (.inr (.inl rfl))
  cF:=fun i u f d h2=>(S.cF i u f d h2).le Nn.RP l
  cI:=fun i u f d h2=>(S.cI i u f d h2).le Nn.sJ l
  cL:=by grind[ShS.cL,PR.le,RL.le,Nn.RP]
  cB:=S.cB.le (Nn.RL Nn.RP) l}
theorem ShS.up(S:ShS g h B O n rows bv fv iv lv us ws cs on F1 F2 left){h':aae}(l:Le h h'):ShS g h' B O n rows bv fv iv lv us ws cs on F1 F2 left:={S with f:=S.f.le l,oO:=l.own _ _ S.oO,gF:=S.gF.le l,gI:=S.gI.le l,gL:=S.gL.le l,sep:=S.sep.up l}
def Hg(h:aae)(B O:Nat)(fv iv lv:Value):aae:=rem (B::O::(bl fv++bl iv++bl lv)) h
theorem HX{B O:Nat}{fv iv lv:Value}{b:Nat}:b∈B::O::(bl fv++bl iv++bl lv)↔InS B O fv iv lv b:=by grind[InS,Zr]
theorem ShS.pV(S:ShS g h B O n rows bv fv iv lv us ws cs on F1 F2 left):ShS (Hg h B O fv iv lv) h B O n rows bv fv iv lv us ws cs on F1 F2 left/\Le g (Hg h B O fv iv lv):=by have l:Le g (Hg h B O fv iv lv):=S.le.iV fun b hb=>(S.own (HX.1 hb)).1;grind[ShS.ground,Sa,Hg,DC,HX]
def Pv{k m:Nat}{u:Value}{xs:List Value}{a:aae}(S:ShS g a B O n rows bv fv iv lv us ws cs on F1 F2 left)(q:GS k h u m xs)(ha:Z2 a u):GS k (Hg h B O fv iv lv) u m xs:=by refine GS.Fi q fun b hb c=>?_;exact(S.own (HX.1 c)).2 (ha b hb)
def ShS.stF{t:TypeId}{d:TypeDesc}(S:Sr h B n bv (.slice (some ⟨O,0,none⟩) n n) fv iv lv)(b:Tryz.prog.underlying t=some d)(hs:UA Tryz.prog t=1){k:Nat}(c:k<6){x:Value}{m:Nat}(a:xO x m):
  acs Tryz.prog h t (.pointer (some ⟨B,k,none⟩)) x=some (h.put B (.cells (([.int .i64 n,bv,.slice (some ⟨O,0,none⟩) n n,fv,iv,lv]:List Value).set k x))):=
 QB b hs S.o (by simpa using c) a.cell a.one
def sep3{a b c a':Value}(S:Sep g h [a,b,c]){h':aae}(hf:∀f,Le f h->Z2 f a->Le f h'/\Z2 f a')(d:∀b o,h.own b=some o->blk a≠some b->h'.own b=some o/\blk a'≠some b)(e:∀b,blk a'=some b->h'.own b≠none):Sep g h' [a',b,c]:=S.app (i:=0) rfl hf d e
def sep3b{a b c a':Value}(S:Sep g h [a,b,c]){h':aae}(hf:∀f,Le f h->Z2 f b->Le f h'/\Z2 f a')(d:∀x o,h.own x=some o->blk b≠some x->h'.own x=some o/\blk a'≠some x)(e:∀b,blk a'=some b->h'.own b≠none):Sep g h' [a,a',c]:=S.app (i:=1) rfl hf d e
def sep3c{a b c a':Value}(S:Sep g h [a,b,c]){h':aae}(hf:∀f,Le f h->Z2 f c->Le f h'/\Z2 f a')(d:∀x o,h.own x=some o->blk c≠some x->h'.own x=some o/\blk a'≠some x)(e:∀b,blk a'=some b->h'.own b≠none):Sep g h' [a,b,a']:=S.app (i:=2) rfl hf d e
theorem Sep.put(S:Sep g h us){b:Nat}(o:fK)(hb:g.own b=none):Sep g (h.put b o) us:=(by grind[Sep.kept,Sep.le,Le.put,aae.Y3,aae.By])
theorem ShS.pushF(S:ShS g h B O n rows bv fv iv lv us ws cs on F1 F2 left)(p:WF h){u:Value}{f:II}(D:RL RP g u (aaa f))(N:F1.length<=100000):
  ∃a e d r,h.alloc (.cells [u])=e/\adg Tryz.prog e 27 27 fv (.slice (some ⟨h.next,0,none⟩) 1 1)=some (a,d)/\acs Tryz.prog d 27 (.pointer (some ⟨B,3,none⟩)) a=some r/\
   ShS g r B O n rows bv a iv lv (us++[u]) ws cs on (F1++[f]) F2 left/\WF r/\Le h e/\Sr d B n bv (.slice (some ⟨O,0,none⟩) n n) fv iv lv:=by
 obtain⟨e,E,l4,z,F⟩:=Tt p [u];have j:=S.up l4;obtain⟨a,d,A,G,H⟩:=GS.push (P:=Tryz.prog) (t:=27) Ji j.gF F S.u1 D.one (by rw[S.uL];omega);have C:=xr z A;have s:=fun f I af=>H f z I af;have m:∀b o,e.own b=some o->blk fv≠some b->d.own b=some o/\blk a≠some b:=by grind[aG]
 obtain⟨l,J⟩:=m B _ j.f.o (S.nb fv Ma).1;obtain⟨K,L⟩:=m O _ j.oO (by grind[ShS.nb]);have v:xO a (us.length+1):=by have:=G.cs.sl;exact this
 have st:=ShS.stF (h:=d) ⟨l⟩ (t:=27) pE Ji (k:=3) NH v;have x:=sep3 j.sep s m (by grind[GS.Sy]);have TE:=j.sep.TE;have kI:∀b o,blk iv=some b->e.own b=some o->d.own b=some o:=fun b o hb y=>(m b o y (TE 1 0 iv fv b NH rfl rfl hb)).1;have kL:∀b o,blk lv=some b->e.own b=some o->d.own b=some o:=fun b o hb y=>(m b o y (TE 2 0 lv fv b NH rfl rfl hb)).1;have M:=S.nb iv Ma;have nL:=S.nb lv Ma;refine⟨a,e,d,_,E,A,st,?_,C.put _ (C.lt l),l4,⟨l⟩⟩;exact{S with
  f:=⟨aae.Y3 _ _ _⟩
  oO:=by grind[aae.By,ShS.bO]
  gF:=by grind[GS.put]
  uL:=by simp[S.uL]
  u1:=by grind[ShS.u1,RL.one]
  gI:=GS.put (GS.kept j.gI kI) _ M.1
  gL:=GS.put (GS.kept j.gL kL) _ nL.1
  sep:=x.put _ S.gB
  nb:=pw
  cF:=fun i w q hw Q=>by
   by_cases c:i<us.length
   .grind[ShS.uL,ShS.cF]
   grind[List.length_append,List.length_singleton,ShS.uL]}
theorem ShS.pushI(S:ShS g h B O n rows bv fv iv lv us ws cs on F1 F2 left)(p:WF h){u:Value}{f:II}(D:RL sJ g u (eJ n f))(N:F2.length<=100000):
  ∃a e d r,h.alloc (.cells [u])=e/\adg Tryz.prog e 74 74 iv (.slice (some ⟨h.next,0,none⟩) 1 1)=some (a,d)/\acs Tryz.prog d 74 (.pointer (some ⟨B,4,none⟩)) a=some r/\
   ShS g r B O n rows bv fv a lv us (ws++[u]) cs on F1 (F2++[f]) left/\WF r/\Le h e/\Sr d B n bv (.slice (some ⟨O,0,none⟩) n n) fv iv lv:=by
 obtain⟨e,E,l4,z,F⟩:=Tt p [u];have j:=S.up l4;obtain⟨a,d,A,G,H⟩:=GS.push (P:=Tryz.prog) (t:=74) Ji j.gI F S.w1 D.one (by rw[S.wL];omega);have C:=xr z A;have s:=fun f I af=>H f z I af;have m:∀b o,e.own b=some o->blk iv≠some b->d.own b=some o/\blk a≠some b:=by grind[aG]
 obtain⟨l,J⟩:=m B _ j.f.o (S.nb iv Ma).1;obtain⟨K,L⟩:=m O _ j.oO (by grind[ShS.nb]);have v:xO a (ws.length+1):=by have:=G.cs.sl;exact this
 have st:=ShS.stF (h:=d) ⟨l⟩ (t:=74) qS26 Ji (k:=4) NH v;have x:=sep3b j.sep s m (by grind[GS.Sy]);have TE:=j.sep.TE;have kF:∀b o,blk fv=some b->e.own b=some o->d.own b=some o:=fun b o hb y=>(m b o y (TE 0 1 fv iv b NH rfl rfl hb)).1;have kL:∀b o,blk lv=some b->e.own b=some o->d.own b=some o:=fun b o hb y=>(m b o y (TE 2 1 lv iv b NH rfl rfl hb)).1;have M:=S.nb fv Ma;have nL:=S.nb lv Ma;refine⟨a,e,d,_,E,A,st,?_,C.put _ (C.lt l),l4,⟨l⟩⟩;exact{S with
  f:=⟨aae.Y3 _ _ _⟩
  oO:=by grind[aae.By,ShS.bO]
  gI:=by grind[GS.put]
  wL:=by simp[S.wL]
  w1:=by grind[ShS.w1,RL.one]
  gF:=GS.put (GS.kept j.gF kF) _ M.1
  gL:=GS.put (GS.kept j.gL kL) _ nL.1
  sep:=x.put _ S.gB
  nb:=pw
  cI:=fun i w q hw Q=>by
   by_cases c:i<ws.length
   .grind[ShS.wL,ShS.cI]
   grind[List.length_append,List.length_singleton,ShS.wL]}
theorem ShS.setF(S:ShS g h B O n rows bv fv iv lv us ws cs on F1 F2 left)(c:WF h){u:Value}{f:II}(k:RL RP g u (aaa f)){i:Nat}(hi:i<F1.length):
  ∃h',acs Tryz.prog h 49 (.pointer (some (abv fv i))) u=some h'/\ShS g h' B O n rows bv fv iv lv (us.set i u) ws cs on (F1.set i f) F2 left/\WF h':=by
 have m:i<us.length:=by grind[ShS.uL]
 obtain⟨h',e,p,w',fr,a⟩:=GS.stor S.gF c (t:=49) (x:=u) Mb Ji (i:=i) NH k.sl.cell k.one;have TE:=S.sep.TE;have l:=S.nb fv Ma;refine⟨h',e,?_,w'⟩;exact{S with
  f:=⟨a _ _ S.f.o l.1⟩
  oO:=a _ _ S.oO l.2
  gF:=pw
  uL:=by simp[S.uL]
  u1:=by
   rw[DF];intro x d;rcases zx d with d|rfl
   .exact DF.1 S.u1 x d
   grind[RL.one]
  gI:=GS.kept S.gI fun b o hb j=>a b o j (TE 1 0 iv fv b NH rfl rfl hb)
  gL:=GS.kept S.gL fun b o hb j=>a b o j (TE 2 0 lv fv b NH rfl rfl hb)
  sep:=S.sep.kept (fr g S.le (S.sep.ap 0 fv rfl)) (by grind[GS.Sy])
  cF:=by grind[ShS.cF]}
theorem ShS.setI(S:ShS g h B O n rows bv fv iv lv us ws cs on F1 F2 left)(c:WF h){u:Value}{f:II}(k:RL sJ g u (eJ n f)){i:Nat}(hi:i<F2.length):
  ∃h',acs Tryz.prog h 59 (.pointer (some (abv iv i))) u=some h'/\ShS g h' B O n rows bv fv iv lv us (ws.set i u) cs on F1 (F2.set i f) left/\WF h':=by
 have m:i<ws.length:=by grind[ShS.wL]
 obtain⟨h',e,p,w',fr,a⟩:=GS.stor S.gI c (t:=59) (x:=u) Uh Ji (i:=i) NH k.sl.cell k.one;have TE:=S.sep.TE;have l:=S.nb iv Ma;refine⟨h',e,?_,w'⟩;exact{S with
  f:=⟨a _ _ S.f.o l.1⟩
  oO:=a _ _ S.oO l.2
  gI:=pw
  wL:=by simp[S.wL]
  w1:=by
   rw[DF];intro x d;rcases zx d with d|rfl
   .exact DF.1 S.w1 x d
   grind[RL.one]
  gF:=GS.kept S.gF fun b o hb j=>a b o j (TE 0 1 fv iv b NH rfl rfl hb)
  gL:=GS.kept S.gL fun b o hb j=>a b o j (TE 2 1 lv iv b NH rfl rfl hb)
  sep:=S.sep.kept (fr g S.le (S.sep.ap 1 iv rfl)) (by grind[GS.Sy])
  cI:=by grind[ShS.cI]}
theorem ShS.setO(S:ShS g h B O n rows bv fv iv lv us ws cs on F1 F2 left)(a:WF h){v:Nat}(b:v<n):
  ∃h',acs Tryz.prog h 4 (.pointer (some ⟨O,v,none⟩)) (.bool true)=some h'/\ShS g h' B O n rows bv fv iv lv us ws cs (on.set v true) F1 F2 left/\WF h':=by
 have st:acs Tryz.prog h 4 (.pointer (some ⟨O,v,none⟩)) (.bool true)=some (h.put O (.cells (Bo (on.set v true)))):=by rw[QB (P:=Tryz.prog) (t:=4) (x:=.bool true) AV Ji S.oO (off:=v) (by rw[ahw,S.ZA];exact b) rfl rfl,Tr]
 have c:=S.nb fv Ma;have d:=S.nb iv Ma;have nL:=S.nb lv Ma;refine⟨_,st,?_,a.put _ (a.lt S.oO)⟩;exact{S with
  f:=⟨by grind[aae.By,ShS.bO,Sr.o,ShS.f]⟩
  oO:=aae.Y3 _ _ _
  ZA:=by grind[ShS.ZA]
  gF:=GS.put S.gF _ c.2
  gI:=GS.put S.gI _ d.2
  gL:=GS.put S.gL _ nL.2
  sep:=S.sep.put _ S.gO}
end
section
variable{g h:aae}{B O n:Nat}{rows:AM}{bv fv iv lv:Value}{us ws cs:List Value}{on:List Bool}{F1 F2:Cs}{left:List wW}
theorem get3{cs:List Value}{k r j q:Nat}(a:r<3)(b:q<3){x:Value}(c:k*3+r<cs.length):(cs.set (k*3+r) x)[j*3+q]?=if k=j/\r=q then some x else cs[j*3+q]?:=pw
theorem ShS.setT(S:ShS g h B O n rows bv fv iv lv us ws cs on F1 F2 left)(s:WF h){i:Nat}(hi:i<left.length){u:Value}{fits:II}(y:RL RP g u (aaa fits)):
  ∃h',acs Tryz.prog h 49 (.pointer (some (abv lv (i*3+2)))) u=some h'/\ShS g h' B O n rows bv fv iv lv us ws (cs.set (i*3+2) u) on F1 F2 (left.set i {left[i]with fits:=fits})/\WF h':=by
 have z:=S.gL.1;obtain⟨h',e,I,w',fr,l⟩:=GS.stor S.gL s (t:=49) (x:=u) Mb Ji (i:=i*3+2) NH y.sl.cell y.one;have TE:=S.sep.TE;have nL:=S.nb lv Ma;refine⟨h',e,?_,w'⟩;exact{S with
  f:=⟨l _ _ S.f.o nL.1⟩
  oO:=l _ _ S.oO nL.2
  gL:=pw
  c1:=by
   rw[DF];intro x v;rcases zx v with v|rfl
   .exact DF.1 S.c1 x v
   grind[RL.one]
  gF:=GS.kept S.gF fun b o hb m=>l b o m (TE 0 2 fv lv b NH rfl rfl hb)
  gI:=GS.kept S.gI fun b o hb m=>l b o m (TE 1 2 iv lv b NH rfl rfl hb)
  sep:=S.sep.kept (fr g S.le (S.sep.ap 2 lv rfl)) fun b o m=>by grind[GS.Sy]
  cL:=fun j p d=>by
   have w:i*3+2<cs.length:=NH;have A:=get3 (cs:=cs) (k:=i) (r:=2) (j:=j) (q:=0) (x:=u) NH NH w;have C:=get3 (cs:=cs) (k:=i) (r:=2) (j:=j) (q:=1) (x:=u) NH NH w;have D:=get3 (cs:=cs) (k:=i) (r:=2) (j:=j) (q:=2) (x:=u) NH NH w;rw[aal NH]at A C;rw[VU]at d;by_cases c:i=j
   .subst c;simp only[if_true,hi]at d;injection d with d;subst d;obtain⟨a,b,c,E,F,G,H,J,K⟩:=S.cL i _ (yY hi);grind
   .rw[aal c]at d;rw[aal (fun q=>c q.1)]at D;obtain⟨a,b,c,E,F,G,H⟩:=S.cL j p d;grind}
def mkPcV(h:aae){a b c:Value}{m1 m2 m3:Nat}(ha:xO a m1)(hb:xO b m2)(d:xO c m3):abB Tryz.prog h 75 1 [(0,.agg #[a,b,c])]=some (.slice (some ⟨h.next,0,none⟩) 1 1,h.alloc (.cells [a,b,c])):=by obtain⟨_,_,rfl,_⟩:=ha;obtain⟨_,_,rfl,_⟩:=hb;obtain⟨_,_,rfl,_⟩:=d;rfl
theorem ShS.pushL(S:ShS g h B O n rows bv fv iv lv us ws cs on F1 F2 left)(z:WF h){a b c:Value}{p:wW}(ha:PR g a p.zp)(hb:RL RP g b p.Fm)(A:RL RP g c (aaa p.fits))(hn:left.length<=100000):
  ∃d l i C,abB Tryz.prog h 75 1 [(0,.agg #[a,b,c])]=some (.slice (some ⟨h.next,0,none⟩) 1 1,l)/\adg Tryz.prog l 75 75 lv (.slice (some ⟨h.next,0,none⟩) 1 1)=some (d,i)/\acs Tryz.prog i 75 (.pointer (some ⟨B,5,none⟩)) d=some C/\
   ShS g C B O n rows bv fv iv d us ws (cs++[a,b,c]) on F1 F2 (left++[p])/\WF C/\Le h l/\Sr i B n bv (.slice (some ⟨O,0,none⟩) n n) fv iv lv/\Le g i:=by
 obtain⟨l,J,l4,D,K⟩:=Tt z [a,b,c];have mk:=mkPcV h ha.sl hb.sl A.sl;rw[J]at mk;have m:=S.up l4;have L:([a,b,c]:List Value).all (·.oneCell')=true:=by simp[ha.sl.one,hb.one,A.one]
 have hs:∀e,UA Tryz.prog e=3->agM Tryz.prog l e (.slice (some ⟨h.next,0,none⟩) 1 1)=some (1,[a,b,c]):=fun e M=>CS.src M (CS.own (k:=3) (off:=0) (n:=1) (cap:=1) K Ma)
 obtain⟨d,i,E,G,H⟩:=GS.append (P:=Tryz.prog) (t:=75) (xt:=75) (k:=3) Ji m.gL hs m.c1 L rfl NH;have I:=xr D E;have F:=fun f N af=>H f D N af;have v:∀b o,l.own b=some o->blk lv≠some b->i.own b=some o/\blk d≠some b:=fun b o w hb=>aG H D w hb;obtain⟨r,Q⟩:=v B _ m.f.o (S.nb lv Ma).1;obtain⟨R,T⟩:=v O _ m.oO (S.nb lv Ma).2;have st:=ShS.stF (h:=i) ⟨r⟩ (t:=75) adW Ji (k:=5) NH G.cs.sl;have y:=sep3c m.sep F v (fun b hb=>GS.Sy G hb);have TE:=m.sep.TE;have kF:∀b o,blk fv=some b->l.own b=some o->i.own b=some o:=fun b o hb w=>(v b o w (TE 0 2 fv lv b NH rfl rfl hb)).1;have kI:∀b o,blk iv=some b->l.own b=some o->i.own b=some o:=fun b o hb w=>(v b o w (TE 1 2 iv lv b NH rfl rfl hb)).1;have U:=S.nb fv Ma;have V:=S.nb iv Ma;refine⟨d,l,i,_,mk,E,st,?_,I.put _ (I.lt r),l4,⟨r⟩,y.le⟩;exact{S with
  f:=⟨aae.Y3 _ _ _⟩
  oO:=by grind[aae.By,ShS.bO]
  gL:=by grind[List.length_singleton,GS.put]
  cuL:=uZ E S.cuL
  c1:=by grind[ShS.c1]
  gF:=GS.put (GS.kept m.gF kF) _ U.1
  gI:=GS.put (GS.kept m.gI kI) _ V.1
  sep:=y.put _ S.gB
  nb:=fun x hx=>by grind
  cL:=fun j q u=>by
   have s:cs.length=left.length*3:=S.gL.1;by_cases c:j<left.length
   .rw[kc c]at u;obtain⟨a',W,c',q1,q2,q3,X⟩:=S.cL j q u;refine⟨a',W,c',?_,?_,?_,X⟩
    .grind
    .grind
    grind
   .have hi:=(Ny.1 u).1;rw[eR,qH]at hi;have ei:j=left.length:=NH;subst ei;rw[Og (qL0 _),Q4]at u;simp at u;subst u;refine⟨a,b,_,?_,?_,?_,ha,hb,A⟩
    .rw[Og NH,s,Q4];rfl
    .rw[Og NH,s,acN];rfl
    .rw[Og NH,s,acN];rfl}
theorem ShS.delL(S:ShS g h B O n rows bv fv iv lv us ws cs on F1 F2 left){e:aae}(w1:WF e){a:Value}{i:Nat}(hi:i<left.length)(gd:GS 3 e a (left.length-1) (cs.take (i*3)++cs.drop ((i+1)*3)))(C:cu a)(H:blk a=blk lv)(fr:∀f,Le f h->Z2 f lv->Le f e)(v:∀b o,h.own b=some o->blk lv≠some b->e.own b=some o):
  ∃h2,acs Tryz.prog e 75 (.pointer (some ⟨B,5,none⟩)) a=some h2/\ShS g h2 B O n rows bv fv iv a us ws (cs.take (i*3)++cs.drop ((i+1)*3)) on F1 F2 (left.eraseIdx i)/\WF h2:=by
 have I:=S.nb fv Ma;have J:=S.nb iv Ma;have nL:=S.nb lv Ma;have TE:=S.sep.TE;have r:=v _ _ S.f.o nL.1;have K:=v _ _ S.oO nL.2;have st:=ShS.stF (h:=e) ⟨r⟩ (t:=75) adW Ji (k:=5) NH gd.cs.sl;have kF:∀b o,blk fv=some b->h.own b=some o->e.own b=some o:=fun b o hb y=>v b o y (TE 0 2 fv lv b NH rfl rfl hb);have kI:∀b o,blk iv=some b->h.own b=some o->e.own b=some o:=fun b o hb y=>v b o y (TE 1 2 iv lv b NH rfl rfl hb);have L:=fr g S.le (S.sep.ap 2 lv rfl);have D:Sep g e [fv,iv,a]:=by
  have key:∀(i:Nat) u,([fv,iv,a]:List Value)[i]?=some u->∃l,([fv,iv,lv]:List Value)[i]?=some l/\blk u=blk l:=fun i u d=>by
   match i,d with
   |0,d=>grind
   |1,d=>grind
   |2,d=>grind
   |i+3,d=>simp at d
  refine⟨fun i j u w b E d hw hb=>?_,fun i u b d hb=>?_,fun i u d b hb=>?_,L⟩
  .obtain⟨l,m,p⟩:=key i u d;obtain⟨M,z,s⟩:=key j w hw;rw[s];exact TE i j l M b E m z pw
  .obtain⟨l,m,p⟩:=key i u d;rw[p]at hb;by_cases c:blk lv=some b
   .grind[GS.Sy]
   .obtain⟨o,y⟩:=iy.1 (S.sep.own i l b m hb);grind
  .obtain⟨l,m,p⟩:=key i u d;exact S.sep.ap i l m b pw
 have N:(left.eraseIdx i).length=left.length-1:=pw;refine⟨_,st,?_,w1.put _ (w1.lt r)⟩;exact{S with
  f:=⟨aae.Y3 _ _ _⟩
  oO:=by grind[aae.By,ShS.bO]
  gL:=by grind[GS.put]
  cuL:=C
  c1:=by rw[DF];intro x P;refine DF.1 S.c1 x ?_;grind
  gF:=GS.put (GS.kept S.gF kF) _ I.1
  gI:=GS.put (GS.kept S.gI kI) _ J.1
  sep:=D.put _ S.gB
  nb:=fun x P=>by grind
  cL:=fun j q A=>by
   have Q:cs.length=left.length*3:=S.gL.1;have F:(cs.take (i*3)).length=i*3:=pw;rw[List.getElem?_eraseIdx]at A;split at A
   .rename_i c;obtain⟨a',G,c',m,p,z,s⟩:=S.cL j q A;refine⟨a',G,c',?_,?_,?_,s⟩
    .grind
    .grind
    grind
   .rename_i c;obtain⟨a',G,c',m,p,z,s⟩:=S.cL (j+1) q A;refine⟨a',G,c',?_,?_,?_,s⟩
    .rw[Og NH,F,im,show(i+1)*3+(j*3-i*3)=(j+1)*3 by omega];exact m
    .rw[Og NH,F,im,show(i+1)*3+(j*3+1-i*3)=(j+1)*3+1 by omega];exact p
    .rw[Og NH,F,im,show(i+1)*3+(j*3+2-i*3)=(j+1)*3+2 by omega];exact z}
end
def bldF(h:aae){u:Value}{m:Nat}(a:xO u m):abB Tryz.prog h 27 1 [(0,u)]=some (.slice (some ⟨h.next,0,none⟩) 1 1,h.alloc (.cells [u])):=by obtain⟨_,_,rfl,_⟩:=a;rfl
def bldI(h:aae){u:Value}{m:Nat}(a:xO u m):abB Tryz.prog h 74 1 [(0,u)]=some (.slice (some ⟨h.next,0,none⟩) 1 1,h.alloc (.cells [u])):=by obtain⟨_,_,rfl,_⟩:=a;rfl
def sB(B k:Nat)(a:k<6):agQ Tryz.prog 77 (.pointer (some ⟨B,0,none⟩)) k=some (.pointer (some ⟨B,k,none⟩)):=by
 match k,a with
 |0,_=>rfl
 |1,_=>rfl
 |2,_=>rfl
 |3,_=>rfl
 |4,_=>rfl
 |5,_=>rfl
theorem IU(r:LA){g h:aae}{B O n:Nat}{rows:AM}{bv fv iv lv:Value}{us ws cs:List Value}{on:List Bool}{F:Cs}{left:List wW}(S:ShS g h B O n rows bv fv iv lv us ws cs on F F left){u:Value}{f:II}(e:RL RP g u (aaa f))(hf:∀x∈f,x<n)(w:n<=1000)(y:f.length<=1000)(T:F.length<=10000):
  AC Tryz.prog r 95 [.pointer (some ⟨B,0,none⟩),u] h fun _ h'=>∃s a c i j,ShS s h' B O n rows bv a c lv i j cs on (F++[f]) (F++[f]) left/\Le g s:=by
 refine AC.vE ⟨Tryz.func95,rfl,WY⟩ Tryz.ntmps95 Tryz.results95 fun k=>?_;simp only[Br,seval];obtain⟨a,U,V,z,A,C,D,b,W,l4,-⟩:=S.pushF k e NH;have t:=bldF h e.sl;rw[A]at t;have X:=(S.up l4).f;have l:=sB B 3 NH;have d:=sB B 4 NH;refine Sk (IX l S.f.l3 t C D) ?_;refine gh (tA [0,1,2,3,4,5,6] (JQ 7 [5,6] (JQ 8 [7] (JQ 9 [4,7,8] (tA [10,11] (JQ 12 [0,1,2,3,4,5,6,7,8,9,11] .done)))))) ?_;refine CO (XC d b.f.l4) ?_;refine kGi Tryz.func133 (bJ r B n bv _ a iv lv u f z b.f (e.le Nn.RP b.le) hf w y) ?_;rintro x m E ⟨G,H,ax⟩;obtain⟨o,I⟩:=(b.up H).pV;have p:=Pv (h:=m) b G ax;have rx:RL sJ (Hg m B O a iv lv) x (eJ n f):=RL.ofBo (by have:=GS.cs p;grind[CS.rs,Bo.eq_1]);obtain⟨c,h8,h9,J,K,L,q,M,N,P,Q⟩:=o.pushI E rx NH;have R:=o.f.le P;have v:=bldI m rx.sl;rw[K]at v;refine CO (acL d b.f.l4 o.f.l4 R.l4 Q.l4 v L q) ?_;grind
variable {B O a b j n x:Nat} {F:Cs} {f way:II} {g:aae} {left:List wW} {rows:AM} {us ws:List Value} {xs:RZ}
theorem idx_of{v i:Nat}(c:xs=aaa f)(hi:i<xs.length)(h:xs[i]=(v:Int))(a:∀j (b:j<i),xs[j]≠(v:Int)):Dn f v=i:=by
 subst c;have d:i<f.length:=by grind[y6]
 unfold Dn;rw[qL199 d];refine⟨?_,fun j b=>?_⟩
 .grind[sY]
 .rw[adJ];intro e;refine a j b ?_;rw[sY (show j<f.length by omega)];grind
def xq(f:II)(i j:Nat)(h:0<f.length):(Qk f i j).length<=f.length:=by unfold Qk;rw[vY,GK];exact OM _ h
theorem Aw(h:0<f.length)(a:x∈Qk f i j):x∈f:=by grind[Qk,Nat.mod_lt]
def Uq(h:x∈jc way):x∈way:=List.mem_of_mem_drop (aez h)
theorem inn_len(way:II):(jc way).length<=way.length:=by grind[jc]
def NP(a b:II):aaa (a++b)=aaa a++aaa b:=by simp[aaa]
def sV(a:II):aaa a.reverse=(aaa a).reverse:=by simp[aaa]
def headN0:∀{l:II}(h:0<l.length),l.headD 0=l[0]
 |_::_,_=>rfl
theorem se(h:b<=a)(h2:a<=100000):adA .i64 ((a:Int)-(b:Int))=((a-b:Nat):Int):=by grind[ie]
theorem Kz(A:LA){bv C G U V:Value}{on:List Bool}(S:ShS g h B O n rows bv C G U us ws cs on F F left){f:Nat}(hf:f<F.length)(hw:GI g V (aaa way))(h2:2<=way.length)(ha:way.headD 0∈F.getD f [])(hb:Ni way∈F.getD f [])(W:∀x∈F.getD f [],x<n)(X:∀x∈way,x<n)(hn:n<=300)(bB:(F.getD f []).length<=300)(bF:way.length<=301)(hF:F.length<=1000):
  AC Tryz.prog A 100 [.pointer (some ⟨B,0,none⟩),.int .i64 (f:Int),V] h fun _ h'=>∃d H I J K,ShS d h' B O n rows bv H I U J K cs on (kY F f way) (kY F f way) left/\Le g d:=by
 have D:f<us.length:=by grind[ShS.uL]
 have aa:=yY D;have aC:=yY hf;have L:F.getD f []=F[f]:=D4 hf;have cu:=S.cF f _ _ aa aC;rw[<-L]at cu;have e:Ee (F.getD f []) way=Qk (F.getD f []) (Dn (F.getD f []) (way.headD 0)) (Dn (F.getD f []) (Ni way))++(jc way).reverse:=rfl;have l:kP (F.getD f []) way=Qk (F.getD f []) (Dn (F.getD f []) (Ni way)) (Dn (F.getD f []) (way.headD 0))++jc way:=rfl;have ae:kY F f way=F.set f (Ee (F.getD f []) way)++[kP (F.getD f []) way]:=rfl;have p:0<(F.getD f []).length:=aaL ha;have ag:∀v,v∈F.getD f []->Dn (F.getD f []) v<(F.getD f []).length:=fun v hv=>by grind[Dn]
 have ia:=ag _ ha;have ib:=ag _ hb;have aj:abX Tryz.prog 27 C (.int .i64 (f:Int))=some (.pointer (some (abv C f))):=by have:=(GS.cs S.gF).rs.NS f D;exact this
 have ldF:acd Tryz.prog h 49 (abv C f)=some us[f]:=by rw[Bj Mb rfl];exact(GS.cs S.gF).rs.get f _ aa
 generalize hu:us[f]=u at*;generalize bH:F.getD f []=EI at*;refine AC.vE ⟨Tryz.func100,rfl,WY⟩ Tryz.ntmps100 Tryz.results100 fun bI=>?_;simp only[Br,seval];have M:=sB B 3 NH;have al:=sB B 4 NH;have lw:=fun d=>hw.rl.DH d;rw[y6]at lw;have w0:0<way.length:=NH;have aD:=hw.le S.le;have aq:∀q:Nat,q<way.length->abX Tryz.prog 49 V (.int .i64 (q:Int))=some (.pointer (some (abv V q))):=fun q hq=>hw.rl.TA q (by rw[y6];exact hq);have ar:∀d,Le g d->∀q (hq:q<way.length),acd Tryz.prog d 3 (abv V q)=some (.int .i64 ((way[q]:Nat):Int)):=fun d lg q hq=>by rw[(hw.le lg).rl.Uc q (by rw[y6];exact hq),sY hq]
 have e0:way.headD 0=way[0]:=headN0 w0;have eL:Ni way=way[way.length-1]:=D4 NH;have s1:adA .i64 ((way.length:Int)-1)=((way.length-1:Nat):Int):=by have:=se (a:=way.length) (b:=1) NH NH;exact this
 have r:=aq 0 w0;simp only[P2]at r;have N:=aq (way.length-1) NH;have s:=ar h S.le 0 w0;have w:=ar h S.le (way.length-1) NH;rw[<-e0]at s;rw[<-eL]at w;simp only[HO,seval,M,S.f.l3,aj,ldF];refine gh (tA [0,1,2,3,5,6,7,8,9,10,11] (JQ 4 [0,3] (JQ 12 [4,5,11] (tA [13,14] .done)))) ?_;simp only[HO,seval,Qg,r,lw,s1,N,s,w];refine kGi qS37 (OS A u (aaa EI) ((way.headD 0:Nat):Int) h (cu.le Nn.RP S.le) (by rw[y6];omega)) ?_;rintro x h3 w3 ⟨c,rfl⟩;rcases c with⟨_,Q⟩|⟨i,hi,rfl,aE,aF⟩
 .exact absurd (N8.2 ⟨_,ha,rfl⟩) Q
 have ei:=idx_of rfl hi aE aF;simp only[HO,seval,Qg,r,lw,s1,N,s,w];refine kGi qS37 (OS A u (aaa EI) ((Ni way:Nat):Int) h3 (cu.le Nn.RP S.le) (by rw[y6];omega)) ?_;rintro x h4 w4 ⟨c,rfl⟩;rcases c with⟨_,Q⟩|⟨j,hj,rfl,aH,av⟩
 .exact absurd (N8.2 ⟨_,hb,rfl⟩) Q
 have ej:=idx_of rfl hj aH av;rw[ei,ej]at e l;rw[ei]at ia;rw[ej]at ib;obtain⟨nv,esl,bN⟩:=Hx (P:=Tryz.prog) (t:=49) Mb Ac Ji aD (by rw[y6];omega) 1 (way.length-1) NH (by rw[y6];omega);have R:RL RP h4 nv (aaa (jc way)):=RL.Wh (by
  have:(Bp (aaa way)).drop 1=Bp (aaa (way.drop 1)):=by simp[Bp,aaa]
  grind[Bp,aaa,jc,List.map_take])
 have ay:=fun d=>R.DH d;rw[y6]at ay;have bQ:=inn_len way;simp only[HO,seval,Qg,r,lw,s1,N,s,w];simp only[amr]at esl;simp only[HO,seval,lw,s1,esl];refine kCi Tryz.func142 (Ra A u EI i j h4 (cu.le Nn.RP S.le) ia ib NH) ?_;rintro x h5 w5 ⟨g5,l5,a5⟩;have bT:=xq EI i j p;obtain⟨ov,h6,e6,g6,w6,f6,k6⟩:=GI.join g5 w5 (R.le Nn.RP l5) (by grind[y6]);obtain⟨l6,a6⟩:=f6 h4 l5 a5;have xl:(aaa (Qk EI i j)++aaa (jc way)).length=(Qk EI i j).length+(jc way).length:=by grind[y6]
 have lo:=fun d=>g6.rl.DH d;rw[xl]at lo;have sd:adA .i64 ((((Qk EI i j).length+(jc way).length:Nat):Int)-((jc way).length:Int))=(((Qk EI i j).length:Nat):Int):=by rw[se NH NH,Nat.add_sub_cancel]
 obtain⟨tv,et,aJ⟩:=GI.tail g6 (i:=(Qk EI i j).length) pw;simp only[HO,seval,e6,lo,ay,sd,et];refine kCi qS29 (xB A tv ov _ _ h6 g6 (by rw[xl];omega) aJ) ?_;rintro x h7 w7 ⟨g7,f7,k7⟩;have l7:=f7 h4 l6 a6;have eo:(aaa (Qk EI i j)++aaa (jc way)).take (Qk EI i j).length++((aaa (Qk EI i j)++aaa (jc way)).drop (Qk EI i j).length).reverse=aaa (Ee EI way):=by rw[e,NP,sV];have hl:=y6 (Qk EI i j);grind
 rw[eo]at g7;refine Uy ?_;refine kCi Tryz.func142 (Ra A u EI j i h7 (cu.le Nn.RP (S.le.trans l7)) ib ia NH) ?_;rintro y h8 w8 ⟨g8,l8,a8⟩;have bW:=xq EI j i p;obtain⟨tw,h9,e9,g9,w9,f9,k9⟩:=GI.join g8 w8 (R.le Nn.RP (l7.trans l8)) (by grind[y6]);rw[<-NP,<-l]at g9;obtain⟨l9,a9⟩:=f9 h7 l8 a8;have aK:=l7.trans l9;have aP:Z2 h4 tw:=fun b hb=>l7.none (a9 b hb);obtain⟨E,aT⟩:=(S.up aK).pV;have gone:GI (Hg h9 B O C G U) ov (aaa (Ee EI way)):=by have:=Pv (h:=h9) S (GI.le g7 l9) a6;exact this
 have az:GI (Hg h9 B O C G U) tw (aaa (kP EI way)):=by have:=Pv (h:=h9) S g9 aP;exact this
 have aV:∀x∈Ee EI way,x<n:=fun x c=>by
  rw[e,yM,uu]at c;rcases c with c|c
  .exact W x (Aw p c)
  .exact X x (Uq c)
 have aW:∀x∈kP EI way,x<n:=fun x c=>by
  rw[l,yM]at c;rcases c with c|c
  .exact W x (Aw p c)
  .exact X x (Uq c)
 have aX:(Ee EI way).length<=1000:=by rw[e,eR,oZ];omega
 have a1:(kP EI way).length<=1000:=by rw[l,eR];omega
 refine Sk e9 ?_;refine gh (tA [0,1,2,3,4,5,6,7,8,9,10,11,12] (JQ 13 [11,12] (tA [14] (JQ 15 [0,1,2,3,4,8,10,13,14] (tA [16] (JQ 17 [0,1,2,3,4,5,6,7,8,9,10,11,12,13,14,15,16] .done)))))) ?_;refine CO (xU M al E.f.l3 E.f.l4) ?_;refine kGi Tryz.func133 (bJ A B n bv _ C G U ov (Ee EI way) h9 E.f ((gone.le E.le).rl) aV NH aX) ?_;rintro z aB a7 ⟨ba,bb,bg⟩;obtain⟨T,m⟩:=(E.up bb).pV;have gz:=Pv (h:=aB) E ba bg;have rz:RL sJ (Hg aB B O C G U) z (eJ n (Ee EI way)):=RL.ofBo (by have:=GS.cs gz;rw[<-qc n (Ee EI way)]at this;exact CS.rs (by rw[Bo]at this;simpa[qc]using this));obtain⟨bY,bh,o,bj⟩:=T.setF a7 ((gone.le m).rl) (f:=Ee EI way) hf;obtain⟨bZ,bk,bm,b0⟩:=o.setI bj rz (f:=Ee EI way) (i:=f) hf;have bo:abX Tryz.prog 74 G (.int .i64 (f:Int))=some (.pointer (some (abv G f))):=(GS.cs o.gI).rs.addr (P:=Tryz.prog) qS26 Uh Ji (k:=.i64) f (by rw[o.wL];exact hf);refine CO (aga M al E.f.l3 E.f.l4 T.f.l3 T.f.l4 o.f.l3 o.f.l4 aj bo bh bk) ?_;have fin:=IU A bm ((az.le m).rl) aW NH a1 pw;refine kCi Tryz.func95 fin ?_;rintro x b1 b2 ⟨d,H,I,J,K,br,bx⟩;refine Uy ?_;rw[ae];exact⟨d,H,I,J,K,br,aT.trans (m.trans bx)⟩
section
variable{n:Nat}{es:List Pr}{H:Nat->Nat->Prop}{S:kR}
theorem Z8.fS(I:Z8 n es H S)(hR:InR n es){p:wW}(b:p∈S.left):∀x∈p.Fm,∃v:Nat,x=(v:Int)/\v<n:=fun x a=>by have P:=I.Aa p b;obtain⟨v,rfl⟩:=Z6 (P.nat x a);obtain⟨_,w,h2,_⟩:=(P.Fm v).1 a;exact⟨v,rfl,(((vD hR).1 h2.1).lt hR).1⟩
theorem Jo:∀{l:RZ},(∀x∈l,∃v:Nat,x=(v:Int))->∃q:II,l=aaa q
 |[],_=>⟨[],rfl⟩
 |x::l,h=>by obtain⟨v,rfl⟩:=h x Ma;obtain⟨q,rfl⟩:=Jo (l:=l) pw;exact⟨v::q,rfl⟩
theorem nat64_nd{q:II}(h:(aaa q).Nodup):q.Nodup:=by grind[aaa.eq_1]
theorem Z8.UO(I:Z8 n es H S)(hR:InR n es){p:wW}(a:p∈S.left):p.Fm.length<=n:=by
 have P:=I.Aa p a;obtain⟨q,b⟩:=Jo fun x c=>by obtain⟨v,h,_⟩:=I.fS hR a x c;grind
 have nd:=P.fnd;rw[b]at nd ⊢;rw[y6];have:=agO (nat64_nd nd) (B:=List.range n) fun v d=>by
  have e:((v:Nat):Int)∈p.Fm:=by rw[b];exact N8.2 ⟨v,d,rfl⟩
  grind[Z8.fS]
 grind
def Z8.My(I:Z8 n es H S):S.Jv.length<=es.length+2:=by have:=I.OT;omega
theorem Z8.Xg(I:Z8 n es H S){p:wW}(a:p∈S.left):p.fits.length<=S.Jv.length:=by have P:=I.Aa p a;have:=agO P.tnd (B:=List.range S.Jv.length) (by grind[EJ.fits]);grind
def Z8.Ca(I:Z8 n es H S){p:wW}(a:p∈S.left):p.zp.length<=es.length:=(I.Aa p a).sub.length_le
theorem LQ:∀{l:List wW},(∀p∈l,p.zp≠[])->(l.Pairwise fun p q=>∀e∈p.zp,e∉q.zp)->(l.map fun p=>p.zp.headD (0,0)).Nodup
 |[],_,_=>List.nodup_nil
 |p::l,a,hd=>by
  rw[gK]at hd;rw[U9,jz];have c:∀q∈p::l,q.zp.headD (0,0)∈q.zp:=fun q b=>by obtain⟨x,t,e⟩:=xD (a q b);rw[e];simp
  refine⟨fun h=>?_,LQ pw hd.2⟩;grind
theorem Z8.Vw(I:Z8 n es H S):S.left.length<=es.length:=by
 have:=agO (LQ (fun p a=>(I.Aa p a).ne) I.TE) (B:=es) fun e b=>by obtain⟨p,a,rfl⟩:=N8.1 b;have P:=I.Aa p a;obtain⟨x,t,e⟩:=xD P.ne;exact P.sub.subset (by rw[e];simp)
 grind
theorem Z8.face_lt(I:Z8 n es H S){f:Nat}(hf:f<S.Jv.length):(∀x∈S.Jv.getD f [],x<n)/\(S.Jv.getD f []).length<=n:=by have a:S.Jv.getD f []∈S.Jv:=pw;obtain⟨b,h2⟩:=I.inv.aln a;have:=agO b (B:=List.range n) pw;grind
theorem Z8.way_face(I:Z8 n es H S)(hR:InR n es)(hA:D3 es)(D:QG (eN n es)){p:wW}(s:p∈S.left){f:Nat}(hf:f∈p.fits):
  2<=(J6 n (Zh n es) S.on p).length/\(J6 n (Zh n es) S.on p).headD 0∈S.Jv.getD f []/\Ni (J6 n (Zh n es) S.on p)∈S.Jv.getD f []/\(∀x∈J6 n (Zh n es) S.on p,x<n)/\(J6 n (Zh n es) S.on p).length<=n:=by
 have d:=MG hR hA;have hs:=I.inv.sym;have P:=I.Aa p s;obtain⟨a,inn,b,w,W,c⟩:=I.way hR hA D s;rw[w];obtain⟨A,j⟩:=(P.fits f).1 hf;have e:=P.aib hR c;have C:QP (eN n es) H a ((inn++[b]).headD 0):=⟨fun q=>by obtain⟨z,m,o⟩:=W.ona;exact q z m o,e.1,e.2⟩;have t:a∈S.Jv.getD f []:=by have:=j _ (P.E8 C c);grind
 have u:b∈S.Jv.getD f []:=by have k:=W.lst d hs;have E:Ay a inn b b ((inn.reverse++[a]).headD 0):=(W.Kk d hs).2 rfl;have F:=W.PW d hs E;have G:=(P.one _ _ b _ e ⟨k.1,k.2⟩ c).2 F;have:=j _ ((P.Fm b).2 ⟨fun q=>by obtain⟨z,m,o⟩:=W.sN;exact q z m o,_,⟨k.1,k.2⟩,G⟩);grind
 have r:∀x∈aaq a inn b,x<n:=fun x l=>by
  rw[aaq,vZ,yM,jf]at l;rcases l with rfl|l|rfl
  .exact d.lt _ _ e.1
  .obtain⟨i,y,J,h2⟩:=qm (a:=a) (b:=b) (inn:=inn) (v:=x) (.inr l);exact d.lt _ _ (d.sy _ _ (W.UQ i _ _ J h2).1)
  .exact d.lt _ _ (d.sy _ _ (W.lst d hs).1 |> d.sy _ _)
 obtain⟨K,L,M⟩:=Oy a b inn;refine⟨by grind[Eo],pw,pw,r,?_⟩;have:=agO W.nd (B:=List.range n) pw;grind
end
theorem alloc125(h:aae):agH Tryz.prog h 125=some (.pointer (some ⟨h.next,0,none⟩),h.alloc (.cells [rW,rW,rW])):=Ji
theorem store125{h:aae}{P:Nat}{x y z a b c:Value}(d:h.own P=some (.cells [x,y,z]))(ha:a.oneCell'=true)(hb:b.oneCell'=true)(f:c.oneCell'=true):acs Tryz.prog h 125 (.pointer (some ⟨P,0,none⟩)) (.agg #[a,b,c])=some (h.put P (.cells [a,b,c])):=by have e:(Value.agg #[a,b,c]).cells=#[a,b,c]:=rfl;simp[acs,d,e,dD,putCells,qS19,ha,hb,f]
theorem Od{h:aae}(hw:WF h){a b c:Value}(ha:a.oneCell'=true)(hb:b.oneCell'=true)(e:c.oneCell'=true):∃d h2,agH Tryz.prog h 125=some (.pointer (some ⟨h.next,0,none⟩),d)/\acs Tryz.prog d 125 (.pointer (some ⟨h.next,0,none⟩)) (.agg #[a,b,c])=some h2/\Le h h2/\WF h2/\h2.own h.next=some (.cells [a,b,c])/\Le h d:=by
 obtain⟨d,f,l1,w1,i⟩:=Tt hw [rW,rW,rW]
 have j:h.own h.next=none:=(Le.refl h).next hw (qL0 _)
 grind[alloc125,store125,Le.put,WF.put,WF.lt,aae.Y3]
def OU{h:aae}{P:Nat}{a b c:Value}(d:h.own P=some (.cells [a,b,c])):acd Tryz.prog h 125 ⟨P,0,none⟩=some (.agg #[a,b,c]):=by rw[Wx qS19 rfl dD d Ma];rfl
def lP0{h:aae}{P:Nat}{a b c:Value}(d:h.own P=some (.cells [a,b,c])):acd Tryz.prog h 22 ⟨P,0,none⟩=some a:=by rw[Fq eY rfl d];rfl
def lP1{h:aae}{P:Nat}{a b c:Value}(d:h.own P=some (.cells [a,b,c])):acd Tryz.prog h 49 ⟨P,1,none⟩=some b:=by rw[Fq Mb rfl d];rfl
def lP2{h:aae}{P:Nat}{a b c:Value}(d:h.own P=some (.cells [a,b,c])):acd Tryz.prog h 49 ⟨P,2,none⟩=some c:=by rw[Fq Mb rfl d];rfl
def pB(P k:Nat)(a:k<3):agQ Tryz.prog 125 (.pointer (some ⟨P,0,none⟩)) k=some (.pointer (some ⟨P,k,none⟩)):=by
 match k,a with
 |0,_=>rfl
 |1,_=>rfl
 |2,_=>rfl
theorem GS.load3{h:aae}{v a b c:Value}{m k:Nat}{cs:List Value}(g:GS 3 h v m cs)(f:k<m)(ha:cs[k*3]?=some a)(hb:cs[k*3+1]?=some b)(l:cs[k*3+2]?=some c):acd Tryz.prog h 125 (abv v (k*3))=some (.agg #[a,b,c]):=by
 have gc:=g.cs.get;have e:∀r,Ip (abv v (k*3)) r=abv v (k*3+r):=fun r=>eA3 g f;have:=ua (h:=h) [a,b,c] (abv v (k*3)) fun i x d=>by
  match i,d with
  |0,d=>grind
  |1,d=>grind
  |2,d=>grind
  |i+3,d=>simp at d
 have j:([a,b,c]:List Value).length=3:=rfl;rw[j]at this;simp only[acd,qS19,agS,cond_true,dD,this]
section
variable{g h:aae}{B O n:Nat}{rows:AM}{bv fv iv lv:Value}{us ws cs:List Value}{on:List Bool}{F1 F2:Cs}{left:List wW}
theorem ShS.rlI(S:ShS g h B O n rows bv fv iv lv us ws cs on F1 F2 left):RL (RL sJ) h iv (F2.map (eJ n)):=
 ⟨ws,(GS.cs S.gI).rs,by grind[ShS.wL],fun i x u a c=>by
  rw[F3]at a;cases b:F2[i]? with
  |none=>grind
  |some f=>rw[b]at a;simp at a;subst a;exact(S.cI i u f c b).le Nn.sJ S.le⟩
theorem ShS.rlO(S:ShS g h B O n rows bv fv iv lv us ws cs on F1 F2 left):RL sJ h (.slice (some ⟨O,0,none⟩) n n) on:=RL.ofBo (RS.whole S.oO (by grind[ShS.ZA]))
def ShS.lenL(S:ShS g h B O n rows bv fv iv lv us ws cs on F1 F2 left)(h':aae):ahz Tryz.prog h' 75 lv=some (.int .i64 (left.length:Nat)):=by obtain⟨a,c,rfl,_⟩:=S.gL.cs.sl;exact Jg adW h'
theorem ShS.LF(S:ShS g h B O n rows bv fv iv lv us ws cs on F1 F2 left)(h':aae):ahz Tryz.prog h' 27 fv=some (.int .i64 (F1.length:Nat)):=by obtain⟨a,c,e,_⟩:=S.gF.cs.sl;rw[e,S.uL];exact Jg pE h'
theorem ShS.at_(S:ShS g h B O n rows bv fv iv lv us ws cs on F1 F2 left){k:Nat}(d:k<left.length):∃a b c,cs[k*3]?=some a/\cs[k*3+1]?=some b/\cs[k*3+2]?=some c/\PR g a left[k].zp/\RL RP g b left[k].Fm/\RL RP g c (aaa left[k].fits):=S.cL k _ (yY d)
end
end
end Go.Fw
