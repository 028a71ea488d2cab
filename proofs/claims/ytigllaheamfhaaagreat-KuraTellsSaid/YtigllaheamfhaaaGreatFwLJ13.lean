/- A text. -/
import Derived.Test.YtigllaheamfhaaaGreatFwLJ8
set_option linter.all false
set_option maxRecDepth 99999
set_option maxHeartbeats 9999999
open Go.Proofs
open Option renaming some→Z,none→Y
open Bool renaming true→tT
open List renaming range→rG
open Go.Value renaming slice→sL,pointer→pT
open Go renaming Value→vV
open Go.Proofs.Tryz renaming prog→pG
open Go.Proofs.Tryz
open List
namespace Go.Fw
section
attribute [local instance] Classical.propDecidable
attribute [local irreducible] Kp MQ lU KO1 KO KN KX KE VK Kl ZJ TC aab
variable {cs:List Value} {h:aai} {i m:Nat}
theorem delX_any(K:abw)(id n i cap:Nat)(c:List Value)(h:aai)(L:h.own id=some (.cells c))(hl:n*3<=c.length)(E:(c.take (n*3)).all (·.oneCell')=true)(hi:i<n)(hn:n<=100000)(w:n<=cap)(F:cap<UNK):
  AC Tryz.prog K 94 [.slice (some ⟨id,0,none⟩) n cap,.int .i64 (i:Int),.int .i64 ((i+1:Nat):Int)] h fun x h'=>
   ∃y,y<=cap/\x=.slice (some ⟨id,0,none⟩) y cap/\y=n-1/\∃c',(h'.own id=some (.cells c')/\(∀f,Le f h->f.own id=none->Le f h')/\∀b o,b≠id->h.own b=some o->h'.own b=some o)/\c'.take ((n-1)*3)=c.take (i*3)++((c.drop ((i+1)*3)).take ((n-(i+1))*3)):=by
 have k:¬UNK<=cap:=Bc.2 F;have d:=afm;have j:=qS18;have M:(0:Int)<=(i:Int):=NH;have N:(i:Int)<=((i+1:Nat):Int):=NH;have e3:((i+1:Nat):Int)<=(n:Int):=NH;have e4:(0:Int)<=((i+1:Nat):Int):=NH;have G:(0:Int)<=(n:Int):=NH;have H:(n:Int)<=(cap:Int):=NH;have e7:(i:Int)<=(cap:Int):=NH;have A:∃v,abf Tryz.prog 96 (.slice (some ⟨id,0,none⟩) n cap) (some (.int .i64 (i:Int))) (some (.int .i64 ((i+1:Nat):Int))) (some (.int .i64 (n:Int)))=some v:=by
  refine⟨Value.slice (if n=i then some ⟨id,0,none⟩else some ⟨id,i*3,none⟩) (i+1-i) (n-i),?_⟩
  .simp only[abf,d,k,if_false,w,j,aiL,and_self,if_true,abm,abL,M,N,e3,e4,G,H,yM,ahe,Ip,dD,Gc]
 obtain⟨v1,A⟩:=A;have O:abf Tryz.prog 96 (.slice (some ⟨id,0,none⟩) n cap) none (some (.int .i64 (i:Int))) none=some (.slice (some ⟨id,0,none⟩) i cap):=pn d j i NH w F
 have Q:abf Tryz.prog 96 (.slice (some ⟨id,0,none⟩) n cap) (some (.int .i64 ((i+1:Nat):Int))) none none=some (.slice (if cap=i+1 then some ⟨id,0,none⟩else some ⟨id,(i+1)*3,none⟩) (n-(i+1)) (cap-(i+1))):=by have R:((i+1:Nat):Int)<=(n:Int):=e3;simp only[abf,d,k,if_false,w,j,aiL,and_self,if_true,abm,abL,e4,R,yM,ahe,Ip,dD,Gc]
 have rd:∀e,UA Tryz.prog e=3->aby Tryz.prog h e (.slice (if cap=i+1 then some ⟨id,0,none⟩else some ⟨id,(i+1)*3,none⟩) (n-(i+1)) (cap-(i+1)))=some (n-(i+1),(c.drop ((i+1)*3)).take ((n-(i+1))*3)):=fun e he=>by
  by_cases q:cap=i+1
  .have z:n-(i+1)=0:=NH;rw[abe q,z];simp[aby,abN]
  grind[qF,aby]
 have nl:((c.drop ((i+1)*3)).take ((n-(i+1))*3)).length=(n-(i+1))*3:=hGr;have n1:((c.drop ((i+1)*3)).take ((n-(i+1))*3)).all (·.oneCell')=true:=by
  rw[fj]at E ⊢;intro x S;refine E x ?_;obtain⟨q,B⟩:=vZ.1 S;rw[anh]at B;split at B
  .refine BS (i:=(i+1)*3+q) ?_;grind
  .cases B
 have app:∃c1 l,(l.own id=some (.cells c1)/\(∀f,Le f h->f.own id=none->Le f l)/\∀b o,b≠id->h.own b=some o->l.own b=some o)/\aaR Tryz.prog h 96 96 (.slice (some ⟨id,0,none⟩) i cap) (.slice (if cap=i+1 then some ⟨id,0,none⟩else some ⟨id,(i+1)*3,none⟩) (n-(i+1)) (cap-(i+1)))=some (.slice (some ⟨id,0,none⟩) (n-1) cap,l)/\c1.length=c.length/\
   c1.take ((n-1)*3)=c.take (i*3)++((c.drop ((i+1)*3)).take ((n-(i+1))*3)):=by
  have u:acd Tryz.prog 130=some (.agg #[rW,rW,rW]):=Ji;have I:(Value.agg #[rW,rW,rW]).cells.size=UA Tryz.prog 130/\(Value.agg #[rW,rW,rW]).cells.toList.all (·.oneCell')=true:=⟨by kernel_rfl,by kernel_rfl⟩;have hs:=rd 130 dD;have T:Tryz.prog.bytesOf 130<=1000:=by decide
  have U:(i+(n-(i+1)))*Tryz.prog.bytesOf 130<=140737488355328:=jz (adE (show i+(n-(i+1))<=100000 by omega) T) WY;have V:i+(n-(i+1))<=140737488355328:=NH;have J:(Value.agg #[rW,rW,rW]).cells.size=UA Tryz.prog 130/\(Value.agg #[rW,rW,rW]).cells.toList.all (·.oneCell')/\(Tryz.prog.underlying 130).isSome/\acL (.slice 130)/\((c.drop ((i+1)*3)).take ((n-(i+1))*3)).all (·.oneCell')/\(i+(n-(i+1)))*Tryz.prog.bytesOf 130<=140737488355328/\i+(n-(i+1))<=140737488355328/\((c.drop ((i+1)*3)).take ((n-(i+1))*3)).length=(n-(i+1))*UA Tryz.prog 130:=⟨I.1,I.2,by rfl,rfl,n1,U,V,by grind[dD]⟩;by_cases W:n-(i+1)=0
  .refine⟨c,h,hGr,?_,rfl,?_⟩
   .simp only[aaR,d,u,hs];grind
   .rw[W];grind
  .have room:i*3+((c.drop ((i+1)*3)).take ((n-(i+1))*3)).length<=c.length:=hGr;refine⟨putCells c (i*3) ((c.drop ((i+1)*3)).take ((n-(i+1))*3)),_,⟨aai.Y3 _ _ _,fun f X hf=>X.put _ hf,fun b o hb L=>by grind[aai.By]⟩,?_,afS _ _ _,?_⟩
   .simp only[aaR,d,u,hs];grind[dD]
   .rw[IW _ _ _ room,aeu hGr,HV hGr]
 obtain⟨c1,l,⟨o1,aa,ae⟩,app,ag,C⟩:=app;have S4:abf Tryz.prog 96 (.slice (some ⟨id,0,none⟩) (n-1) cap) (some (.int .i64 ((n-1:Nat):Int))) (some (.int .i64 (n:Int))) none=some (.slice (some ⟨id,(n-1)*3,none⟩) 1 (cap-(n-1))):=by have a1:((n-1:Nat):Int)<=(n:Int):=NH;have a2:(0:Int)<=((n-1:Nat):Int):=NH;have a3:n-1<=cap:=NH;have a4:¬cap=n-1:=NH;have a5:n-(n-1)=1:=NH;simp only[abf,d,k,if_false,a3,j,aiL,and_self,if_true,abm,abL,G,H,a1,a2,yM,a4,a5,ahe,Ip,dD,Gc]
 have p:∃c2,ae9 Tryz.prog l 96 (.slice (some ⟨id,(n-1)*3,none⟩) 1 (cap-(n-1)))=some (.tuple #[],l.put id (.cells c2))/\c2.take ((n-1)*3)=c1.take ((n-1)*3):=by
  have u:acd Tryz.prog 130=some (.agg #[rW,rW,rW]):=Ji;have ai:(Value.agg #[rW,rW,rW]).cells=#[rW,rW,rW]:=Ji;have zr:acY (Value.agg #[rW,rW,rW]).cells.toList 1=[rW,rW,rW]:=Ji;refine⟨putCells c1 ((n-1)*3) [rW,rW,rW],?_,?_⟩
  .have r:(n-1)*3+1*(Value.agg #[rW,rW,rW]).cells.size<=c1.length:=hGr;have fl:(Value.agg #[rW,rW,rW]).cells.toList.all flat=true:=Ji;simp only[ae9,d,u,o1,fl,r,decide_true,Bool.and_self,cond_true,zr];rfl
  grind[IW]
 obtain⟨c2,p,D⟩:=p;refine AC.vF Tryz.func94 Tryz.ntmps94 Tryz.results94 fun aj=>?_;have s:=fun m g=>Jg (P:=Tryz.prog) (t:=96) (a:=some ⟨id,0,none⟩) (n:=m) (cap:=cap) d g;have d1:decide ((i:Int)=((i+1:Nat):Int))=false:=Sb NH;refine Sk (xU s A @ag6 d1) ?_;refine gh (fRn 0 6 (JQ 6 [2,5] (JQ 7 [0,1,2,3,4,5,6] .done))) ?_;simp only[HO,seval,Qg,O,Q,app,s,S4,p];exact⟨n-1,NH,rfl,rfl,c2,(by grind[aai.Y3,Le.put,aai.By]),by rw[D,C]⟩
theorem afs(q:abw){v:vV}(g:GS 3 h v m cs)(d:cu v)(z:cs.all (·.oneCell')=tT)(hi:i<m)(k:m<=100000):
  AC pG q 94 [v,i,((i+1:Nat):Int)] h fun x h'=>
   GS 3 h' x (m-1) (cs.take (i*3)++cs.drop ((i+1)*3))/\cu x/\blk x=blk v/\(∀f,Le f h->Z2 f v->Le f h')/\∀b o,h.own b=Z o->blk v≠Z b->h'.own b=Z o:=by
 obtain⟨A,⟨rfl,B⟩|⟨id,c,cap,rfl,s,C,l⟩⟩:=g
 .omega
 have j:cap=UNK+3:=by
  rcases l with l|⟨rfl,k⟩
  .exact l
  .rcases d with d|⟨a,n,c',d,r⟩
   all_goals grind[UNK]
 subst j;have p:m*3<=c.length:=hGr;refine(AC.exact (Q:=fun n h'=>n=m-1/\∃c',(h'.own id=Z (.cells c')/\(∀f,Le f h->f.own id=Y->Le f h')/\∀b o,b≠id->h.own b=Z o->h'.own b=Z o)/\c'.take ((m-1)*3)=c.take (i*3)++((c.drop ((i+1)*3)).take ((m-(i+1))*3))) NH fun cap h2 h3=>delX_any q id m i cap c h s p hGr hi k h2 h3).mono ?_;rintro x h' ⟨n,rfl,rfl,c',⟨D,fr,t⟩,ct⟩;have u:c.take (i*3)=cs.take (i*3):=hGr;have w:(c.drop ((i+1)*3)).take ((m-(i+1))*3)=cs.drop ((i+1)*3):=by grind[drop_take]
 rw[u,w]at ct;refine⟨⟨?_,(by grind[UNK])⟩,.inr hGr,rfl,fun f y af=>fr f y (af id rfl),fun b o hb k=>t b o (fun e=>k (by rw[e];rfl)) hb⟩;grind
structure ShS (g h:aai) (B O n:Nat) (rows:AM) (bv fv iv lv:vV) (us ws cs:xLV) (on:List Bool) (F1 F2:Cs) (left:List wW):Prop where
 f:Sr h B n bv (sL (Z O) n n) fv iv lv
 oO:h.own O=Z (.cells (Bo on))
 ZA:on.length=n
 gF:GS 1 h fv us.length us
 uL:us.length=F1.length
 u1:us.all (·.oneCell')=tT
 gI:GS 1 h iv ws.length ws
 wL:ws.length=F2.length
 w1:ws.all (·.oneCell')=tT
 gL:GS 3 h lv left.length cs
 cuL:cu lv
 c1:cs.all (·.oneCell')=tT
 sep:Sep g h [fv,iv,lv]
 gB:g.own B=Y
 gO:g.own O=Y
 bO:B≠O
 nb:∀u∈[fv,iv,lv],blk u≠Z B/\blk u≠Z O
 cF:∀(i:Nat) u f,us[i]?=Z u->F1[i]?=Z f->RL RP g u (kz f)
 cI:∀(i:Nat) w f,ws[i]?=Z w->F2[i]?=Z f->RL sJ g w (eJ n f)
 cL:∀(i:Nat) p,left[i]?=Z p->∃a b c,cs[i*3]?=Z a/\cs[i*3+1]?=Z b/\cs[i*3+2]?=Z c/\PR g a p.zp/\RL RP g b p.Fm/\RL RP g c (kz p.fits)
 cB:RL (RL RP) g bv rows
def InS(B O:Nat)(fv iv lv:vV)(b:Nat):Prop:=b=B\/b=O\/∃u∈[fv,iv,lv],blk u=Z b
section
variable{g h:aai}{B O n:Nat}{rows:AM}{bv fv iv lv:vV}{us ws cs:List vV}{on:List Bool}{F1 F2:Cs}{left:List wW}
theorem ShS.le(S:ShS g h B O n rows bv fv iv lv us ws cs on F1 F2 left):Le g h:=S.sep.le
theorem ShS.own(S:ShS g h B O n rows bv fv iv lv us ws cs on F1 F2 left){b:Nat}(hb:InS B O fv iv lv b):g.own b=Y/\h.own b≠Y:=by
 rcases hb with rfl|rfl|⟨u,a,hb⟩
 .exact⟨S.gB,by rw[S.f.o];simp⟩
 .exact⟨S.gO,by rw[S.oO];simp⟩
 .obtain⟨i,hi⟩:=vZ.1 a;exact⟨S.sep.ap i u hi b hb,S.sep.own i u b hi hb⟩
theorem ShS.ground(S:ShS g h B O n rows bv fv iv lv us ws cs on F1 F2 left){a:aai}(l:Le g a)(l2:Le a h)(c:∀b,InS B O fv iv lv b->a.own b=Y):ShS a h B O n rows bv fv iv lv us ws cs on F1 F2 left:=
 {S with
  sep:=⟨S.sep.TE,S.sep.own,fun i u e b hb=>c b (.inr (by grind[mem_of_getElem?])),l2⟩
  gB:=c B (.inl rfl),gO:=c O (.inr (.inl rfl))
  cF:=fun i u f d h2=>(S.cF i u f d h2).le Nn.RP l
  cI:=fun i u f d h2=>(S.cI i u f d h2).le Nn.sJ l
  cL:=by grind[ShS.cL,PR.le,RL.le,Nn.RP]
  cB:=S.cB.le (Nn.RL Nn.RP) l}
theorem ShS.up(S:ShS g h B O n rows bv fv iv lv us ws cs on F1 F2 left){h':aai}(l:Le h h'):ShS g h' B O n rows bv fv iv lv us ws cs on F1 F2 left:={S with f:=S.f.le l,oO:=l.own _ _ S.oO,gF:=S.gF.le l,gI:=S.gI.le l,gL:=S.gL.le l,sep:=S.sep.up l}
def Hg(h:aai)(B O:Nat)(fv iv lv:vV):aai:=rem (B::O::(bl fv++bl iv++bl lv)) h
theorem HX{B O:Nat}{fv iv lv:vV}{b:Nat}:b∈B::O::(bl fv++bl iv++bl lv)↔InS B O fv iv lv b:=by grind[InS,Zr]
theorem ShS.reg(S:ShS g h B O n rows bv fv iv lv us ws cs on F1 F2 left):ShS (Hg h B O fv iv lv) h B O n rows bv fv iv lv us ws cs on F1 F2 left/\Le g (Hg h B O fv iv lv):=by have l:Le g (Hg h B O fv iv lv):=S.le.iV fun b hb=>(S.own (HX.1 hb)).1;grind[ShS.ground,Sa,Hg,DC,HX]
def Pv{k m:Nat}{u:vV}{xs:xLV}{a:aai}(S:ShS g a B O n rows bv fv iv lv us ws cs on F1 F2 left)(q:GS k h u m xs)(ha:Z2 a u):GS k (Hg h B O fv iv lv) u m xs:=by refine GS.Fi q fun b hb c=>?_;exact(S.own (HX.1 c)).2 (ha b hb)
def ShS.stF{t:TypeId}{d:TypeDesc}(S:Sr h B n bv (sL (Z O) n n) fv iv lv)(b:pG.underlying t=Z d)(hs:UA pG t=1){k:Nat}(c:k<6){x:vV}{m:Nat}(a:xO x m):
  aaK pG h t (pT (Z ⟨B,k,Y⟩)) x=Z (h.put B (.cells (([n,bv,sL (Z O) n n,fv,iv,lv]:xLV).set k x))):=
 QB b hs S.o (by simpa using c) a.cell a.one
def sep3{a b c a':vV}(S:Sep g h [a,b,c]){h':aai}(hf:∀f,Le f h->Z2 f a->Le f h'/\Z2 f a')(d:∀b o,h.own b=Z o->blk a≠Z b->h'.own b=Z o/\blk a'≠Z b)(e:∀b,blk a'=Z b->h'.own b≠Y):Sep g h' [a',b,c]:=S.app (i:=0) rfl hf d e
def sep3b{a b c a':vV}(S:Sep g h [a,b,c]){h':aai}(hf:∀f,Le f h->Z2 f b->Le f h'/\Z2 f a')(d:∀x o,h.own x=Z o->blk b≠Z x->h'.own x=Z o/\blk a'≠Z x)(e:∀b,blk a'=Z b->h'.own b≠Y):Sep g h' [a,a',c]:=S.app (i:=1) rfl hf d e
def sep3c{a b c a':vV}(S:Sep g h [a,b,c]){h':aai}(hf:∀f,Le f h->Z2 f c->Le f h'/\Z2 f a')(d:∀x o,h.own x=Z o->blk c≠Z x->h'.own x=Z o/\blk a'≠Z x)(e:∀b,blk a'=Z b->h'.own b≠Y):Sep g h' [a,b,a']:=S.app (i:=2) rfl hf d e
theorem Sep.put(S:Sep g h us){b:Nat}(o:fK)(hb:g.own b=Y):Sep g (h.put b o) us:=(by grind[Sep.kept,Sep.le,Le.put,aai.Y3,aai.By])
theorem ShS.pushF(S:ShS g h B O n rows bv fv iv lv us ws cs on F1 F2 left)(p:WF h){u:vV}{f:II}(D:RL RP g u (kz f))(M:F1.length<=100000):
  ∃a e d r,h.alloc (.cells [u])=e/\aaR pG e 45 45 fv (sL (Z h.next) 1 1)=Z (a,d)/\aaK pG d 45 (pT (Z ⟨B,3,Y⟩)) a=Z r/\
   ShS g r B O n rows bv a iv lv (us++[u]) ws cs on (F1++[f]) F2 left/\WF r/\Le h e/\Sr d B n bv (sL (Z O) n n) fv iv lv:=by
 have⟨e,e4,l4,z,E⟩:=Tt p [u];have j:=S.up l4;have⟨a,d,A,F,G⟩:=GS.push (P:=pG) (t:=45) Ji j.gF E S.u1 D.one (by rw[S.uL];omega);have C:=xr z A;have s:=fun f H af=>G f z H af;have m:∀b o,e.own b=Z o->blk fv≠Z b->d.own b=Z o/\blk a≠Z b:=by grind[aG]
 have⟨l,I⟩:=m B _ j.f.o (S.nb fv Ma).1;have⟨J,K⟩:=m O _ j.oO (by grind[ShS.nb]);have v:xO a (us.length+1):=by have:=F.cs.sl;exact this
 have st:=ShS.stF (h:=d) ⟨l⟩ (t:=45) qS6 Ji (k:=3) NH v;have x:=sep3 j.sep s m (by grind[GS.Sy]);have TE:=j.sep.TE;have kI:∀b o,blk iv=Z b->e.own b=Z o->d.own b=Z o:=fun b o hb y=>(m b o y (TE 1 0 iv fv b NH rfl rfl hb)).1;have kL:∀b o,blk lv=Z b->e.own b=Z o->d.own b=Z o:=fun b o hb y=>(m b o y (TE 2 0 lv fv b NH rfl rfl hb)).1;have L:=S.nb iv Ma;have nL:=S.nb lv Ma;refine⟨a,e,d,_,e4,A,st,?_,C.put _ (C.lt l),l4,⟨l⟩⟩;exact{S with
  f:=⟨aai.Y3 _ _ _⟩
  oO:=by grind[aai.By,ShS.bO]
  gF:=by grind[GS.put]
  uL:=by simp[S.uL]
  u1:=by grind[ShS.u1,RL.one]
  gI:=GS.put (GS.kept j.gI kI) _ L.1
  gL:=GS.put (GS.kept j.gL kL) _ nL.1
  sep:=x.put _ S.gB
  nb:=hGr
  cF:=fun i w q hw N=>by
   by_cases c:i<us.length
   .grind[ShS.uL,ShS.cF]
   grind[length_append,length_singleton,ShS.uL]}
theorem ShS.pushI(S:ShS g h B O n rows bv fv iv lv us ws cs on F1 F2 left)(p:WF h){u:vV}{f:II}(D:RL sJ g u (eJ n f))(M:F2.length<=100000):
  ∃a e d r,h.alloc (.cells [u])=e/\aaR pG e 95 95 iv (sL (Z h.next) 1 1)=Z (a,d)/\aaK pG d 95 (pT (Z ⟨B,4,Y⟩)) a=Z r/\
   ShS g r B O n rows bv fv a lv us (ws++[u]) cs on F1 (F2++[f]) left/\WF r/\Le h e/\Sr d B n bv (sL (Z O) n n) fv iv lv:=by
 have⟨e,e4,l4,z,E⟩:=Tt p [u];have j:=S.up l4;have⟨a,d,A,F,G⟩:=GS.push (P:=pG) (t:=95) Ji j.gI E S.w1 D.one (by rw[S.wL];omega);have C:=xr z A;have s:=fun f H af=>G f z H af;have m:∀b o,e.own b=Z o->blk iv≠Z b->d.own b=Z o/\blk a≠Z b:=by grind[aG]
 have⟨l,I⟩:=m B _ j.f.o (S.nb iv Ma).1;have⟨J,K⟩:=m O _ j.oO (by grind[ShS.nb]);have v:xO a (ws.length+1):=by have:=F.cs.sl;exact this
 have st:=ShS.stF (h:=d) ⟨l⟩ (t:=95) qS27 Ji (k:=4) NH v;have x:=sep3b j.sep s m (by grind[GS.Sy]);have TE:=j.sep.TE;have kF:∀b o,blk fv=Z b->e.own b=Z o->d.own b=Z o:=fun b o hb y=>(m b o y (TE 0 1 fv iv b NH rfl rfl hb)).1;have kL:∀b o,blk lv=Z b->e.own b=Z o->d.own b=Z o:=fun b o hb y=>(m b o y (TE 2 1 lv iv b NH rfl rfl hb)).1;have L:=S.nb fv Ma;have nL:=S.nb lv Ma;refine⟨a,e,d,_,e4,A,st,?_,C.put _ (C.lt l),l4,⟨l⟩⟩;exact{S with
  f:=⟨aai.Y3 _ _ _⟩
  oO:=by grind[aai.By,ShS.bO]
  gI:=by grind[GS.put]
  wL:=by simp[S.wL]
  w1:=by grind[ShS.w1,RL.one]
  gF:=GS.put (GS.kept j.gF kF) _ L.1
  gL:=GS.put (GS.kept j.gL kL) _ nL.1
  sep:=x.put _ S.gB
  nb:=hGr
  cI:=fun i w q hw N=>by
   by_cases c:i<ws.length
   .grind[ShS.wL,ShS.cI]
   grind[length_append,length_singleton,ShS.wL]}
theorem ShS.setF(S:ShS g h B O n rows bv fv iv lv us ws cs on F1 F2 left)(c:WF h){u:vV}{f:II}(k:RL RP g u (kz f)){i:Nat}(hi:i<F1.length):
  ∃h',aaK pG h 47 (pT (Z (aaq fv i))) u=Z h'/\ShS g h' B O n rows bv fv iv lv (us.set i u) ws cs on (F1.set i f) F2 left/\WF h':=by
 have m:i<us.length:=by grind[ShS.uL]
 have⟨h',e,p,w',fr,a⟩:=GS.stor S.gF c (t:=47) (x:=u) Mb Ji (i:=i) NH k.sl.cell k.one;have TE:=S.sep.TE;have l:=S.nb fv Ma;refine⟨h',e,?_,w'⟩;exact{S with
  f:=⟨a _ _ S.f.o l.1⟩
  oO:=a _ _ S.oO l.2
  gF:=hGr
  uL:=by simp[S.uL]
  u1:=by
   rw[fj];intro x d;rcases PN d with d|rfl
   .exact fj.1 S.u1 x d
   grind[RL.one]
  gI:=GS.kept S.gI fun b o hb j=>a b o j (TE 1 0 iv fv b NH rfl rfl hb)
  gL:=GS.kept S.gL fun b o hb j=>a b o j (TE 2 0 lv fv b NH rfl rfl hb)
  sep:=S.sep.kept (fr g S.le (S.sep.ap 0 fv rfl)) (by grind[GS.Sy])
  cF:=by grind[ShS.cF]}
theorem ShS.setI(S:ShS g h B O n rows bv fv iv lv us ws cs on F1 F2 left)(c:WF h){u:vV}{f:II}(k:RL sJ g u (eJ n f)){i:Nat}(hi:i<F2.length):
  ∃h',aaK pG h 94 (pT (Z (aaq iv i))) u=Z h'/\ShS g h' B O n rows bv fv iv lv us (ws.set i u) cs on F1 (F2.set i f) left/\WF h':=by
 have m:i<ws.length:=by grind[ShS.wL]
 have⟨h',e,p,w',fr,a⟩:=GS.stor S.gI c (t:=94) (x:=u) Uh Ji (i:=i) NH k.sl.cell k.one;have TE:=S.sep.TE;have l:=S.nb iv Ma;refine⟨h',e,?_,w'⟩;exact{S with
  f:=⟨a _ _ S.f.o l.1⟩
  oO:=a _ _ S.oO l.2
  gI:=hGr
  wL:=by simp[S.wL]
  w1:=by
   rw[fj];intro x d;rcases PN d with d|rfl
   .exact fj.1 S.w1 x d
   grind[RL.one]
  gF:=GS.kept S.gF fun b o hb j=>a b o j (TE 0 1 fv iv b NH rfl rfl hb)
  gL:=GS.kept S.gL fun b o hb j=>a b o j (TE 2 1 lv iv b NH rfl rfl hb)
  sep:=S.sep.kept (fr g S.le (S.sep.ap 1 iv rfl)) (by grind[GS.Sy])
  cI:=by grind[ShS.cI]}
theorem ShS.setO(S:ShS g h B O n rows bv fv iv lv us ws cs on F1 F2 left)(a:WF h){v:Nat}(b:v<n):
  ∃h',aaK pG h 4 (pT (Z ⟨O,v,Y⟩)) (.bool tT)=Z h'/\ShS g h' B O n rows bv fv iv lv us ws cs (on.set v tT) F1 F2 left/\WF h':=by
 have st:aaK pG h 4 (pT (Z ⟨O,v,Y⟩)) (.bool tT)=Z (h.put O (.cells (Bo (on.set v tT)))):=by rw[QB (P:=pG) (t:=4) (x:=.bool tT) eY Ji S.oO (off:=v) (by rw[ahm,S.ZA];exact b) rfl rfl,Tr]
 have c:=S.nb fv Ma;have d:=S.nb iv Ma;have nL:=S.nb lv Ma;refine⟨_,st,?_,a.put _ (a.lt S.oO)⟩;exact{S with
  f:=⟨by grind[aai.By,ShS.bO,Sr.o,ShS.f]⟩
  oO:=aai.Y3 _ _ _
  ZA:=by grind[ShS.ZA]
  gF:=GS.put S.gF _ c.2
  gI:=GS.put S.gI _ d.2
  gL:=GS.put S.gL _ nL.2
  sep:=S.sep.put _ S.gO}
end
section
variable{g h:aai}{B O n:Nat}{rows:AM}{bv fv iv lv:vV}{us ws cs:List vV}{on:List Bool}{F1 F2:Cs}{left:List wW}
theorem get3{cs:xLV}{k r j q:Nat}(a:r<3)(b:q<3){x:vV}(c:k*3+r<cs.length):(cs.set (k*3+r) x)[j*3+q]?=if k=j/\r=q then Z x else cs[j*3+q]?:=hGr
theorem ShS.setT(S:ShS g h B O n rows bv fv iv lv us ws cs on F1 F2 left)(s:WF h){i:Nat}(hi:i<left.length){u:vV}{fits:II}(y:RL RP g u (kz fits)):
  ∃h',aaK pG h 47 (pT (Z (aaq lv (i*3+2)))) u=Z h'/\ShS g h' B O n rows bv fv iv lv us ws (cs.set (i*3+2) u) on F1 F2 (left.set i {left[i]with fits:=fits})/\WF h':=by
 have z:=S.gL.1;have⟨h',e,I,w',fr,l⟩:=GS.stor S.gL s (t:=47) (x:=u) Mb Ji (i:=i*3+2) NH y.sl.cell y.one;have TE:=S.sep.TE;have nL:=S.nb lv Ma;refine⟨h',e,?_,w'⟩;exact{S with
  f:=⟨l _ _ S.f.o nL.1⟩
  oO:=l _ _ S.oO nL.2
  gL:=hGr
  c1:=by
   rw[fj];intro x v;rcases PN v with v|rfl
   .exact fj.1 S.c1 x v
   grind[RL.one]
  gF:=GS.kept S.gF fun b o hb m=>l b o m (TE 0 2 fv lv b NH rfl rfl hb)
  gI:=GS.kept S.gI fun b o hb m=>l b o m (TE 1 2 iv lv b NH rfl rfl hb)
  sep:=S.sep.kept (fr g S.le (S.sep.ap 2 lv rfl)) fun b o m=>by grind[GS.Sy]
  cL:=fun j p d=>by
   have w:i*3+2<cs.length:=NH;have A:=get3 (cs:=cs) (k:=i) (r:=2) (j:=j) (q:=0) (x:=u) NH NH w;have C:=get3 (cs:=cs) (k:=i) (r:=2) (j:=j) (q:=1) (x:=u) NH NH w;have D:=get3 (cs:=cs) (k:=i) (r:=2) (j:=j) (q:=2) (x:=u) NH NH w;rw[abE NH]at A C;rw[Tn]at d;by_cases c:i=j
   .subst c;simp only[if_true,hi]at d;injection d with d;subst d;have⟨a,b,c,E,F,G,H,J,K⟩:=S.cL i _ (qL7 hi);grind
   .rw[abE c]at d;rw[abE (fun q=>c q.1)]at D;have⟨a,b,c,E,F,G,H⟩:=S.cL j p d;grind}
def mkPcV(h:aai){a b c:vV}{m1 m2 m3:Nat}(ha:xO a m1)(hb:xO b m2)(d:xO c m3):aas pG h 96 1 [(0,.agg #[a,b,c])]=Z (sL (Z h.next) 1 1,h.alloc (.cells [a,b,c])):=by obtain⟨_,_,rfl,_⟩:=ha;obtain⟨_,_,rfl,_⟩:=hb;obtain⟨_,_,rfl,_⟩:=d;rfl
theorem ShS.pushL(S:ShS g h B O n rows bv fv iv lv us ws cs on F1 F2 left)(z:WF h){a b c:vV}{p:wW}(ha:PR g a p.zp)(hb:RL RP g b p.Fm)(A:RL RP g c (kz p.fits))(hn:left.length<=100000):
  ∃d l i C,aas pG h 96 1 [(0,.agg #[a,b,c])]=Z (sL (Z h.next) 1 1,l)/\aaR pG l 96 96 lv (sL (Z h.next) 1 1)=Z (d,i)/\aaK pG i 96 (pT (Z ⟨B,5,Y⟩)) d=Z C/\
   ShS g C B O n rows bv fv iv d us ws (cs++[a,b,c]) on F1 F2 (left++[p])/\WF C/\Le h l/\Sr i B n bv (sL (Z O) n n) fv iv lv/\Le g i:=by
 have⟨l,e4,l4,D,J⟩:=Tt z [a,b,c];have mk:=mkPcV h ha.sl hb.sl A.sl;rw[e4]at mk;have m:=S.up l4;have K:([a,b,c]:xLV).all (·.oneCell')=tT:=by simp[ha.sl.one,hb.one,A.one]
 have hs:∀e,UA pG e=3->aby pG l e (sL (Z h.next) 1 1)=Z (1,[a,b,c]):=fun e L=>CS.src L (CS.own (k:=3) (off:=0) (n:=1) (cap:=1) J Ma)
 have⟨d,i,E,G,H⟩:=GS.append (P:=pG) (t:=96) (xt:=96) (k:=3) Ji m.gL hs m.c1 K rfl NH;have I:=xr D E;have F:=fun f M af=>H f D M af;have v:∀b o,l.own b=Z o->blk lv≠Z b->i.own b=Z o/\blk d≠Z b:=fun b o w hb=>aG H D w hb;have⟨r,N⟩:=v B _ m.f.o (S.nb lv Ma).1;have⟨Q,R⟩:=v O _ m.oO (S.nb lv Ma).2;have st:=ShS.stF (h:=i) ⟨r⟩ (t:=96) afm Ji (k:=5) NH G.cs.sl;have y:=sep3c m.sep F v (fun b hb=>GS.Sy G hb);have TE:=m.sep.TE;have kF:∀b o,blk fv=Z b->l.own b=Z o->i.own b=Z o:=fun b o hb w=>(v b o w (TE 0 2 fv lv b NH rfl rfl hb)).1;have kI:∀b o,blk iv=Z b->l.own b=Z o->i.own b=Z o:=fun b o hb w=>(v b o w (TE 1 2 iv lv b NH rfl rfl hb)).1;have T:=S.nb fv Ma;have U:=S.nb iv Ma;refine⟨d,l,i,_,mk,E,st,?_,I.put _ (I.lt r),l4,⟨r⟩,y.le⟩;exact{S with
  f:=⟨aai.Y3 _ _ _⟩
  oO:=by grind[aai.By,ShS.bO]
  gL:=by grind[length_singleton,GS.put]
  cuL:=uZ E S.cuL
  c1:=by grind[ShS.c1]
  gF:=GS.put (GS.kept m.gF kF) _ T.1
  gI:=GS.put (GS.kept m.gI kI) _ U.1
  sep:=y.put _ S.gB
  nb:=fun x hx=>by grind
  cL:=fun j q u=>by
   have s:cs.length=left.length*3:=S.gL.1;by_cases c:j<left.length
   .rw[si c]at u;have⟨a',V,c',q1,q2,q3,W⟩:=S.cL j q u;refine⟨a',V,c',?_,?_,?_,W⟩
    .grind
    .grind
    grind
   .have hi:=(Ny.1 u).1;rw[Eh,vY]at hi;have X:j=left.length:=NH;subst X;rw[AE (qL0 _),aj3]at u;simp at u;subst u;refine⟨a,b,_,?_,?_,?_,ha,hb,A⟩
    .rw[AE NH,s,aj3];rfl
    .rw[AE NH,s,qL127];rfl
    .rw[AE NH,s,qL127];rfl}
theorem ShS.delL(S:ShS g h B O n rows bv fv iv lv us ws cs on F1 F2 left){e:aai}(w1:WF e){a:vV}{i:Nat}(hi:i<left.length)(gd:GS 3 e a (left.length-1) (cs.take (i*3)++cs.drop ((i+1)*3)))(C:cu a)(H:blk a=blk lv)(fr:∀f,Le f h->Z2 f lv->Le f e)(v:∀b o,h.own b=Z o->blk lv≠Z b->e.own b=Z o):
  ∃h2,aaK pG e 96 (pT (Z ⟨B,5,Y⟩)) a=Z h2/\ShS g h2 B O n rows bv fv iv a us ws (cs.take (i*3)++cs.drop ((i+1)*3)) on F1 F2 (left.eraseIdx i)/\WF h2:=by
 have I:=S.nb fv Ma;have J:=S.nb iv Ma;have nL:=S.nb lv Ma;have TE:=S.sep.TE;have r:=v _ _ S.f.o nL.1;have K:=v _ _ S.oO nL.2;have st:=ShS.stF (h:=e) ⟨r⟩ (t:=96) afm Ji (k:=5) NH gd.cs.sl;have kF:∀b o,blk fv=Z b->h.own b=Z o->e.own b=Z o:=fun b o hb y=>v b o y (TE 0 2 fv lv b NH rfl rfl hb);have kI:∀b o,blk iv=Z b->h.own b=Z o->e.own b=Z o:=fun b o hb y=>v b o y (TE 1 2 iv lv b NH rfl rfl hb);have L:=fr g S.le (S.sep.ap 2 lv rfl);have D:Sep g e [fv,iv,a]:=by
  have key:∀(i:Nat) u,([fv,iv,a]:xLV)[i]?=Z u->∃l,([fv,iv,lv]:xLV)[i]?=Z l/\blk u=blk l:=fun i u d=>by
   match i,d with
   |0,d=>grind
   |1,d=>grind
   |2,d=>grind
   |i+3,d=>simp at d
  refine⟨fun i j u w b E d hw hb=>?_,fun i u b d hb=>?_,fun i u d b hb=>?_,L⟩
  .obtain⟨l,m,p⟩:=key i u d;have⟨M,z,s⟩:=key j w hw;rw[s];exact TE i j l M b E m z hGr
  .obtain⟨l,m,p⟩:=key i u d;rw[p]at hb;by_cases c:blk lv=Z b
   .grind[GS.Sy]
   .obtain⟨o,y⟩:=N8.1 (S.sep.own i l b m hb);grind
  .obtain⟨l,m,p⟩:=key i u d;exact S.sep.ap i l m b hGr
 have N:(left.eraseIdx i).length=left.length-1:=hGr;refine⟨_,st,?_,w1.put _ (w1.lt r)⟩;exact{S with
  f:=⟨aai.Y3 _ _ _⟩
  oO:=by grind[aai.By,ShS.bO]
  gL:=by grind[GS.put]
  cuL:=C
  c1:=by rw[fj];intro x P;refine fj.1 S.c1 x ?_;grind
  gF:=GS.put (GS.kept S.gF kF) _ I.1
  gI:=GS.put (GS.kept S.gI kI) _ J.1
  sep:=D.put _ S.gB
  nb:=fun x P=>by grind
  cL:=fun j q A=>by
   have Q:cs.length=left.length*3:=S.gL.1;have F:(cs.take (i*3)).length=i*3:=hGr;rw[List.getElem?_eraseIdx]at A;split at A
   .rename_i c;have⟨a',G,c',m,p,z,s⟩:=S.cL j q A;refine⟨a',G,c',?_,?_,?_,s⟩
    .grind
    .grind
    grind
   .rename_i c;have⟨a',G,c',m,p,z,s⟩:=S.cL (j+1) q A;refine⟨a',G,c',?_,?_,?_,s⟩
    .rw[AE NH,F,b7,show(i+1)*3+(j*3-i*3)=(j+1)*3 by omega];exact m
    .rw[AE NH,F,b7,show(i+1)*3+(j*3+1-i*3)=(j+1)*3+1 by omega];exact p
    .rw[AE NH,F,b7,show(i+1)*3+(j*3+2-i*3)=(j+1)*3+2 by omega];exact z}
end
def bldF(h:aai){u:vV}{m:Nat}(a:xO u m):aas pG h 45 1 [(0,u)]=Z (sL (Z h.next) 1 1,h.alloc (.cells [u])):=by obtain⟨_,_,rfl,_⟩:=a;rfl
def bldI(h:aai){u:vV}{m:Nat}(a:xO u m):aas pG h 95 1 [(0,u)]=Z (sL (Z h.next) 1 1,h.alloc (.cells [u])):=by obtain⟨_,_,rfl,_⟩:=a;rfl
def sB(B k:Nat)(a:k<6):aca pG 98 (pT (Z B)) k=Z (pT (Z ⟨B,k,Y⟩)):=by
 match k,a with
 |0,_=>rfl
 |1,_=>rfl
 |2,_=>rfl
 |3,_=>rfl
 |4,_=>rfl
 |5,_=>rfl
theorem IU(r:abw){g h:aai}{B O n:Nat}{rows:AM}{bv fv iv lv:vV}{us ws cs:xLV}{on:List Bool}{F:Cs}{left:List wW}(S:ShS g h B O n rows bv fv iv lv us ws cs on F F left){u:vV}{f:II}(e:RL RP g u (kz f))(hf:∀x∈f,x<n)(w:n<=1000)(y:f.length<=1000)(R:F.length<=10000):
  AC pG r 90 [pT (Z B),u] h fun _ h'=>∃s a c i j,ShS s h' B O n rows bv a c lv i j cs on (F++[f]) (F++[f]) left/\Le g s:=by
 refine AC.vF func90 ntmps90 results90 fun k=>?_;obtain⟨a,T,U,z,e4,A,C,b,V,l4,-⟩:=S.pushF k e NH;have t:=bldF h e.sl;rw[e4]at t;have W:=(S.up l4).f;have l:=sB B 3 NH;have d:=sB B 4 NH;refine Sk (IX l S.f.l3 t A C) ?_;refine gh (fRn 0 7 (JQ 7 [5,6] (JQ 8 [7] (JQ 9 [4,7,8] (tA [10,11] (JQ 12 [0,1,2,3,4,5,6,7,8,9,11] .done)))))) ?_;refine CO (XC d b.f.l4) ?_;refine kGi func109 (bJ r B n bv _ a iv lv u f z b.f (e.le Nn.RP b.le) hf w y) ?_;rintro x m D ⟨E,G,ax⟩;have⟨o,H⟩:=(b.up G).reg;have p:=Pv (h:=m) b E ax;have rx:RL sJ (Hg m B O a iv lv) x (eJ n f):=RL.ofBo (by have:=GS.cs p;grind[CS.rs,Bo.eq_1]);have⟨c,X,h9,I,J,K,q,L,M,N,P⟩:=o.pushI D rx NH;have Q:=o.f.le N;have v:=bldI m rx.sl;rw[J]at v;refine CO (adG d b.f.l4 o.f.l4 Q.l4 P.l4 v K q) ?_;grind
variable {B O a b j n v x:Nat} {F:Cs} {f way:II} {g:aai} {left:List wW} {rows:AM} {us ws:List Value} {xs:RZ}
theorem idx_of(c:xs=kz f)(hi:i<xs.length)(h:xs[i]=(v:Int))(a:∀j (b:j<i),xs[j]≠(v:Int)):Dn f v=i:=by
 subst c;have d:i<f.length:=by grind[y6]
 unfold Dn;rw[qL221 d];refine⟨?_,fun j b=>?_⟩
 .grind[sY]
 .rw[ah9];intro e;refine a j b ?_;rw[sY (show j<f.length by omega)];grind
def adW(f:II)(i j:Nat)(h:0<f.length):(Qk f i j).length<=f.length:=by unfold Qk;rw[wI,amP];exact Q4 _ h
theorem Aw(h:0<f.length)(a:x∈Qk f i j):x∈f:=by grind[Qk,Nat.mod_lt]
def ao3(h:x∈jc way):x∈way:=mem_of_mem_drop (aj8 h)
theorem inn_len(way:II):(jc way).length<=way.length:=by grind[jc]
def NP(a b:II):kz (a++b)=kz a++kz b:=by simp[kz]
def nat64_rev(a:II):kz a.reverse=(kz a).reverse:=by simp[kz]
def headN0:∀{l:II}(h:0<l.length),l.headD 0=l[0]
 |_::_,_=>rfl
theorem se(h:b<=a)(h2:a<=100000):aaY .i64 ((a:Int)-(b:Int))=((a-b:Nat):Int):=by grind[ie]
theorem Kz(A:abw){bv C G U V:vV}{on:List Bool}(S:ShS g h B O n rows bv C G U us ws cs on F F left){f:Nat}(hf:f<F.length)(hw:GI g V (kz way))(h2:2<=way.length)(ha:way.headD 0∈F.getD f [])(hb:Ni way∈F.getD f [])(W:∀x∈F.getD f [],x<n)(X:∀x∈way,x<n)(hn:n<=300)(bo:(F.getD f []).length<=300)(br:way.length<=301)(hF:F.length<=1000):
  AC pG A 95 [pT (Z B),.int .i64 (f:Int),V] h fun _ h'=>∃d H I J K,ShS d h' B O n rows bv H I U J K cs on (kY F f way) (kY F f way) left/\Le g d:=by
 have D:f<us.length:=by grind[ShS.uL]
 have aa:=qL7 D;have aA:=qL7 hf;have L:F.getD f []=F[f]:=D4 hf;have cu:=S.cF f _ _ aa aA;rw[<-L]at cu;have e:Ee (F.getD f []) way=Qk (F.getD f []) (Dn (F.getD f []) (way.headD 0)) (Dn (F.getD f []) (Ni way))++(jc way).reverse:=rfl;have l:kP (F.getD f []) way=Qk (F.getD f []) (Dn (F.getD f []) (Ni way)) (Dn (F.getD f []) (way.headD 0))++jc way:=rfl;have ae:kY F f way=F.set f (Ee (F.getD f []) way)++[kP (F.getD f []) way]:=rfl;have p:0<(F.getD f []).length:=aho ha;have ag:∀v,v∈F.getD f []->Dn (F.getD f []) v<(F.getD f []).length:=fun v hv=>by grind[Dn]
 have ia:=ag _ ha;have ib:=ag _ hb;have ai:aao pG 45 C (.int .i64 (f:Int))=Z (pT (Z (aaq C f))):=by have:=(GS.cs S.gF).rs.NS f D;exact this
 have ldF:aaC pG h 47 (aaq C f)=Z us[f]:=by rw[Bj Mb rfl];exact(GS.cs S.gF).rs.get f _ aa
 generalize hu:us[f]=u at*;generalize bx:F.getD f []=EI at*;refine AC.vF func95 ntmps95 results95 fun bz=>?_;have M:=sB B 3 NH;have aj:=sB B 4 NH;have lw:=fun d=>hw.rl.TA d;rw[y6]at lw;have w0:0<way.length:=NH;have aB:=hw.le S.le;have al:∀q:Nat,q<way.length->aao pG 47 V (.int .i64 (q:Int))=Z (pT (Z (aaq V q))):=fun q hq=>hw.rl.DH q (by rw[y6];exact hq);have aq:∀d,Le g d->∀q (hq:q<way.length),aaC pG d 3 (aaq V q)=Z (.int .i64 ((way[q]:Nat):Int)):=fun d lg q hq=>by rw[(hw.le lg).rl.Uc q (by rw[y6];exact hq),sY hq]
 have e0:way.headD 0=way[0]:=headN0 w0;have eL:Ni way=way[way.length-1]:=D4 NH;have s1:aaY .i64 ((way.length:Int)-1)=((way.length-1:Nat):Int):=by have:=se (a:=way.length) (b:=1) NH NH;exact this
 have r:=al 0 w0;simp only[Gg]at r;have N:=al (way.length-1) NH;have s:=aq h S.le 0 w0;have w:=aq h S.le (way.length-1) NH;rw[<-e0]at s;rw[<-eL]at w;simp only[HO,seval,M,S.f.l3,ai,ldF];refine gh (tA [0,1,2,3] (fRn 5 7 (JQ 4 [0,3] (JQ 12 [4,5,11] (tA [13,14] .done))))) ?_;simp only[HO,seval,Qg,r,lw,s1,N,s,w];refine kGi func68 (OS A u (kz EI) ((way.headD 0:Nat):Int) h (cu.le Nn.RP S.le) (by rw[y6];omega)) ?_;rintro x h3 w3 ⟨c,rfl⟩;rcases c with⟨_,Q⟩|⟨i,hi,rfl,aC,aD⟩
 .exact absurd (aev.2 ⟨_,ha,rfl⟩) Q
 have ei:=idx_of rfl hi aC aD;simp only[HO,seval,Qg,r,lw,s1,N,s,w];refine kGi func68 (OS A u (kz EI) ((Ni way:Nat):Int) h3 (cu.le Nn.RP S.le) (by rw[y6];omega)) ?_;rintro x h4 w4 ⟨c,rfl⟩;rcases c with⟨_,Q⟩|⟨j,hj,rfl,aE,ar⟩
 .exact absurd (aev.2 ⟨_,hb,rfl⟩) Q
 have ej:=idx_of rfl hj aE ar;rw[ei,ej]at e l;rw[ei]at ia;rw[ej]at ib;have⟨nv,esl,bA⟩:=Hx (P:=pG) (t:=47) Mb Ac Ji aB (by rw[y6];omega) 1 (way.length-1) NH (by rw[y6];omega);have R:RL RP h4 nv (kz (jc way)):=RL.Wh (by
  have:(Bp (kz way)).drop 1=Bp (kz (way.drop 1)):=by simp[Bp,kz]
  grind[Bp,kz,jc,List.map_take])
 have av:=fun d=>R.TA d;rw[y6]at av;have bB:=inn_len way;simp only[HO,seval,Qg,r,lw,s1,N,s,w];simp only[qL223]at esl;simp only[HO,seval,lw,s1,esl];refine kCi func117 (Ra A u EI i j h4 (cu.le Nn.RP S.le) ia ib NH) ?_;rintro x h5 w5 ⟨g5,l5,a5⟩;have bF:=adW EI i j p;have⟨ov,h6,e6,g6,w6,f6,k6⟩:=GI.join g5 w5 (R.le Nn.RP l5) (by grind[y6]);have⟨l6,a6⟩:=f6 h4 l5 a5;have xl:(kz (Qk EI i j)++kz (jc way)).length=(Qk EI i j).length+(jc way).length:=by grind[y6]
 have lo:=fun d=>g6.rl.TA d;rw[xl]at lo;have sd:aaY .i64 ((((Qk EI i j).length+(jc way).length:Nat):Int)-((jc way).length:Int))=(((Qk EI i j).length:Nat):Int):=by rw[se NH NH,Nat.add_sub_cancel]
 have⟨tv,et,aF⟩:=GI.tail g6 (i:=(Qk EI i j).length) hGr;simp only[HO,seval,e6,lo,av,sd,et];refine kCi qS31 (xB A tv ov _ _ h6 g6 (by rw[xl];omega) aF) ?_;rintro x h7 w7 ⟨g7,f7,k7⟩;have l7:=f7 h4 l6 a6;have eo:(kz (Qk EI i j)++kz (jc way)).take (Qk EI i j).length++((kz (Qk EI i j)++kz (jc way)).drop (Qk EI i j).length).reverse=kz (Ee EI way):=by rw[e,NP,nat64_rev];have hl:=y6 (Qk EI i j);grind
 rw[eo]at g7;refine Uy ?_;refine kCi func117 (Ra A u EI j i h7 (cu.le Nn.RP (S.le.trans l7)) ib ia NH) ?_;rintro y h8 w8 ⟨g8,l8,a8⟩;have bH:=adW EI j i p;have⟨tw,h9,e9,g9,w9,f9,k9⟩:=GI.join g8 w8 (R.le Nn.RP (l7.trans l8)) (by grind[y6]);rw[<-NP,<-l]at g9;have⟨l9,a9⟩:=f9 h7 l8 a8;have aH:=l7.trans l9;have aJ:Z2 h4 tw:=fun b hb=>l7.none (a9 b hb);have⟨E,aK⟩:=(S.up aH).reg;have gone:GI (Hg h9 B O C G U) ov (kz (Ee EI way)):=by have:=Pv (h:=h9) S (GI.le g7 l9) a6;exact this
 have ay:GI (Hg h9 B O C G U) tw (kz (kP EI way)):=by have:=Pv (h:=h9) S g9 aJ;exact this
 have aL:∀x∈Ee EI way,x<n:=fun x c=>by
  rw[e,aax,Yq]at c;rcases c with c|c
  .exact W x (Aw p c)
  .exact X x (ao3 c)
 have aN:∀x∈kP EI way,x<n:=fun x c=>by
  rw[l,aax]at c;rcases c with c|c
  .exact W x (Aw p c)
  .exact X x (ao3 c)
 have aP:(Ee EI way).length<=1000:=by rw[e,Eh,Dl];omega
 have aT:(kP EI way).length<=1000:=by rw[l,Eh];omega
 refine Sk e9 ?_;refine gh (fRn 0 13 (JQ 13 [11,12] (tA [14] (JQ 15 [0,1,2,3,4,8,10,13,14] (tA [16] (JQ 17 [0,1,2,3,4,5,6,7,8,9,10,11,12,13,14,15,16] .done)))))) ?_;refine CO (xU M aj E.f.l3 E.f.l4) ?_;refine kGi func109 (bJ A B n bv _ C G U ov (Ee EI way) h9 E.f ((gone.le E.le).rl) aL NH aP) ?_;rintro z az aV ⟨aW,aX,a7⟩;have⟨T,m⟩:=(E.up aX).reg;have gz:=Pv (h:=az) E aW a7;have rz:RL sJ (Hg az B O C G U) z (eJ n (Ee EI way)):=RL.ofBo (by have:=GS.cs gz;rw[<-qc n (Ee EI way)]at this;exact CS.rs (by rw[Bo]at this;simpa[qc]using this));have⟨bI,ba,o,bb⟩:=T.setF aV ((gone.le m).rl) (f:=Ee EI way) hf;have⟨bN,bg,bh,bQ⟩:=o.setI bb rz (f:=Ee EI way) (i:=f) hf;have bj:aao pG 95 G (.int .i64 (f:Int))=Z (pT (Z (aaq G f))):=(GS.cs o.gI).rs.addr (P:=pG) qS27 Uh Ji (k:=.i64) f (by rw[o.wL];exact hf);refine CO (ahv M aj E.f.l3 E.f.l4 T.f.l3 T.f.l4 o.f.l3 o.f.l4 ai bj ba bg) ?_;have fin:=IU A bh ((ay.le m).rl) aN NH aT hGr;refine kCi func90 fin ?_;rintro x bT bW ⟨d,H,I,J,K,bk,bm⟩;refine Uy ?_;rw[ae];exact⟨d,H,I,J,K,bk,aK.trans (m.trans bm)⟩
section
variable{n:Nat}{es:List Pr}{H:Nat->Nat->Prop}{S:ShM}
theorem Z8.abJ(I:Z8 n es H S)(hR:InR n es){p:wW}(b:p∈S.left):∀x∈p.Fm,∃v:Nat,x=(v:Int)/\v<n:=fun x a=>by have P:=I.Aa p b;obtain⟨v,rfl⟩:=WA (P.nat x a);have⟨_,w,h2,_⟩:=(P.Fm v).1 a;exact⟨v,rfl,(((vD hR).1 h2.1).lt hR).1⟩
theorem Jo:∀{l:RZ},(∀x∈l,∃v:Nat,x=(v:Int))->∃q:II,l=kz q
 |[],_=>⟨[],rfl⟩
 |x::l,h=>by obtain⟨v,rfl⟩:=h x Ma;obtain⟨q,rfl⟩:=Jo (l:=l) hGr;exact⟨v::q,rfl⟩
theorem nat64_nd{q:II}(h:(kz q).Nodup):q.Nodup:=by grind[kz.eq_1]
theorem Z8.UO(I:Z8 n es H S)(hR:InR n es){p:wW}(a:p∈S.left):p.Fm.length<=n:=by
 have P:=I.Aa p a;obtain⟨q,b⟩:=Jo fun x c=>by obtain⟨v,h,_⟩:=I.abJ hR a x c;grind
 have nd:=P.fnd;rw[b]at nd ⊢;rw[y6];have:=acK (nat64_nd nd) (B:=rG n) fun v d=>by
  have e:((v:Nat):Int)∈p.Fm:=by rw[b];exact aev.2 ⟨v,d,rfl⟩
  grind[Z8.abJ]
 grind
def Z8.My(I:Z8 n es H S):S.Jv.length<=es.length+2:=by have:=I.OT;omega
theorem Z8.Xg(I:Z8 n es H S){p:wW}(a:p∈S.left):p.fits.length<=S.Jv.length:=by have P:=I.Aa p a;have:=acK P.tnd (B:=rG S.Jv.length) (by grind[EJ.fits]);grind
def Z8.edges_len(I:Z8 n es H S){p:wW}(a:p∈S.left):p.zp.length<=es.length:=(I.Aa p a).sub.length_le
theorem LQ:∀{l:List wW},(∀p∈l,p.zp≠[])->(l.Pairwise fun p q=>∀e∈p.zp,e∉q.zp)->(l.map fun p=>p.zp.headD (0,0)).Nodup
 |[],_,_=>nodup_nil
 |p::l,a,hd=>by
  rw[ajX]at hd;rw[QD,VU];have c:∀q∈p::l,q.zp.headD (0,0)∈q.zp:=fun q b=>by have⟨x,t,e⟩:=eR (a q b);rw[e];simp
  refine⟨fun h=>?_,LQ hGr hd.2⟩;grind
theorem Z8.Vw(I:Z8 n es H S):S.left.length<=es.length:=by
 have:=acK (LQ (fun p a=>(I.Aa p a).ne) I.TE) (B:=es) fun e b=>by obtain⟨p,a,rfl⟩:=aev.1 b;have P:=I.Aa p a;have⟨x,t,e⟩:=eR P.ne;exact P.sub.subset (by rw[e];simp)
 grind
theorem Z8.face_lt(I:Z8 n es H S){f:Nat}(hf:f<S.Jv.length):(∀x∈S.Jv.getD f [],x<n)/\(S.Jv.getD f []).length<=n:=by have a:S.Jv.getD f []∈S.Jv:=hGr;have⟨b,h2⟩:=I.inv.aoJ a;have:=acK b (B:=rG n) hGr;grind
theorem Z8.way_face(I:Z8 n es H S)(hR:InR n es)(hA:D3 es)(D:QG (eN n es)){p:wW}(s:p∈S.left){f:Nat}(hf:f∈p.fits):
  2<=(J6 n (Zh n es) S.on p).length/\(J6 n (Zh n es) S.on p).headD 0∈S.Jv.getD f []/\Ni (J6 n (Zh n es) S.on p)∈S.Jv.getD f []/\(∀x∈J6 n (Zh n es) S.on p,x<n)/\(J6 n (Zh n es) S.on p).length<=n:=by
 have d:=MG hR hA;have hs:=I.inv.sym;have P:=I.Aa p s;have⟨a,inn,b,w,W,c⟩:=I.way hR hA D s;rw[w];have⟨A,j⟩:=(P.fits f).1 hf;have e:=P.akJ hR c;have C:QP (eN n es) H a ((inn++[b]).headD 0):=⟨fun q=>by have⟨z,m,o⟩:=W.ona;exact q z m o,e.1,e.2⟩;have t:a∈S.Jv.getD f []:=by have:=j _ (P.E8 C c);grind
 have u:b∈S.Jv.getD f []:=by have k:=W.lst d hs;have E:Ay a inn b b ((inn.reverse++[a]).headD 0):=(W.wE_b d hs).2 rfl;have F:=W.PW d hs E;have G:=(P.one _ _ b _ e ⟨k.1,k.2⟩ c).2 F;have:=j _ ((P.Fm b).2 ⟨fun q=>by have⟨z,m,o⟩:=W.onb;exact q z m o,_,⟨k.1,k.2⟩,G⟩);grind
 have r:∀x∈aaF a inn b,x<n:=fun x l=>by
  rw[aaF,Og,aax,xD]at l;rcases l with rfl|l|rfl
  .exact d.lt _ _ e.1
  .obtain⟨i,y,J,h2⟩:=qm (a:=a) (b:=b) (inn:=inn) (v:=x) (.inr l);exact d.lt _ _ (d.sy _ _ (W.UQ i _ _ J h2).1)
  .exact d.lt _ _ (d.sy _ _ (W.lst d hs).1 |> d.sy _ _)
 have⟨K,L,e3⟩:=Oy a b inn;refine⟨by grind[Eo],hGr,hGr,r,?_⟩;have:=acK W.nd (B:=rG n) hGr;grind
end
theorem alloc125(h:aai):abO pG h 130=Z (pT (Z h.next),h.alloc (.cells [rW,rW,rW])):=Ji
theorem store125{h:aai}{P:Nat}{x y z a b c:vV}(d:h.own P=Z (.cells [x,y,z]))(ha:a.oneCell'=tT)(hb:b.oneCell'=tT)(f:c.oneCell'=tT):aaK pG h 130 (pT (Z P)) (.agg #[a,b,c])=Z (h.put P (.cells [a,b,c])):=by have e:(vV.agg #[a,b,c]).cells=#[a,b,c]:=rfl;simp[aaK,d,e,dD,putCells,qS18,ha,hb,f]
theorem Od{h:aai}(hw:WF h){a b c:vV}(ha:a.oneCell'=tT)(hb:b.oneCell'=tT)(e:c.oneCell'=tT):∃d h2,abO pG h 130=Z (pT (Z h.next),d)/\aaK pG d 130 (pT (Z h.next)) (.agg #[a,b,c])=Z h2/\Le h h2/\WF h2/\h2.own h.next=Z (.cells [a,b,c])/\Le h d:=by
 have⟨d,f,l1,w1,i⟩:=Tt hw [rW,rW,rW]
 have j:h.own h.next=Y:=(Le.refl h).next hw (qL0 _)
 grind[alloc125,store125,Le.put,WF.put,WF.lt,aai.Y3]
def OU{h:aai}{P:Nat}{a b c:vV}(d:h.own P=Z (.cells [a,b,c])):aaC pG h 130 ⟨P,0,Y⟩=Z (.agg #[a,b,c]):=by rw[Wx qS18 rfl dD d Ma];rfl
def lP0{h:aai}{P:Nat}{a b c:vV}(d:h.own P=Z (.cells [a,b,c])):aaC pG h 22 ⟨P,0,Y⟩=Z a:=by rw[Fq AV rfl d];rfl
def lP1{h:aai}{P:Nat}{a b c:vV}(d:h.own P=Z (.cells [a,b,c])):aaC pG h 47 ⟨P,1,Y⟩=Z b:=by rw[Fq Mb rfl d];rfl
def lP2{h:aai}{P:Nat}{a b c:vV}(d:h.own P=Z (.cells [a,b,c])):aaC pG h 47 ⟨P,2,Y⟩=Z c:=by rw[Fq Mb rfl d];rfl
def pB(P k:Nat)(a:k<3):aca pG 130 (pT (Z P)) k=Z (pT (Z ⟨P,k,Y⟩)):=by
 match k,a with
 |0,_=>rfl
 |1,_=>rfl
 |2,_=>rfl
theorem GS.load3{h:aai}{v a b c:vV}{m k:Nat}{cs:xLV}(g:GS 3 h v m cs)(f:k<m)(ha:cs[k*3]?=Z a)(hb:cs[k*3+1]?=Z b)(l:cs[k*3+2]?=Z c):aaC pG h 130 (aaq v (k*3))=Z (.agg #[a,b,c]):=by
 have gc:=g.cs.get;have e:∀r,Ip (aaq v (k*3)) r=aaq v (k*3+r):=fun r=>eA3 g f;have:=ag8 (h:=h) [a,b,c] (aaq v (k*3)) fun i x d=>by
  match i,d with
  |0,d=>grind
  |1,d=>grind
  |2,d=>grind
  |i+3,d=>simp at d
 have j:([a,b,c]:xLV).length=3:=rfl;rw[j]at this;simp only[aaC,qS18,ab8,cond_true,dD,this]
section
variable{g h:aai}{B O n:Nat}{rows:AM}{bv fv iv lv:vV}{us ws cs:List vV}{on:List Bool}{F1 F2:Cs}{left:List wW}
theorem ShS.rlI(S:ShS g h B O n rows bv fv iv lv us ws cs on F1 F2 left):RL (RL sJ) h iv (F2.map (eJ n)):=
 ⟨ws,(GS.cs S.gI).rs,by grind[ShS.wL],fun i x u a c=>by
  rw[aiq]at a;cases b:F2[i]? with
  |none=>grind
  |some f=>rw[b]at a;simp at a;subst a;exact(S.cI i u f c b).le Nn.sJ S.le⟩
theorem ShS.rlO(S:ShS g h B O n rows bv fv iv lv us ws cs on F1 F2 left):RL sJ h (sL (Z O) n n) on:=RL.ofBo (RS.whole S.oO (by grind[ShS.ZA]))
def ShS.lenL(S:ShS g h B O n rows bv fv iv lv us ws cs on F1 F2 left)(h':aai):aeh pG h' 96 lv=Z (.int .i64 (left.length:Nat)):=by obtain⟨a,c,rfl,_⟩:=S.gL.cs.sl;exact Jg afm h'
theorem ShS.LF(S:ShS g h B O n rows bv fv iv lv us ws cs on F1 F2 left)(h':aai):aeh pG h' 45 fv=Z (.int .i64 (F1.length:Nat)):=by have⟨a,c,e,_⟩:=S.gF.cs.sl;rw[e,S.uL];exact Jg qS6 h'
theorem ShS.at_(S:ShS g h B O n rows bv fv iv lv us ws cs on F1 F2 left){k:Nat}(d:k<left.length):∃a b c,cs[k*3]?=Z a/\cs[k*3+1]?=Z b/\cs[k*3+2]?=Z c/\PR g a left[k].zp/\RL RP g b left[k].Fm/\RL RP g c (kz left[k].fits):=S.cL k _ (qL7 d)
end
end
end Go.Fw
