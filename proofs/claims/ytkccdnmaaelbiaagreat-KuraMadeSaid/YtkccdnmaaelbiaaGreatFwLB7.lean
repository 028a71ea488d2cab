/- A text. -/
import Derived.Test.YtkccdnmaaelbiaaGreatFwLB1
set_option linter.all false
set_option maxRecDepth 99999
set_option maxHeartbeats 9999999
namespace Go.Fw
section
attribute [local irreducible] Kp MQ lU rS KO KN KX KE VK Kl ZJ TC aab
open Go.Proofs
variable {α:Type}
def fG:∀n:Nat,n<=300->IntKind.u64.wrap ((BitVec.ofInt IntKind.u64.bits (n:Int) &&& BitVec.ofInt IntKind.u64.bits 4294967295).toNat:Nat)=(n:Int):=by
 intro n a;have:∀k:Fin 301,IntKind.u64.wrap ((BitVec.ofInt IntKind.u64.bits ((k:Nat):Int) &&& BitVec.ofInt IntKind.u64.bits 4294967295).toNat:Nat)=((k:Nat):Int):=by decide+kernel
 exact this ⟨n,NH⟩
theorem KR (n:Nat) (a:n<=300):aShift .shr .u64 (n:Int) 32=some (.int .u64 0):=by
 simp[aShift,IntKind.bits]
 grind
theorem sS (n:Nat) (a:n<=300):awrap .u64 (n:Int)=n:=by grind [awrap]
theorem Ld (b:LA) (n:Nat) (a:n<=300) (h:AHeap):AC Tryz.prog b 170 [.int .u64 1,.int .u64 n] h fun x h'=>x=.tuple #[.int .u64 0,.int .u64 n]/\h'=h:=by
 refine AC.vE ⟨Tryz.func170,rfl,WY⟩ Tryz.ntmps170 Tryz.results170 fun c=>?_;simp only[Br,Nat.reduceAdd];have a1:IntKind.u64.wrap ((BitVec.ofInt IntKind.u64.bits 1 &&& BitVec.ofInt IntKind.u64.bits 4294967295).toNat:Nat)=1:=fG 1 WY;have a2:aShift .shr .u64 1 32=some (.int .u64 0):=KR 1 WY;have d:IntKind.u64.wrap ((BitVec.ofInt IntKind.u64.bits 0 &&& BitVec.ofInt IntKind.u64.bits 4294967295).toNat:Nat)=0:=fG 0 WY;have e:aShift .shr .u64 0 32=some (.int .u64 0):=KR 0 WY;have f:=fG n a;have g:=KR n a;have i:awrap .u64 0=0:=by decide
 have j:=sS n a;refine Sk (Da a1 a2 d e f g i j @Int.mul_one @Int.one_mul @Int.mul_zero @Int.zero_mul @Int.add_zero @Int.zero_add) ?_
 grind
theorem Mul_any (a:LA) (n:Nat) (b:n<=300) (h:AHeap):AC Tryz.prog a 144 [.int .u64 1,.int .u64 n] h fun x h'=>x=.tuple #[.int .u64 0,.int .u64 n]/\h'=h:=by
 refine AC.vE ⟨Tryz.func144,rfl,WY⟩ Tryz.ntmps144 Tryz.results144 fun c=>?_;simp only[Br,Nat.reduceAdd];refine Uy ?_;refine TC.intro PJ ⟨Tryz.func170,rfl,WY⟩ (Ld a n b h) ?_;rintro v h'-⟨rfl,rfl⟩;refine Uy ?_
 grind
theorem cW (a b:α) (i n m:Nat) (c:min i (n-i)=m):List.take i (List.replicate i a++List.replicate (n-i) b)++List.take (m*1) (List.replicate i a)++List.drop (i+m*1) (List.replicate i a++List.replicate (n-i) b)=List.replicate (i+m) a++List.replicate (n-(i+m)) b:=by
 have d:List.take i (List.replicate i a++List.replicate (n-i) b)=List.replicate i a:=pw;have e:List.take (m*1) (List.replicate i a)=List.replicate m a:=pw;have e3:List.drop (i+m*1) (List.replicate i a++List.replicate (n-i) b)=List.replicate (n-(i+m)) b:=by
  rw[jO,List.drop_append,List.drop_replicate,List.drop_replicate];simp;omega
 grind [List.replicate_append_replicate]
theorem rN (y:LA) (l:Value) (n:Nat) (p:n<=300) (h:AHeap) (q:RL RP h l [-1]):AC Tryz.prog y 104 [l,.int .i64 n] h fun v h'=>∃id,v=.slice (some ⟨id,0,none⟩) n n/\h.next<=id/\h'.own id=some (.cells (List.replicate n (.int .i64 (-1))))/\Le h h':=by
 refine AC.vE ⟨Xv,rfl,WY⟩ Tryz.ntmps104 Tryz.results104 fun d=>?_;simp only[Br,Nat.reduceAdd];have A:¬((n:Int)<0):=NH;have B:aLen Tryz.prog h 49 l=some (.int .i64 (1:Int)):=q.Uc h;have w1:awrap .u64 1=1:=by decide
 simp only[HO,Nat.reduceLT,↓reduceIte,Nat.reduceEqDiff,reduceCtorEq,A,B,aConvert,Mb,qS16,sS n p,w1];refine TC.intro PJ ⟨Tryz.func144,rfl,WY⟩ (Mul_any y n p h) ?_;rintro v h'-⟨rfl,rfl⟩;have C:¬((0:Int)<(0:Int)):=by decide
 have D:¬((9223372036854775807:Int)<(n:Int)):=NH;have mk:=Ye (P:=Tryz.prog) (t:=49) h' Ac rfl rfl rfl rfl Ji Mb Ji n NH;simp only[HO,Nat.reduceLT,↓reduceIte,Nat.reduceEqDiff,reduceCtorEq,C,D,aConvert,Mb,qS16,ie n NH NH,mk]
 have f:(h'.alloc (.cells (List.replicate n (.int .i64 0)))).own h'.next=some (.cells (List.replicate n (.int .i64 0))):=AHeap.zT _ _
 have hle:Le h' (h'.alloc (.cells (List.replicate n (.int .i64 0)))):=(Le.refl _).alloc d _
 have g:h'.own h'.next=none:=(Le.refl h').next d (qL0 _)
 generalize h'.alloc (.cells (List.replicate n (.int .i64 0)))=z at*
 have c:∃m h2,aCopy Tryz.prog z 49 (.slice (some ⟨h'.next,0,none⟩) n n) l=some (.int .i64 (m:Nat),h2)/\(n=0/\m=0\/1<=m/\m<=n)/\h2.own h'.next=some (.cells (List.replicate m (.int .i64 (-1))++List.replicate (n-m) (.int .i64 0)))/\Le h' h2:=by
  by_cases E:n=0
  .subst E
   exact⟨0,z,zv Ac Mb WY q.sl Ma,.inl ⟨rfl,rfl⟩,by simpa using f,hle⟩
  .obtain ⟨vs, F, hlen, hg⟩ := q
   have r:vs=[.int .i64 (-1)]:=by
    match vs,hlen with
    |[x],_=>rw[hg 0 (-1) x rfl rfl]
   subst r;refine⟨1,_,IQ (k:=1) Ac Mb rfl f (F.le hle).cs (by rfl) 1 (by simp;omega) WY (by simp;omega),.inr ⟨NH,NH⟩,?_,hle.put _ g⟩
   grind [AHeap.Y3]
 obtain⟨m,h2,G,H,s,j⟩:=c;refine Sk G ?_
 refine lIn (fun k fr hh=>∃i:Nat,k=n-i/\(n=0/\i=0\/1<=i/\i<=n)/\fr=mkF [(7,.slice (some ⟨h'.next,0,none⟩) n n),(8,.int .i64 i)]/\hh.own h'.next=some (.cells (List.replicate i (.int .i64 (-1))++List.replicate (n-i) (.int .i64 0)))/\Le h' hh) ⟨m,rfl,H,rfl,s,j⟩ ?_
 rintro k fr hh-⟨i,rfl,hi,rfl,f,hle⟩
 simp only[HO,Nat.reduceLT,↓reduceIte,Nat.reduceEqDiff,reduceCtorEq,show aLen Tryz.prog hh 49 (.slice (some ⟨h'.next,0,none⟩) n n)=some (.int .i64 n)from rfl]
 refine Kl.intro (fun I=>?_) (fun hf=>?_)
 .have u : i < n := CC I
  refine Uy ?_;refine gh (tA [0,1,2,3,4,5,6] (JQ 7 [3,6] (tA [8] (JQ 9 [0,1,2,3,4,5,6,7,8] .done)))) ?_;have b:n<UNK:=mV p WY
  have s1:=yj (P:=Tryz.prog) (t:=49) (a:=some ⟨h'.next,0,none⟩) (n:=n) (cap:=n) (k:=.i64) Ac Mb rfl i NH (.inr u) (qL0 _) b
  have s2:=pn (P:=Tryz.prog) (t:=49) (a:=⟨h'.next,0,none⟩) (n:=n) (cap:=n) (k:=.i64) Ac Mb i NH (qL0 _) b
  simp only[FD,Ip,BS]at s1
  have o:CS 1 hh (.slice (some ⟨h'.next,0,none⟩) i n) i (List.replicate i (.int .i64 (-1))):=by
   have:=CS.own (k:=1) (off:=0) (n:=i) (cap:=n) f Ma
   grind
  have w:=IQ (P:=Tryz.prog) (t:=49) (k:=1) (n:=i) (off:=i) (dl:=n-i) (dc:=n-i) (e:=3) Ac Mb rfl f o (all_rep rfl i) (min i (n-i)) rfl NH (by simp;omega);refine CO (xU s1 s2 w (ie ((i:Int)+((min i (n-i):Nat):Int)) NH NH)) ?_;refine lgA NH ⟨i+min i (n-i),rfl,NH,rfl,?_,hle.put _ g⟩
  grind [AHeap.Y3,cW]
 .have J : n <= i := vp hf
  have:i=n:=NH;subst this;refine Uy ?_
  grind
end
section
open Go.Proofs
variable {L c n w:Nat} {P:Program} {b0 h h':AHeap} {r:RZ} {rows:AM} {us:List Value} {v:Value} {α:Type}
def Bp (l:RZ):List Value:=l.map (Value.int .i64)
theorem uE (l:RZ):(Bp l).length=l.length:=by simp[Bp]
def yG (l:RZ):(Bp l).all (·.oneCell')=true:=by simp[Bp];intros;rfl
def DQ (h:AHeap) (x:Int):aBuildSlice Tryz.prog h 49 1 [(0,.int .i64 x)]=some (.slice (some ⟨h.next,0,none⟩) 1 1,h.alloc (.cells [.int .i64 x])):=rfl
theorem xr {t xt:TypeId} {v x v':Value} (hw:WF h) (e:aAppend P h t xt v x=some (v',h')):WF h':=by
 unfold aAppend at e;split at e
 .grind [WF.kill,WF.alloc,WF.put,WF.lt]
 .cases e
theorem grow (m:WF h) {G:AHeap} {R w q t:Nat} {us cells:List Value} {cu x:Value} {d:TypeDesc} (v:apT Tryz.prog t t 1=true) (y:Tryz.prog.underlying t=some d) (n:UA Tryz.prog t=1)
  (oR:h.own R=some (.cells us)) (hw:w<us.length) (g:GS 1 h cu q cells) (z:cells.all (·.oneCell')=true) (A:x.oneCell'=true) (H:q<=100000) (B:blk cu≠some R) (le:Le G h) (C:G.own R=none) (ap:Z2 G cu):
  ∃a k f j,h.alloc (.cells [x])=k/\aAppend Tryz.prog k t t cu (.slice (some ⟨h.next,0,none⟩) 1 1)=some (a,f)/\aStore Tryz.prog f t (.pointer (some ⟨R,w,none⟩)) a=some j/\GS 1 j a (q+1) (cells++[x])/\
   j.own R=some (.cells (us.set w a))/\blk a≠some R/\Z2 G a/\Le h k/\Le G f/\Le G j/\(∀b o,h.own b=some o->b≠R->blk cu≠some b->j.own b=some o/\blk a≠some b)/\(∀b o,h.own b=some o->blk cu≠some b->f.own b=some o)/\WF j:=by
 obtain⟨k,e4,c,e,D⟩:=Tt m [x];obtain⟨a,f,p,r,hf⟩:=(g.le c).push (P:=Tryz.prog) (t:=t) v D z A NH;obtain⟨s,u⟩:=aG hf e (c.own _ _ oR) B;obtain⟨l5,E⟩:=hf G e (le.trans c) ap;have l:WF f:=xr e p;have sl:=r.cs.sl;have st:=QB (P:=Tryz.prog) (t:=t) (x:=a) y n s (off:=w) hw (by obtain⟨_,_,rfl,_⟩:=sl;rfl) sl.one;refine⟨a,k,f,_,e4,p,st,r.put _ u,AHeap.Y3 _ _ _,u,E,c,l5,l5.put _ C,fun b o hb F i=>?_,fun b o hb i=>(aG hf e (c.own _ _ hb) i).1,l.put _ (l.lt s)⟩;obtain⟨r1,r2⟩:=aG hf e (c.own _ _ hb) i
 grind [AHeap.By]
structure Rows (b0 h:AHeap) (L:Nat) (us:List Value) (rows:AM):Prop where
 oL:h.own L=some (.cells us)
 len:us.length=rows.length
 gs:∀(v:Nat) u r,us[v]?=some u->rows[v]?=some r->GS 1 h u r.length (Bp r)
 nL:∀(v:Nat) u,us[v]?=some u->blk u≠some L
 TE:∀(v w:Nat) u u' b,v≠w->us[v]?=some u->us[w]?=some u'->blk u=some b->blk u'≠some b
 ap:∀(v:Nat) u,us[v]?=some u->Z2 b0 u
 le:Le b0 h
 bL:b0.own L=none
theorem Rows.up (R:Rows b0 h L us rows) (e:Le h h'):Rows b0 h' L us rows:=
 ⟨e.own _ _ R.oL,R.len,fun v u r a b=>(R.gs v u r a b).le e,R.nL,R.TE,R.ap,R.le.trans e,R.bL⟩
theorem Rows.start (d:h.own L=some (.cells (List.replicate n (.slice none 0 0)))) (le:Le b0 h) (bL:b0.own L=none):Rows b0 h L (List.replicate n (.slice none 0 0)) (List.replicate n []):=by
 have c:∀(v:Nat) u,(List.replicate n (Value.slice none 0 0))[v]?=some u->u=.slice none 0 0:=fun v u a=>afr (Gc a);refine⟨d,Ma,fun v u r a e=>?_,fun v u a=>?_,fun v w u u' b _ a _ hb=>?_,fun v u a b hb=>?_,le,bL⟩
 .rw[c v u a,show r=[]from afr (Gc e)];exact .nil 1 _
 all_goals grind [blk]
theorem Rows.push (R:Rows b0 h L us rows) (p:WF h) (C:rows[w]?=some r) (x:Int) (D:r.length<=100000):
  ∃u u' m j l,us[w]?=some u/\h.alloc (.cells [.int .i64 x])=m/\aAppend Tryz.prog m 49 49 u (.slice (some ⟨h.next,0,none⟩) 1 1)=some (u',j)/\aStore Tryz.prog j 49 (.pointer (some ⟨L,w,none⟩)) u'=some l/\Le h m/\Le b0 j/\
   j.own L=some (.cells us)/\Rows b0 l L (us.set w u') (rows.set w (r++[x]))/\WF l/\(∀b o,h.own b=some o->b≠L->(∀(v:Nat) a,us[v]?=some a->blk a≠some b)->j.own b=some o/\l.own b=some o/\∀(v:Nat) a,(us.set w u')[v]?=some a->blk a≠some b):=by
 have f:w<us.length:=by grind [Rows.len]
 have i:=CA f;generalize us[w]=u at i;have g:=R.gs w u r i C;obtain⟨u',m,j,l,e4,E,F,H,o6,n6,I,l4,l5,l6,keep,d,s⟩:=grow p (G:=b0) (t:=49) (x:=.int .i64 x) Ji Ac Ji R.oL f g (yG _) rfl D (R.nL w u i) R.le R.bL (R.ap w u i);refine⟨u,u',m,j,l,i,e4,E,F,l4,l5,d _ _ R.oL (R.nL w u i),⟨o6,by simp[R.len],fun v a q ha c=>?_,fun v a ha=>?_,fun v v' a a' b y ha mi hb=>?_,fun v a ha=>?_,l6,R.bL⟩,s,fun b o hb z n=>⟨d b o hb (n w u i),(keep b o hb z (n w u i)).1,fun v a ha=>?_⟩⟩
 .rw [K4] at ha c
  by_cases e:w=v
  .grind [Bp]
  .rw [if_neg e] at ha c
   refine(R.gs v a q ha c).kept fun b o hb A=>(keep b o A (fun B=>R.nL v a ha pw) (fun B=>R.TE w v u a b e i ha B hb)).1
 .grind [Rows.nL]
 .rw [K4] at ha mi
  by_cases e:w=v
  .subst e
   rw[if_pos rfl,if_pos f]at ha;injection ha with ha;subst ha;rw[if_neg y]at mi;intro sZ;have k:∃q,rows[v']?=some q:=⟨_,CA (by grind [Rows.len])⟩;obtain⟨q,c⟩:=k;obtain⟨o,A⟩:=N8.1 ((R.gs v' a' q mi c).Sy sZ)
   grind [Rows.TE]
  .rw [if_neg e] at ha
   by_cases e':w=v'
   .subst e'
    rw[if_pos rfl,if_pos f]at mi;injection mi with mi;subst mi;have k:∃q,rows[v]?=some q:=⟨_,CA (by grind [Rows.len])⟩;obtain⟨q,c⟩:=k;obtain⟨o,A⟩:=N8.1 ((R.gs v a q ha c).Sy hb)
    grind [Rows.TE]
   grind [Rows.TE]
 all_goals grind [Rows.ap]
def isG (h:AHeap) (u:Value) (r:RZ):Prop:=GS 1 h u r.length (Bp r)
def RL.map {R R':AHeap->Value->α->Prop} {xs:List α} (r:RL R h v xs) (hR:∀u x,R h u x->R' h u x):RL R' h v xs:=by
 obtain⟨vs,q,a,b⟩:=r;exact⟨vs,q,a,fun i x u c d=>hR u x (b i x u c d)⟩
theorem isG.rl {u:Value} (g:isG h u r):RL RP h u r:=RL.Wh (GS.cs g).rs
theorem Rows.rlG (R:Rows b0 h L us rows) (a:us.length=n):RL isG h (.slice (some ⟨L,0,none⟩) n c) rows:=
 ⟨us,RS.whole R.oL a,R.len,fun i x u b d=>R.gs i u x d b⟩
theorem Rows.rl (R:Rows b0 h L us rows) (a:us.length=n):RL (RL RP) h (.slice (some ⟨L,0,none⟩) n c) rows:=
 ⟨us,RS.whole R.oL a,R.len,fun i x u b d=>RL.Wh (R.gs i u x d b).cs.rs⟩
def Xs (rows:AM) (p:Pr):AM:=
 let r1:=rows.set p.1.toNat ((rows.getD p.1.toNat [])++[p.2])
 r1.set p.2.toNat ((r1.getD p.2.toNat [])++[p.1])
def Zh (n:Nat) (es:List Pr):AM:=es.foldl Xs (List.replicate n [])
theorem pO (rows:AM) (p:Pr):(Xs rows p).length=rows.length:=by simp[Xs]
theorem Xq (n:Nat) (es:List Pr):(Zh n es).length=n:=by
 have:∀(es:List Pr) (rows:AM),(es.foldl Xs rows).length=rows.length:=by
  intro es
  induction es<;>grind [pO]
 grind [Zh.eq_1]
def NJ (n:Nat) (es:List Pr) (p:Pr):Zh n (es++[p])=Xs (Zh n es) p:=by simp[Zh]
theorem bV (n:Nat) (es:List Pr):∀r∈Zh n es,r.length<=2*es.length:=by
 have:∀(es:List Pr) (rows:AM) (k:Nat),(∀r∈rows,r.length<=k)->∀r∈es.foldl Xs rows,r.length<=k+2*es.length:=by
  intro es
  induction es with
  |nil=>grind
  |cons p es c=>
   intro rows k h r a;rw[V9]at a;have b:∀(l:AM) (m:Nat),(∀r∈l,r.length<=m)->∀i,(l.getD i []).length<=m:=fun l m e i=>by grind
   have d:∀r∈rows.set p.1.toNat ((rows.getD p.1.toNat [])++[p.2]),r.length<=k+1:=fun r a=>by grind
   have h2:∀r∈Xs rows p,r.length<=k+2:=fun r a=>by
    rcases xP a with h'|rfl
    .grind
    .have:=b _ (k+1) d p.2.toNat;grind
   have:=c (Xs rows p) (k+2) h2 r a;simp;omega
 intro r a;have:=this es (List.replicate n []) 0 (fun r a=>by grind) r a;omega
end
section
attribute [local irreducible] Kp MQ lU rS KO KN KX KE VK Kl ZJ TC aab
open Go.Proofs
theorem M3 (W0:LA) (v:Value) (n:Nat) (es:List Pr) (h:AHeap) (hg:GR h v ⟨(n:Int),es⟩) (hr:bX ⟨(n:Int),es⟩):AC Tryz.prog W0 32 [v] h fun x h'=>RL isG h' x (Zh n es)/\Le h h':=by
 have az:=hg
 obtain⟨ev,rfl,hp⟩:=hg.open
 have bI:(n:Int)<=200:=hr.n1;have bN:es.length<=594:=hr.len;have y:∀p∈es,0<=p.1/\p.1<p.2/\p.2<(n:Int):=fun p aC=>by
  obtain⟨i,hi⟩:=yM.1 aC;exact(hr.ok i (Ny.1 hi).1 p hi).1
 refine AC.vE ⟨iZ,rfl,WY⟩ Tryz.ntmps32 Tryz.results32 fun aD=>?_;simp only[Br,Nat.reduceAdd];obtain⟨h1,b1,A,bW,-,lA⟩:=r8 (n:=(n:Int)) aD hp
 generalize h.next=B at*
 have aH:=lA h1 (Le.refl _);have ll:=fun g=>hp.len g;simp only[HO,Nat.reduceLT,↓reduceIte,Nat.reduceEqDiff,reduceCtorEq,b1,aH.1];refine TC.intro PJ ⟨qv,rfl,WY⟩ (ak W0 _ _ h1 (az.le A)) ?_;rintro x h2 C ⟨⟨bb,rfl,aJ⟩,m⟩;obtain rfl:bb=true:=aJ.2 hr;have aK:=lA h2 m;have mk:=Ye (P:=Tryz.prog) (t:=27) (z:=.slice none 0 0) h2 pE rfl rfl rfl rfl Ji Ac Ji n NH;obtain⟨h3,e3,aP,bZ,o3⟩:=Tt C (List.replicate n (.slice none 0 0));rw[e3]at mk
 have nL:h2.own h2.next=none:=(Le.refl h2).next C (qL0 _)
 generalize h2.next=L at*
 have fT:=lA h3 (m.trans aP);simp only[HO,Nat.reduceLT,↓reduceIte,Nat.reduceEqDiff,reduceCtorEq,Ii,Di,Ip,BS,aK.2.1,mk,fT.2.2,ll];have R0:Rows h2 h3 L (List.replicate n (.slice none 0 0)) (Zh n (es.take 0)):=by grind [Zh,Rows.start]
 refine aab.intro (fun k fr hh=>∃(i:Nat) (us:List Value),k=es.length-i/\i<=es.length/\fr=mkF [(3,.slice (some ⟨L,0,none⟩) n n),(13,ev),(14,.int .i64 es.length),(15,.int .i64 i)]/\Rows h2 hh L us (Zh n (es.take i)))
  es.length [(3,.slice (some ⟨L,0,none⟩) n n),(13,ev),(14,.int .i64 es.length),(15,.int .i64 (0:Nat))] fD ⟨0,_,rfl,aal _,rfl,R0⟩ ?_
 rintro k fr hh D ⟨i,us,rfl,hi,rfl,R⟩;refine Uy ?_;refine Kl.intro (fun ht=>?_) (fun hf=>?_)
 rotate_left
 .have aT : es.length <= i := vp hf
  rw[IE aT]at R;refine Uy ?_
  grind [Rows.rlG,Rows.len,Xq,Le.trans,Rows.le]
 have l:i<es.length:=CC ht;clear ht;have o:=CA l;have F:es.take (i+1)=es.take i++[es[i]]:=EL l;generalize es[i]=p at o F;obtain⟨p1,p2,p3⟩:=y p (Gc o);have aW:=hp.le ((A.trans m).trans R.le);have ad:=hp.addr (k:=.i64) i l;have ld:=aW.load o;obtain⟨b0,h4,e4,aX,a6,a7,G⟩:=Ut D p
 have a8:hh.own hh.next=none:=(Le.refl hh).next D (qL0 _)
 obtain⟨a,c⟩:=p;simp only at p1 p2 p3;obtain⟨a,rfl⟩:=yY p1;obtain⟨c,rfl⟩:=yY (show 0<=c by omega);have R4:=R.up a6
 have bg:∀(v:Nat) u,us[v]?=some u->blk u≠some hh.next:=fun v u hu hb=>by
  have bh:∃q,(Zh n (es.take i))[v]?=some q:=⟨_,CA (by grind [Rows.len])⟩;obtain⟨q,hq⟩:=bh;exact(R.gs v u q hu hq).Sy hb a8
 have H:hh.next≠L:=fun e=>by have:=R.oL;grind
 generalize hh.next=E at*
 simp only[HO,Nat.reduceLT,↓reduceIte,Nat.reduceEqDiff,reduceCtorEq,ad,ld,e4,aX];have bk:=bV n (es.take i);have b2:(es.take i).length<=594:=pw;have I:∀(k:IntKind) (j:Nat),j<n->aIndexAddr Tryz.prog 27 (.slice (some ⟨L,0,none⟩) n n) (.int k j)=some (.pointer (some ⟨L,j,none⟩)):=fun k j hj=>by rw[Wc pE Ac Ji j hj];simp[Ip]
 have J:a<(Zh n (es.take i)).length:=by grind [Xq]
 have K:=CA J;have M:(Zh n (es.take i)).getD a []=(Zh n (es.take i))[a]:=D4 J;have N:((Zh n (es.take i))[a]).length<=100000:=pw;generalize (Zh n (es.take i))[a]=ra at K M N;obtain⟨u,u',h5,h6,h7,hu,e5,e6,e7,l5,l6,b3,R7,bm,keep⟩:=R4.push a7 K (c:Int) N;obtain⟨d,b,O⟩:=keep _ _ G H bg;have Q:=lK G;have S:=HY G;have T:=lK (l5.own _ _ G);have U:=HY (l5.own _ _ G);have V:=lK d;have W:=HY d;have X:=lK b;have Y:=HY b;simp only at Q S T U V W X Y;have bo:aload Tryz.prog h4 49 ⟨L,a,none⟩=some u:=by rw[Fq Ac rfl R4.oL];exact hu
 have br:aload Tryz.prog h5 49 ⟨L,a,none⟩=some u:=by rw[Fq Ac rfl (l5.own _ _ R4.oL)];exact hu
 have bs:aBuildSlice Tryz.prog h4 49 1 [(0,.int .i64 (c:Int))]=some (.slice (some ⟨h4.next,0,none⟩) 1 1,h5):=by rw[DQ,e5]
 refine gh (tA [0,1,2,3,4,5,6,7,8,9] (JQ 10 [9] (JQ 11 [7,10] (tA [12] (JQ 13 [0,1,2,3,4,5,6,7,8,9,10,11,12] .done))))) ?_;simp only[HO,Nat.reduceLT,↓reduceIte,Nat.reduceEqDiff,reduceCtorEq,Nat.reduceBEq,Qg,Dh,Z0,Ip,BS,Q,S,T,U,V,W,I _ a NH,bo,br,bs,e6,e7];have b4:((Zh n (es.take i)).set a (ra++[(c:Int)])).length=n:=by simp[Xq]
 have r:c<((Zh n (es.take i)).set a (ra++[(c:Int)])).length:=NH;have Z:=CA r;have ae:((Zh n (es.take i)).set a (ra++[(c:Int)])).getD c []=((Zh n (es.take i)).set a (ra++[(c:Int)]))[c]:=D4 r;have ag:(((Zh n (es.take i)).set a (ra++[(c:Int)]))[c]).length<=100000:=by
  rcases xP (Og r)with e|e
  .grind
  .rw[e];simp;grind
 generalize ((Zh n (es.take i)).set a (ra++[(c:Int)]))[c]=rc at Z ae ag;obtain⟨w,w',h8,h9,b5,hw,e8,e9,bx,l8,l9,b6,aj,bQ,s⟩:=R7.push bm Z (a:Int) ag;obtain⟨f,al,-⟩:=s _ _ b H O;have aq:=lK (l8.own _ _ b);have ar:=HY (l8.own _ _ b);have av:=lK f;have ay:=HY f;simp only at aq ar av ay;have bB:aload Tryz.prog h7 49 ⟨L,c,none⟩=some w:=by rw[Fq Ac rfl R7.oL];exact hw
 have bF:aload Tryz.prog h8 49 ⟨L,c,none⟩=some w:=by rw[Fq Ac rfl (l8.own _ _ R7.oL)];exact hw
 have bH:aBuildSlice Tryz.prog h7 49 1 [(0,.int .i64 (a:Int))]=some (.slice (some ⟨h7.next,0,none⟩) 1 1,h8):=by rw[DQ,e8]
 refine gh (tA [0,1,2,3,4,5,6,7,8,9] (JQ 10 [9] (JQ 11 [7,10] (tA [12] (JQ 13 [0,1,2,3,4,5,6,7,8,9,10,11,12] .done))))) ?_;simp only[HO,Nat.reduceLT,↓reduceIte,Nat.reduceEqDiff,reduceCtorEq,Nat.reduceBEq,Qg,Dh,Z0,Ip,BS,X,Y,aq,ar,av,ay,I _ c NH,bB,bF,bH,e9,bx,Tw i NH];have:Xs (Zh n (es.take i)) ((a:Int),(c:Int))=((Zh n (es.take i)).set a (ra++[(c:Int)])).set c (rc++[(a:Int)]):=by simp only[Xs,Z6,M,ae]
 rw[<-this,<-NJ,<-F]at aj;exact tn (es.length-(i+1)) [(3,.slice (some ⟨L,0,none⟩) n n),(13,ev),(14,.int .i64 es.length),(15,.int .i64 (i+1:Nat))] NH fD ⟨i+1,_,rfl,l,rfl,aj⟩
def oe (a:LA) (v:Value) (n:Nat) (es:List Pr) (h:AHeap) (hg:GR h v ⟨(n:Int),es⟩) (b:bX ⟨(n:Int),es⟩):AC Tryz.prog a 32 [v] h fun x h'=>RL (RL RP) h' x (Zh n es)/\Le h h':=
 (M3 a v n es h hg b).mono fun _ _ h=>⟨h.1.map fun _ _ g=>g.rl,h.2⟩
end
section
open Go.Proofs
def aO (p:Pr) (v:Int):Bool:=decide (p.1=v)||decide (p.2=v)
def SZ (ps:List Pr) (v:Int):Bool:=ps.any fun p=>aO p v
def eqP (p q:Pr):aEq Tryz.prog 38 (UI p) (UI q)=some (decide (p=q)):=by
 have e:p=q↔p.1=q.1/\p.2=q.2:=Prod.ext_iff;simp only[aEq,yU,Mb,UI,allInts,ts3];by_cases a:p.1=q.1
 .by_cases h2 : p.2 = q.2
  .simp[e,a,h2]
  .simp[e,a,h2]
 .simp[e,a]
def gfP (p:Pr):guardFree (UI p)=true:=rfl
def abinP (p q:Pr):mM Tryz.prog .eql 38 (UI p) (UI q)=some (.bool (decide (p=q)))/\mM Tryz.prog .neq 38 (UI p) (UI q)=some (.bool (!decide (p=q))):=by
 have a:abin Tryz.prog .eql 38 (UI p) (UI q)=match aEq Tryz.prog 38 (UI p) (UI q)with|some b=>some (.bool b)|none=>none:=rfl
 have h2:abin Tryz.prog .neq 38 (UI p) (UI q)=match aEq Tryz.prog 38 (UI p) (UI q)with|some b=>some (.bool (!b))|none=>none:=rfl
 constructor
 .rw[mM,gfP,cond_true,a,eqP]
 .rw[mM,gfP,cond_true,h2,eqP]
def hasB (ps:List Pr) (p:Pr):Bool:=ps.any fun q=>decide (q=p)
def adR (ps:List Pr) (p:Pr):hasB ps p=true↔p∈ps:=by simp[hasB]
end
section
attribute [local irreducible] Kp MQ lU rS KO KN KX KE VK Kl ZJ TC aab
open Go.Proofs
theorem aaU (u:LA) (v w:Value) (ps a:List Pr) (h:AHeap) (n:PR h v ps) (hw:PR h w a) (A:ps.length<=100000):AC Tryz.prog u 39 [v,w] h fun x h'=>x=.bool (decide (ps=a))/\h'=h:=by
 refine AC.vE ⟨afT,rfl,WY⟩ Tryz.ntmps39 Tryz.results39 fun y=>?_;simp only[Br,Nat.reduceAdd];have o:=fun g=>n.len g;have lw:=fun g=>hw.len g;by_cases c:(ps.length:Int)=(a.length:Int)
 rotate_left
 .simp only [HO, Nat.reduceLT, ↓reduceIte, Nat.reduceEqDiff, reduceCtorEq, o, lw, bne, eq_false c]
  exact⟨by rw[decide_eq_false (fun e=>c (by rw[e]))],trivial⟩
 have c':ps.length=a.length:=NH;simp only[HO,Nat.reduceLT,↓reduceIte,Nat.reduceEqDiff,reduceCtorEq,o,lw,bne,eq_true c];refine lIn (fun k fr hh=>∃i:Nat,k=ps.length-i/\i<=ps.length/\hh=h/\fr=mkF [(0,v),(1,w),(5,.int .i64 i)]/\ps.take i=a.take i) ⟨0,rfl,aal _,rfl,rfl,rfl⟩ ?_;rintro k fr hh-⟨i,rfl,hi,rfl,rfl,s⟩;refine Sk o ?_;refine Kl.intro (fun z=>?_) (fun hf=>?_)
 .have b : i < ps.length := CC z
  have f:=CA b;have j:=CA (show i<a.length by omega);have t1:ps.take (i+1)=ps.take i++[ps[i]]:=EL b;have t:a.take (i+1)=a.take i++[a[i]'(by omega)]:=EL NH
  generalize ps[i]=p at f t1;generalize a[i]'(by omega)=q at j t
  have ad:=n.addr (k:=.i64) i b;have ld:=n.load f;have l:=hw.addr (k:=.i64) i NH;have m:=hw.load j;have d:=(abinP p q).2;refine Uy ?_;refine gh (tA [0,1,2,3,4,5,6,7,8] .done) ?_;cases hb:decide (p=q)with
  |true=>
   rw[hb]at d;have e:=of_decide_eq_true hb;simp only[kS1,bLookup,bMapSet,wantA,Zm,stepOp,evalO,evalL,evalP,evalM,putDst,flat,kA,kB,Nat.reduceLT,↓reduceIte,kC,Nat.reduceEqDiff,aBuiltin,mM,guardFree,abin,aInt,aUn,aNilCheck,retQ,G8,aresults,aresultL,aresult,mkF,Yx,reduceCtorEq,kD,kE,kF,kG,kH,kI,kJ,kK,aExtract,calleeOf,kD1,Nat.reduceBEq,HoldsAll,kL,kM,kN,kO,ad,ld,l,m,d,-mM,Tw i NH];exact lgA NH ⟨i+1,rfl,b,rfl,rfl,by rw[t1,t,s,e]⟩
  |false=>
   rw[hb]at d;have e:=of_decide_eq_false hb;simp only[kS1,bLookup,bMapSet,wantA,Zm,stepOp,evalO,evalL,evalP,evalM,putDst,flat,kA,kB,Nat.reduceLT,↓reduceIte,kC,Nat.reduceEqDiff,aBuiltin,mM,guardFree,abin,aInt,aUn,aNilCheck,retQ,G8,aresults,aresultL,aresult,mkF,Yx,reduceCtorEq,kD,kE,kF,kG,kH,kI,kJ,kK,aExtract,calleeOf,kD1,Nat.reduceBEq,HoldsAll,kL,kM,kN,kO,ad,ld,l,m,d,-mM];exact by rw[decide_eq_false (fun e'=>e pw)]
 .have r : ps.length <= i := vp hf
  rw[IE r,IE NH]at s;refine Uy ?_
  grind
end
section
open Go.Proofs
variable {L:RZ} {cl cl':Nat->Nat->Prop} {es:List Pr} {met:II} {n u v w x:Nat} {on:Nat->Bool} {α:Type}
theorem cA (l:List α) (i j:Nat) (a d:α):(l.set i a).getD j d=if i=j/\i<l.length then a else l.getD j d:=pw
def aV (n:Nat) (es:List Pr):Prop:=∀p∈es,0<=p.1/\p.1<p.2/\p.2<(n:Int)
theorem bX.GD (b:bX ⟨(n:Int),es⟩):aV n es:=fun p a=>by
 obtain⟨i,hi⟩:=yM.1 a;exact(b.ok i (Ny.1 hi).1 p hi).1
def Jp (es:List Pr) (u w:Nat):Prop:=((u:Int),(w:Int))∈es\/((w:Int),(u:Int))∈es
theorem Jp.symm {es:List Pr} {u w:Nat} (h:Jp es u w):Jp es w u:=Or.symm h
theorem Jp.lt (a:aV n es) (h:Jp es u w):u<n/\w<n:=by
 rcases h with h|h<;>have:=a _ h<;>simp only at this<;>omega
theorem wH (rows:AM) (p:Pr) (u:Nat) (x:Int) (a:p.1.toNat<rows.length) (h2:p.2.toNat<rows.length):
  x∈(Xs rows p).getD u []↔x∈rows.getD u []\/(p.1.toNat=u/\x=p.2)\/(p.2.toNat=u/\x=p.1):=by
 simp only[Xs,cA,M1]
 grind
theorem FH (n:Nat):∀(es:List Pr) (rows:AM),rows.length=n->aV n es->∀(u:Nat) (x:Int),x∈(es.foldl Xs rows).getD u []↔x∈rows.getD u []\/∃p∈es,(p.1.toNat=u/\x=p.2)\/(p.2.toNat=u/\x=p.1)
 |[],rows,_,_,u,x=>by simp
 |p::es,rows,c,a,u,x=>by
  have d:=a p Ma;rw[V9,FH n es _ (by grind [pO]) (fun q b=>a q (by simp[b])) u x,wH rows p u x NH NH]
  grind
theorem EW (d:aV n es) (u w:Nat):(w:Int)∈(Zh n es).getD u []↔Jp es u w:=by
 have c:(List.replicate n ([]:RZ)).getD u []=[]:=pw;rw[Zh,FH n es _ Ma d,c];simp only[vY,false_or,Jp];constructor
 .rintro ⟨⟨a, b⟩, e, ⟨f, h2⟩ | ⟨f, h2⟩⟩
  .have:=d _ e;grind
  .have:=d _ e;grind
 grind
theorem Ru (b:aV n es) {x:Int} (c:x∈(Zh n es).getD u []):∃w:Nat,x=(w:Int)/\w<n:=by
 have a:(List.replicate n ([]:RZ)).getD u []=[]:=pw;rw[Zh,FH n es _ Ma b,a]at c;simp only[vY,false_or]at c;obtain⟨p,d,⟨_,rfl⟩|⟨_,rfl⟩⟩:=c
 .have:=b _ d;exact⟨p.2.toNat,NH,NH⟩
 .have:=b _ d;exact⟨p.1.toNat,NH,NH⟩
inductive Cn (on:Nat->Bool) (es:List Pr):Nat->Nat->Prop
 |refl {u:Nat}:on u=false->Cn on es u u
 |step {u w x:Nat}:Cn on es u w->Jp es w x->on x=false->Cn on es u x
theorem Cn.off1 (h:Cn on es u w):on u=false:=by
 induction h with
 |refl h=>exact h
 |step _ _ _ a=>exact a
theorem Cn.AB (h:Cn on es u w):on w=false:=by
 cases h<;>grind
theorem Cn.trans (h:Cn on es u w) (k:Cn on es w x):Cn on es u x:=by
 induction k with
 |refl _=>exact h
 |step _ a o b=>exact b.step a o
theorem Cn.symm {on:Nat->Bool} {es:List Pr} {u w:Nat} (h:Cn on es u w):Cn on es w u:=by
 induction h with
 |refl h=>exact .refl h
 |step h a o b=>exact((Cn.refl o).step a.symm h.AB).trans b
structure TO (n:Nat) (on:Nat->Bool) (es:List Pr) (v:Nat) (L:RZ):Prop where
 len:L.length=n
 val:∀(u:Nat) l,L[u]?=some l->l=-1\/on u=false/\∃k:Nat,k<v/\l=(k:Int)/\Cn on es k u
 qi:∀(u w:Nat) l,L[u]?=some l->0<=l->Jp es u w->on w=false->L[w]?=some l
 low:∀u,u<v->u<n->on u=false->L[u]?≠some (-1)
structure TI (n:Nat) (on:Nat->Bool) (es:List Pr) (v:Nat) (L:RZ) (met:II) (cl:Nat->Nat->Prop):Prop where
 len:L.length=n
 val:∀(u:Nat) l,L[u]?=some l->l=-1\/on u=false/\∃k:Nat,k<=v/\l=(k:Int)/\Cn on es k u
 qi:∀(u w:Nat) l,L[u]?=some l->0<=l->l<(v:Int)->Jp es u w->on w=false->L[w]?=some l
 low:∀u,u<=v->u<n->on u=false->L[u]?≠some (-1)
 mm:∀u,u∈met↔L[u]?=some (v:Int)
 nd:met.Nodup
 cl:∀u w,cl u w->L[w]?=some (v:Int)
theorem TO.start (n:Nat) (on:Nat->Bool) (es:List Pr):TO n on es 0 (List.replicate n (-1)):=
 ⟨Ma,fun u l h=>.inl (afr (Gc h)),fun u w l h a=>by grind,fun u h=>by omega⟩
theorem TO.skip (t:TO n on es v L) (h:on v=true\/L[v]?≠some (-1)):TO n on es (v+1) L:=
 ⟨t.len,fun u l a=>(t.val u l a).imp id fun⟨b,k,h2,h3⟩=>⟨b,k,NH,h3⟩,t.qi,fun u c d e=>by grind [TO.low]⟩
theorem TO.begin (t:TO n on es v L) (j:v<n) (c:on v=false) (k:L[v]?=some (-1)) (cl:Nat->Nat->Prop) (b:∀u w,¬cl u w):TI n on es v (L.set v (v:Int)) [v] cl:=by
 have d:v<L.length:=pw;have f:∀u,u≠v->(L.set v (v:Int))[u]?=L[u]?:=fun u g=>by grind
 have heq:(L.set v (v:Int))[v]?=some (v:Int):=pw;refine⟨by simp[t.len],fun u l a=>?_,fun u w l a m o ha hw=>?_,fun u g p i=>?_,fun u=>?_,Ma,fun u w h=>absurd h (b u w)⟩
 .by_cases e : u = v
  .subst e;rw[heq]at a;injection a with a;exact .inr ⟨c,u,qL0 _,a.symm,.refl c⟩
  grind [TO.val]
 .grind [TO.qi]
 .grind [TO.low]
 grind [TO.val]
theorem TI.mono (t:TI n on es v L met cl) (h:∀u w,cl' u w->cl u w):TI n on es v L met cl':=
 ⟨t.len,t.val,t.qi,t.low,t.mm,t.nd,fun u w k=>t.cl u w (h u w k)⟩
theorem TI.off (t:TI n on es v L met cl) (a:u∈met):on u=false/\Cn on es v u:=by
 rcases t.val u _ ((t.mm u).1 a)with h|⟨h,k,_,h2,h3⟩
 all_goals grind
theorem TI.stay (t:TI n on es v L met cl) (f:u∈met) (ha:Jp es u w) (c:∃l,L[w]?=some l/\l≠-1) (h:∀a b,cl' a b->cl a b\/b=w):TI n on es v L met cl':=by
 refine⟨t.len,t.val,t.qi,t.low,t.mm,t.nd,fun a b k=>?_⟩;rcases h a b k with h|rfl
 .exact t.cl a b h
 .obtain ⟨l, d, g⟩ := c
  rcases t.val _ _ d with h'|⟨i,k,j,rfl,_⟩
  .grind
  .by_cases e : k = v
   .grind
   .have := t.qi b u (k : Int) d NH NH ha.symm (t.off f).1
    grind [TI.mm]
theorem TI.push (t:TI n on es v L met cl) (g:u∈met) (ha:Jp es u w) (c:on w=false) (f:L[w]?=some (-1)) (h:∀a b,cl' a b->cl a b\/b=w):
  TI n on es v (L.set w (v:Int)) (met++[w]) cl':=by
 have i:w<L.length:=(Ny.1 f).1;have j:∀x,x≠w->(L.set w (v:Int))[x]?=L[x]?:=fun x m=>by grind
 have heq:(L.set w (v:Int))[w]?=some (v:Int):=pw;have o:w∉met:=fun h=>by grind [TI.mm]
 refine⟨by simp[t.len],fun x l d=>?_,fun x y l d r s p z=>?_,fun x m A q=>?_,fun x=>?_,?_,fun a b k=>?_⟩
 .by_cases e : x = w
  .subst e;rw[heq]at d;injection d with d;exact .inr ⟨c,v,qL0 _,d.symm,(t.off g).2.step ha c⟩
  grind [TI.val]
 .grind [TI.qi]
 .grind [TI.low]
 .grind [TI.mm]
 .grind [TI.nd]
 .rcases h a b k with h | rfl
  .have := t.cl a b h
   grind
  .exact heq
theorem TI.finish (t:TI n on es v L met cl) (h:∀u w,u∈met->Jp es u w->on w=false->cl u w):TO n on es (v+1) L:=by
 refine⟨t.len,fun u l a=>(t.val u l a).imp id fun⟨b,k,h2,h3⟩=>⟨b,k,NH,h3⟩,fun u w l a d ha hw=>?_,fun u f g c=>?_⟩
 .rcases t.val u l a with h' | ⟨b, k, h2, rfl, _⟩
  .omega
  .by_cases e : k = v
   .subst e;exact t.cl u w (h u w ((t.mm u).2 a) ha hw)
   grind [TI.qi]
 grind [TI.low]
theorem TI.abK (t:TI n on es v L met cl):met.length<=n:=by
 have hs:met⊆List.range n:=fun u a=>by
  have:=(Ny.1 ((t.mm u).1 a)).1
  grind [TI.len]
 have:=t.nd.length_le_of_subset hs
 grind
structure wx (n:Nat) (on:Nat->Bool) (es:List Pr) (L:RZ):Prop where
 len:L.length=n
 off:∀u,u<n->on u=false->∃k:Nat,k<n/\L[u]?=some (k:Int)/\Cn on es k u
 same:∀u w,u<n->w<n->on u=false->on w=false->(L[u]?=L[w]?↔Cn on es u w)
theorem TO.done (d:aV n es) (t:TO n on es n L):wx n on es L:=by
 have off:∀u,u<n->on u=false->∃k:Nat,k<n/\L[u]?=some (k:Int)/\Cn on es k u:=fun u a f=>by grind [TO.len,TO.val,TO.low]
 refine⟨t.len,off,fun u w a hw g b=>⟨fun e=>?_,fun c=>?_⟩⟩
 .grind [Cn.symm,Cn.trans]
 .clear hw b
  induction c<;>grind [TO.qi]
end
end Go.Fw
