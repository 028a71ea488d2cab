/- A text. -/
import Derived.Test.YtnakkbhjoiheoaaGreatFwLB1
set_option linter.all false
set_option maxRecDepth 99999
set_option maxHeartbeats 9999999
open Go.Proofs
open Option renaming some→Z,none→Y
open Bool renaming true→tT,false→fF
open List renaming replicate→rP,range→rG
open Go.Value renaming slice→sL,pointer→pT
open Go renaming Value→vV
open Go.Proofs.Tryz renaming prog→pG
open Go.Proofs.Tryz
namespace Go.Fw
section
attribute [local irreducible] Kp MQ lU KO1 KO KN KX KE VK Kl ZJ TC aab
variable {α:Type}
def fG:∀n:Nat,n<=300->IntKind.u64.wrap ((BitVec.ofInt IntKind.u64.bits (n:Int) &&& BitVec.ofInt IntKind.u64.bits 4294967295).toNat:Nat)=(n:Int):=by
 intro n a;have:∀k:Fin 301,IntKind.u64.wrap ((BitVec.ofInt IntKind.u64.bits ((k:Nat):Int) &&& BitVec.ofInt IntKind.u64.bits 4294967295).toNat:Nat)=((k:Nat):Int):=by decide+kernel
 exact this ⟨n,NH⟩
theorem KR(n:Nat)(a:n<=300):acV .shr .u64 (n:Int) 32=Z (.int .u64 0):=by simp[acV,IntKind.bits];grind
theorem sS(n:Nat)(a:n<=300):aaY .u64 (n:Int)=n:=by grind[aaY]
theorem Mul64_any(b:LA)(n:Nat)(a:n<=300)(h:aai):AC pG b 153 [.int .u64 1,.int .u64 n] h fun x h'=>x=.tuple #[.int .u64 0,.int .u64 n]/\h'=h:=by
 refine AC.vE ⟨func153,rfl,WY⟩ ntmps153 results153 fun c=>?_;simp only[Br,seval];have a1:IntKind.u64.wrap ((BitVec.ofInt IntKind.u64.bits 1 &&& BitVec.ofInt IntKind.u64.bits 4294967295).toNat:Nat)=1:=fG 1 WY;have a2:acV .shr .u64 1 32=Z (.int .u64 0):=KR 1 WY;have d:IntKind.u64.wrap ((BitVec.ofInt IntKind.u64.bits 0 &&& BitVec.ofInt IntKind.u64.bits 4294967295).toNat:Nat)=0:=fG 0 WY;have e:acV .shr .u64 0 32=Z (.int .u64 0):=KR 0 WY;have f:=fG n a;have g:=KR n a;have i:aaY .u64 0=0:=by decide
 have j:=sS n a;refine sFa (ahk a1 a2 d e f g i j @Int.mul_one @Int.one_mul @Int.mul_zero @Int.zero_mul @Int.add_zero @Int.zero_add) ?_;grind
theorem Mul_any(a:LA)(n:Nat)(b:n<=300)(h:aai):AC pG a 113 [.int .u64 1,.int .u64 n] h fun x h'=>x=.tuple #[.int .u64 0,.int .u64 n]/\h'=h:=by refine AC.vE ⟨func113,rfl,WY⟩ ntmps113 results113 fun c=>?_;simp only[Br,seval];refine sSs ?_;refine kCi func153 (Mul64_any a n b h) ?_;rintro v h'-⟨rfl,rfl⟩;refine sSs ?_;grind
theorem rep_grow(a b:α)(i n m:Nat)(c:min i (n-i)=m):List.take i (rP i a++rP (n-i) b)++List.take (m*1) (rP i a)++List.drop (i+m*1) (rP i a++rP (n-i) b)=rP (i+m) a++rP (n-(i+m)) b:=by
 have d:List.take i (rP i a++rP (n-i) b)=rP i a:=hGr;have e:List.take (m*1) (rP i a)=rP m a:=hGr;have e3:List.drop (i+m*1) (rP i a++rP (n-i) b)=rP (n-(i+m)) b:=by rw[zd,List.drop_append,List.drop_replicate,List.drop_replicate];simp;omega
 grind[List.replicate_append_replicate]
theorem rN(y:LA)(l:vV)(n:Nat)(p:n<=300)(h:aai)(q:RL RP h l [-1]):AC pG y 82 [l,n] h fun v h'=>∃id,v=sL (Z ⟨id,0,Y⟩) n n/\h.next<=id/\h'.own id=Z (.cells (rP n (.int .i64 (-1))))/\Le h h':=by
 refine AC.vE ⟨akx,rfl,WY⟩ ntmps82 results82 fun d=>?_;simp only[Br,seval];have A:¬((n:Int)<0):=NH;have B:aeh pG h 28 l=Z (.int .i64 (1:Int)):=q.DH h;have w1:aaY .u64 1=1:=by decide
 simp only[HO,seval,A,B,acX,Ac,qS20,sS n p,w1];refine kCi func113 (Mul_any y n p h) ?_;rintro v h'-⟨rfl,rfl⟩;have C:¬((0:Int)<(0:Int)):=by decide
 have D:¬((9223372036854775807:Int)<(n:Int)):=NH;have mk:=Ye (P:=pG) (t:=28) h' Mb rfl rfl rfl rfl Ji Ac Ji n NH;simp only[HO,seval,C,D,acX,Ac,qS20,ie n NH NH,mk]
 have f:(h'.alloc (.cells (rP n (.int .i64 0)))).own h'.next=Z (.cells (rP n (.int .i64 0))):=aai.zT _ _
 have hle:Le h' (h'.alloc (.cells (rP n (.int .i64 0)))):=(Le.refl _).alloc d _
 have g:h'.own h'.next=Y:=(Le.refl h').next d (qL0 _)
 generalize h'.alloc (.cells (rP n (.int .i64 0)))=z at*
 have c:∃m h2,afo pG z 28 (sL (Z ⟨h'.next,0,Y⟩) n n) l=Z (.int .i64 (m:Nat),h2)/\(n=0/\m=0\/1<=m/\m<=n)/\h2.own h'.next=Z (.cells (rP m (.int .i64 (-1))++rP (n-m) (.int .i64 0)))/\Le h' h2:=by
  by_cases E:n=0
  .subst E;exact⟨0,z,afl Mb Ac WY q.sl Ma,.inl ⟨rfl,rfl⟩,by simpa using f,hle⟩
  .obtain⟨vs,F,hlen,hg⟩:=q;have r:vs=[.int .i64 (-1)]:=by
    match vs,hlen with
    |[x],_=>rw[hg 0 (-1) x rfl rfl]
   subst r;refine⟨1,_,IQ (k:=1) Mb Ac rfl f (F.le hle).cs (by rfl) 1 (by simp;omega) WY (by simp;omega),.inr ⟨NH,NH⟩,?_,hle.put _ g⟩;grind[aai.Y3]
 obtain⟨m,h2,G,H,s,j⟩:=c;refine sFa G ?_
 refine lIn (fun k fr hh=>∃i:Nat,k=n-i/\(n=0/\i=0\/1<=i/\i<=n)/\fr=mkF [(7,sL (Z ⟨h'.next,0,Y⟩) n n),(8,i)]/\hh.own h'.next=Z (.cells (rP i (.int .i64 (-1))++rP (n-i) (.int .i64 0)))/\Le h' hh) ⟨m,rfl,H,rfl,s,j⟩ ?_
 rintro k fr hh-⟨i,rfl,hi,rfl,f,hle⟩
 simp only[HO,seval,show aeh pG hh 28 (sL (Z ⟨h'.next,0,Y⟩) n n)=Z (.int .i64 n)from rfl]
 refine Kl.intro (fun I=>?_) (fun hf=>?_)
 .have u:i<n:=CC I;refine sSs ?_;refine gh (tA [0,1,2,3,4,5,6] (JQ 7 [3,6] (tA [8] (JQ 9 [0,1,2,3,4,5,6,7,8] .done)))) ?_;have b:n<UNK:=JR p WY
  have s1:=aSlice_lo (P:=pG) (t:=28) (a:=Z ⟨h'.next,0,Y⟩) (n:=n) (cap:=n) (k:=.i64) Mb Ac rfl i NH (.inr u) (qL0 _) b
  have s2:=pn (P:=pG) (t:=28) (a:=⟨h'.next,0,Y⟩) (n:=n) (cap:=n) (k:=.i64) Mb Ac i NH (qL0 _) b
  simp only[uu,Ip,Gc]at s1
  have o:CS 1 hh (sL (Z ⟨h'.next,0,Y⟩) i n) i (rP i (.int .i64 (-1))):=by have:=CS.own (k:=1) (off:=0) (n:=i) (cap:=n) f Ma;grind
  have w:=IQ (P:=pG) (t:=28) (k:=1) (n:=i) (off:=i) (dl:=n-i) (dc:=n-i) (e:=3) Mb Ac rfl f o (all_rep rfl i) (min i (n-i)) rfl NH (by simp;omega);refine sFd (ae7 s1 s2 w (ie ((i:Int)+((min i (n-i):Nat):Int)) NH NH)) ?_;refine lgA NH ⟨i+min i (n-i),rfl,NH,rfl,?_,hle.put _ g⟩;grind[aai.Y3,rep_grow]
 .have J:n<=i:=vp hf;have:i=n:=NH;subst this;refine sSs ?_;grind
variable {L R c n q t w:Nat} {P:Program} {b0 h h':aai} {r:RZ} {rows:AM} {us:List Value} {v:Value}
def Bp(l:RZ):xLV:=l.map (vV.int .i64)
theorem uE(l:RZ):(Bp l).length=l.length:=by simp[Bp]
def yG(l:RZ):(Bp l).all (·.oneCell')=tT:=by simp[Bp];intros;rfl
def DQ(h:aai)(x:Int):aas pG h 28 1 [(0,x)]=Z (sL (Z h.next) 1 1,h.alloc (.cells [x])):=rfl
theorem xr{t xt:TypeId}{v x v':vV}(hw:WF h)(e:aaR P h t xt v x=Z (v',h')):WF h':=by
 unfold aaR at e;split at e
 .grind[WF.kill,WF.alloc,WF.put,WF.lt]
 .cases e
theorem grow(m:WF h){G:aai}{us cells:xLV}{cu x:vV}{d:TypeDesc}(v:apT pG t t 1=tT)(y:pG.underlying t=Z d)(n:UA pG t=1)(oR:h.own R=Z (.cells us))(hw:w<us.length)(g:GS 1 h cu q cells)(z:cells.all (·.oneCell')=tT)(A:x.oneCell'=tT)(H:q<=100000)(B:blk cu≠Z R)(le:Le G h)(C:G.own R=Y)(ap:Z2 G cu):
  ∃a k f j,h.alloc (.cells [x])=k/\aaR pG k t t cu (sL (Z h.next) 1 1)=Z (a,f)/\aaK pG f t (pT (Z ⟨R,w,Y⟩)) a=Z j/\GS 1 j a (q+1) (cells++[x])/\
   j.own R=Z (.cells (us.set w a))/\blk a≠Z R/\Z2 G a/\Le h k/\Le G f/\Le G j/\(∀b o,h.own b=Z o->b≠R->blk cu≠Z b->j.own b=Z o/\blk a≠Z b)/\(∀b o,h.own b=Z o->blk cu≠Z b->f.own b=Z o)/\WF j:=by
 obtain⟨k,e4,c,e,D⟩:=Tt m [x];obtain⟨a,f,p,r,hf⟩:=(g.le c).push (P:=pG) (t:=t) v D z A NH;obtain⟨s,u⟩:=aG hf e (c.own _ _ oR) B;obtain⟨l5,E⟩:=hf G e (le.trans c) ap;have l:WF f:=xr e p;have sl:=r.cs.sl;have st:=QB (P:=pG) (t:=t) (x:=a) y n s (off:=w) hw (by obtain⟨_,_,rfl,_⟩:=sl;rfl) sl.one;refine⟨a,k,f,_,e4,p,st,r.put _ u,aai.Y3 _ _ _,u,E,c,l5,l5.put _ C,fun b o hb F i=>?_,fun b o hb i=>(aG hf e (c.own _ _ hb) i).1,l.put _ (l.lt s)⟩;obtain⟨r1,r2⟩:=aG hf e (c.own _ _ hb) i;grind[aai.By]
structure Rows (b0 h:aai) (L:Nat) (us:xLV) (rows:AM):Prop where
 oL:h.own L=Z (.cells us)
 len:us.length=rows.length
 gs:∀(v:Nat) u r,us[v]?=Z u->rows[v]?=Z r->GS 1 h u r.length (Bp r)
 nL:∀(v:Nat) u,us[v]?=Z u->blk u≠Z L
 TE:∀(v w:Nat) u u' b,v≠w->us[v]?=Z u->us[w]?=Z u'->blk u=Z b->blk u'≠Z b
 ap:∀(v:Nat) u,us[v]?=Z u->Z2 b0 u
 le:Le b0 h
 bL:b0.own L=Y
theorem Rows.up(R:Rows b0 h L us rows)(e:Le h h'):Rows b0 h' L us rows:=⟨e.own _ _ R.oL,R.len,fun v u r a b=>(R.gs v u r a b).le e,R.nL,R.TE,R.ap,R.le.trans e,R.bL⟩
theorem Rows.start(d:h.own L=Z (.cells (rP n (.slice Y 0 0))))(le:Le b0 h)(bL:b0.own L=Y):Rows b0 h L (rP n (.slice Y 0 0)) (rP n []):=by
 have c:∀(v:Nat) u,(rP n (vV.slice Y 0 0))[v]?=Z u->u=.slice Y 0 0:=fun v u a=>qL174 (BS a);refine⟨d,Ma,fun v u r a e=>?_,fun v u a=>?_,fun v w u u' b _ a _ hb=>?_,fun v u a b hb=>?_,le,bL⟩
 .rw[c v u a,show r=[]from qL174 (BS e)];exact .nil 1 _
 all_goals grind[blk]
theorem Rows.push(R:Rows b0 h L us rows)(p:WF h)(C:rows[w]?=Z r)(x:Int)(D:r.length<=100000):
  ∃u u' m j l,us[w]?=Z u/\h.alloc (.cells [x])=m/\aaR pG m 28 28 u (sL (Z h.next) 1 1)=Z (u',j)/\aaK pG j 28 (pT (Z ⟨L,w,Y⟩)) u'=Z l/\Le h m/\Le b0 j/\
   j.own L=Z (.cells us)/\Rows b0 l L (us.set w u') (rows.set w (r++[x]))/\WF l/\(∀b o,h.own b=Z o->b≠L->(∀(v:Nat) a,us[v]?=Z a->blk a≠Z b)->j.own b=Z o/\l.own b=Z o/\∀(v:Nat) a,(us.set w u')[v]?=Z a->blk a≠Z b):=by
 have f:w<us.length:=by grind[Rows.len]
 have i:=CA f;generalize us[w]=u at i;have g:=R.gs w u r i C;obtain⟨u',m,j,l,e4,E,F,H,o6,n6,I,l4,l5,l6,keep,d,s⟩:=grow p (G:=b0) (t:=28) (x:=x) Ji Mb Ji R.oL f g (yG _) rfl D (R.nL w u i) R.le R.bL (R.ap w u i);refine⟨u,u',m,j,l,i,e4,E,F,l4,l5,d _ _ R.oL (R.nL w u i),⟨o6,by simp[R.len],fun v a q ha c=>?_,fun v a ha=>?_,fun v v' a a' b y ha mi hb=>?_,fun v a ha=>?_,l6,R.bL⟩,s,fun b o hb z n=>⟨d b o hb (n w u i),(keep b o hb z (n w u i)).1,fun v a ha=>?_⟩⟩
 .rw[Tn]at ha c;by_cases e:w=v
  .grind[Bp]
  .rw[yM e]at ha c;refine(R.gs v a q ha c).kept fun b o hb A=>(keep b o A (fun B=>R.nL v a ha hGr) (fun B=>R.TE w v u a b e i ha B hb)).1
 .grind[Rows.nL]
 .rw[Tn]at ha mi;by_cases e:w=v
  .subst e;rw[IE rfl,IE f]at ha;injection ha with ha;subst ha;rw[yM y]at mi;intro sZ;have k:∃q,rows[v']?=Z q:=⟨_,CA (by grind[Rows.len])⟩;obtain⟨q,c⟩:=k;obtain⟨o,A⟩:=VU.1 ((R.gs v' a' q mi c).Sy sZ);grind[Rows.TE]
  .rw[yM e]at ha;by_cases e':w=v'
   .subst e';rw[IE rfl,IE f]at mi;injection mi with mi;subst mi;have k:∃q,rows[v]?=Z q:=⟨_,CA (by grind[Rows.len])⟩;obtain⟨q,c⟩:=k;obtain⟨o,A⟩:=VU.1 ((R.gs v a q ha c).Sy hb);grind[Rows.TE]
   grind[Rows.TE]
 all_goals grind[Rows.ap]
def isG(h:aai)(u:vV)(r:RZ):Prop:=GS 1 h u r.length (Bp r)
def RL.map{R R':aai->vV->α->Prop}{xs:List α}(r:RL R h v xs)(hR:∀u x,R h u x->R' h u x):RL R' h v xs:=by obtain⟨vs,q,a,b⟩:=r;exact⟨vs,q,a,fun i x u c d=>hR u x (b i x u c d)⟩
theorem isG.rl{u:vV}(g:isG h u r):RL RP h u r:=RL.Wh (GS.cs g).rs
theorem Rows.rlG(R:Rows b0 h L us rows)(a:us.length=n):RL isG h (sL (Z L) n c) rows:=⟨us,RS.whole R.oL a,R.len,fun i x u b d=>R.gs i u x d b⟩
theorem Rows.rl(R:Rows b0 h L us rows)(a:us.length=n):RL (RL RP) h (sL (Z L) n c) rows:=⟨us,RS.whole R.oL a,R.len,fun i x u b d=>RL.Wh (R.gs i u x d b).cs.rs⟩
def Xs(rows:AM)(p:Pr):AM:=
 let r1:=rows.set p.1.toNat ((rows.getD p.1.toNat [])++[p.2])
 r1.set p.2.toNat ((r1.getD p.2.toNat [])++[p.1])
def Zh(n:Nat)(es:xLP):AM:=es.foldl Xs (rP n [])
theorem pO(rows:AM)(p:Pr):(Xs rows p).length=rows.length:=by simp[Xs]
theorem Xq(n:Nat)(es:xLP):(Zh n es).length=n:=by
 have:∀(es:xLP)(rows:AM),(es.foldl Xs rows).length=rows.length:=by
  intro es
  induction es<;>grind[pO]
 grind[Zh.eq_1]
def NJ(n:Nat)(es:xLP)(p:Pr):Zh n (es++[p])=Xs (Zh n es) p:=by simp[Zh]
theorem bV(n:Nat)(es:xLP):∀r∈Zh n es,r.length<=2*es.length:=by
 have:∀(es:xLP)(rows:AM)(k:Nat),(∀r∈rows,r.length<=k)->∀r∈es.foldl Xs rows,r.length<=k+2*es.length:=by
  intro es
  induction es with
  |nil=>grind
  |cons p es c=>
   intro rows k h r a;rw[Dj]at a;have b:∀(l:AM)(m:Nat),(∀r∈l,r.length<=m)->∀i,(l.getD i []).length<=m:=fun l m e i=>by grind
   have d:∀r∈rows.set p.1.toNat ((rows.getD p.1.toNat [])++[p.2]),r.length<=k+1:=fun r a=>by grind
   have h2:∀r∈Xs rows p,r.length<=k+2:=fun r a=>by
    rcases aiq a with h'|rfl
    .grind
    .have:=b _ (k+1) d p.2.toNat;grind
   have:=c (Xs rows p) (k+2) h2 r a;simp;omega
 intro r a;have:=this es (rP n []) 0 (fun r a=>by grind) r a;omega
theorem Beside_g(W0:LA)(v:vV)(n:Nat)(es:xLP)(h:aai)(hg:GR h v ⟨(n:Int),es⟩)(hr:bX ⟨(n:Int),es⟩):AC pG W0 44 [v] h fun x h'=>RL isG h' x (Zh n es)/\Le h h':=by
 have az:=hg
 obtain⟨ev,rfl,hp⟩:=hg.open
 have bB:(n:Int)<=200:=hr.n1;have bF:es.length<=594:=hr.len;have y:∀p∈es,0<=p.1/\p.1<p.2/\p.2<(n:Int):=fun p aC=>by obtain⟨i,hi⟩:=vZ.1 aC;exact(hr.ok i (Ny.1 hi).1 p hi).1
 refine AC.vE ⟨afm,rfl,WY⟩ ntmps44 results44 fun aD=>?_;simp only[Br,seval];obtain⟨h1,b1,A,bH,-,lA⟩:=r8 (n:=(n:Int)) aD hp
 generalize h.next=B at*
 have aF:=lA h1 (Le.refl _);have ll:=fun g=>hp.len g;simp only[HO,seval,b1,aF.1];refine TC.intro PJ ⟨qS7,rfl,WY⟩ (ak W0 _ _ h1 (az.le A)) ?_;rintro x h2 C ⟨⟨bb,rfl,aH⟩,m⟩;obtain rfl:bb=tT:=aH.2 hr;have aJ:=lA h2 m;have mk:=Ye (P:=pG) (t:=25) (z:=.slice Y 0 0) h2 qS6 rfl rfl rfl rfl Ji Mb Ji n NH;obtain⟨h3,e3,aK,bI,o3⟩:=Tt C (rP n (.slice Y 0 0));rw[e3]at mk
 have nL:h2.own h2.next=Y:=(Le.refl h2).next C (qL0 _)
 generalize h2.next=L at*
 have fT:=lA h3 (m.trans aK);simp only[HO,seval,Ii,Di,Ip,Gc,aJ.2.1,mk,fT.2.2,ll];have R0:Rows h2 h3 L (rP n (.slice Y 0 0)) (Zh n (es.take 0)):=by grind[Zh,Rows.start]
 refine aab.intro (fun k fr hh=>∃(i:Nat)(us:xLV),k=es.length-i/\i<=es.length/\fr=mkF [(3,sL (Z L) n n),(13,ev),(14,.int .i64 es.length),(15,i)]/\Rows h2 hh L us (Zh n (es.take i)))
  es.length [(3,sL (Z L) n n),(13,ev),(14,.int .i64 es.length),(15,(0:Nat))] fD ⟨0,_,rfl,abe _,rfl,R0⟩ ?_
 rintro k fr hh D ⟨i,us,rfl,hi,rfl,R⟩;refine sSs ?_;refine Kl.intro (fun ht=>?_) (fun hf=>?_)
 rotate_left
 .have aL:es.length<=i:=vp hf;rw[HV aL]at R;refine sSs ?_;grind[Rows.rlG,Rows.len,Xq,Le.trans,Rows.le]
 have l:i<es.length:=CC ht;clear ht;have o:=CA l;have F:es.take (i+1)=es.take i++[es[i]]:=EL l;generalize es[i]=p at o F;obtain⟨p1,p2,p3⟩:=y p (BS o);have aN:=hp.le ((A.trans m).trans R.le);have ad:=hp.addr (k:=.i64) i l;have ld:=aN.load o;obtain⟨bN,h4,e4,aP,aT,aW,G⟩:=Ut D p
 have aX:hh.own hh.next=Y:=(Le.refl hh).next D (qL0 _)
 obtain⟨a,c⟩:=p;simp only at p1 p2 p3;obtain⟨a,rfl⟩:=Sb p1;obtain⟨c,rfl⟩:=Sb (show 0<=c by omega);have R4:=R.up aT
 have a6:∀(v:Nat) u,us[v]?=Z u->blk u≠Z hh.next:=fun v u hu hb=>by have a7:∃q,(Zh n (es.take i))[v]?=Z q:=⟨_,CA (by grind[Rows.len])⟩;obtain⟨q,hq⟩:=a7;exact(R.gs v u q hu hq).Sy hb aX
 have H:hh.next≠L:=fun e=>by have:=R.oL;grind
 generalize hh.next=E at*
 simp only[HO,seval,ad,ld,e4,aP];have a8:=bV n (es.take i);have bQ:(es.take i).length<=594:=hGr;have I:∀(k:IntKind)(j:Nat),j<n->aao pG 25 (sL (Z L) n n) (.int k j)=Z (pT (Z ⟨L,j,Y⟩)):=fun k j hj=>by rw[Wc qS6 Mb Ji j hj];simp[Ip]
 have J:a<(Zh n (es.take i)).length:=by grind[Xq]
 have K:=CA J;have M:(Zh n (es.take i)).getD a []=(Zh n (es.take i))[a]:=D4 J;have N:((Zh n (es.take i))[a]).length<=100000:=hGr;generalize (Zh n (es.take i))[a]=ra at K M N;obtain⟨u,u',h5,h6,h7,hu,e5,e6,e7,l5,l6,bW,R7,bg,keep⟩:=R4.push aW K (c:Int) N;obtain⟨d,b,O⟩:=keep _ _ G H a6;have Q:=lK G;have S:=HY G;have T:=lK (l5.own _ _ G);have U:=HY (l5.own _ _ G);have V:=lK d;have W:=HY d;have X:=lK b;have aa:=HY b;simp only at Q S T U V W X aa;have bh:aaC pG h4 28 ⟨L,a,Y⟩=Z u:=by rw[Fq Mb rfl R4.oL];exact hu
 have bk:aaC pG h5 28 ⟨L,a,Y⟩=Z u:=by rw[Fq Mb rfl (l5.own _ _ R4.oL)];exact hu
 have bs:aas pG h4 28 1 [(0,c)]=Z (sL (Z h4.next) 1 1,h5):=by rw[DQ,e5]
 refine gh (tA [0,1,2,3,4,5,6,7,8,9] (JQ 10 [9] (JQ 11 [7,10] (tA [12] (JQ 13 [0,1,2,3,4,5,6,7,8,9,10,11,12] .done))))) ?_;simp only[HO,seval,Qg,Dh,Z0,Ip,Gc,Q,S,T,U,V,W,I _ a NH,bh,bk,bs,e6,e7];have bY:((Zh n (es.take i)).set a (ra++[(c:Int)])).length=n:=by simp[Xq]
 have r:c<((Zh n (es.take i)).set a (ra++[(c:Int)])).length:=NH;have ae:=CA r;have ag:((Zh n (es.take i)).set a (ra++[(c:Int)])).getD c []=((Zh n (es.take i)).set a (ra++[(c:Int)]))[c]:=D4 r;have ai:(((Zh n (es.take i)).set a (ra++[(c:Int)]))[c]).length<=100000:=by
  rcases aiq (aev r)with e|e
  .grind
  .rw[e];simp;grind
 generalize ((Zh n (es.take i)).set a (ra++[(c:Int)]))[c]=rc at ae ag ai;obtain⟨w,w',h8,h9,bZ,hw,e8,e9,bm,l8,l9,b0,aj,bG,s⟩:=R7.push bg ae (a:Int) ai;obtain⟨f,al,-⟩:=s _ _ b H O;have aq:=lK (l8.own _ _ b);have ar:=HY (l8.own _ _ b);have av:=lK f;have ay:=HY f;simp only at aq ar av ay;have bo:aaC pG h7 28 ⟨L,c,Y⟩=Z w:=by rw[Fq Mb rfl R7.oL];exact hw
 have br:aaC pG h8 28 ⟨L,c,Y⟩=Z w:=by rw[Fq Mb rfl (l8.own _ _ R7.oL)];exact hw
 have bx:aas pG h7 28 1 [(0,a)]=Z (sL (Z h7.next) 1 1,h8):=by rw[DQ,e8]
 refine gh (tA [0,1,2,3,4,5,6,7,8,9] (JQ 10 [9] (JQ 11 [7,10] (tA [12] (JQ 13 [0,1,2,3,4,5,6,7,8,9,10,11,12] .done))))) ?_;simp only[HO,seval,Qg,Dh,Z0,Ip,Gc,X,aa,aq,ar,av,ay,I _ c NH,bo,br,bx,e9,bm,aaa i NH];have:Xs (Zh n (es.take i)) ((a:Int),(c:Int))=((Zh n (es.take i)).set a (ra++[(c:Int)])).set c (rc++[(a:Int)]):=by simp only[Xs,Z6,M,ag]
 rw[<-this,<-NJ,<-F]at aj;exact tn (es.length-(i+1)) [(3,sL (Z L) n n),(13,ev),(14,.int .i64 es.length),(15,(i+1:Nat))] NH fD ⟨i+1,_,rfl,l,rfl,aj⟩
def oe(a:LA)(v:vV)(n:Nat)(es:xLP)(h:aai)(hg:GR h v ⟨(n:Int),es⟩)(b:bX ⟨(n:Int),es⟩):AC pG a 44 [v] h fun x h'=>RL (RL RP) h' x (Zh n es)/\Le h h':=(Beside_g a v n es h hg b).mono fun _ _ h=>⟨h.1.map fun _ _ g=>g.rl,h.2⟩
def aO(p:Pr)(v:Int):Bool:=decide (p.1=v)||decide (p.2=v)
def onE(ps:xLP)(v:Int):Bool:=ps.any fun p=>aO p v
def eqP(p q:Pr):aEq pG 49 (UI p) (UI q)=Z (decide (p=q)):=by
 have e:p=q↔p.1=q.1/\p.2=q.2:=Prod.ext_iff;simp only[aEq,qS8,Ac,UI,aa9,ts3];by_cases a:p.1=q.1
 .by_cases h2:p.2=q.2
  .simp[e,a,h2]
  .simp[e,a,h2]
 .simp[e,a]
def gfP(p:Pr):aci (UI p)=tT:=rfl
def abinP(p q:Pr):mM pG .eql 49 (UI p) (UI q)=Z (.bool (decide (p=q)))/\mM pG .neq 49 (UI p) (UI q)=Z (.bool (!decide (p=q))):=by
 have a:ae3 pG .eql 49 (UI p) (UI q)=match aEq pG 49 (UI p) (UI q)with|some b=>Z (.bool b)|none=>Y:=rfl
 have h2:ae3 pG .neq 49 (UI p) (UI q)=match aEq pG 49 (UI p) (UI q)with|some b=>Z (.bool (!b))|none=>Y:=rfl
 constructor
 .rw[mM,gfP,cond_true,a,eqP]
 .rw[mM,gfP,cond_true,h2,eqP]
def hasB(ps:xLP)(p:Pr):Bool:=ps.any fun q=>decide (q=p)
def hasB_iff(ps:xLP)(p:Pr):hasB ps p=tT↔p∈ps:=by simp[hasB]
theorem abn(u:LA)(v w:vV)(ps a:xLP)(h:aai)(n:PR h v ps)(hw:PR h w a)(A:ps.length<=100000):AC pG u 17 [v,w] h fun x h'=>x=.bool (decide (ps=a))/\h'=h:=by
 refine AC.vE ⟨func17,rfl,WY⟩ ntmps17 results17 fun y=>?_;simp only[Br,seval];have o:=fun g=>n.len g;have lw:=fun g=>hw.len g;by_cases c:(ps.length:Int)=(a.length:Int)
 rotate_left
 .simp only[HO,seval,o,lw,bne,eq_false c];exact⟨by rw[WA (fun e=>c (by rw[e]))],trivial⟩
 have c':ps.length=a.length:=NH;simp only[HO,seval,o,lw,bne,eq_true c];refine lIn (fun k fr hh=>∃i:Nat,k=ps.length-i/\i<=ps.length/\hh=h/\fr=mkF [(0,v),(1,w),(5,i)]/\ps.take i=a.take i) ⟨0,rfl,abe _,rfl,rfl,rfl⟩ ?_;rintro k fr hh-⟨i,rfl,hi,rfl,rfl,s⟩;refine sFa o ?_;refine Kl.intro (fun z=>?_) (fun hf=>?_)
 .have b:i<ps.length:=CC z;have f:=CA b;have j:=CA (show i<a.length by omega);have t1:ps.take (i+1)=ps.take i++[ps[i]]:=EL b;have t:a.take (i+1)=a.take i++[a[i]'(by omega)]:=EL NH
  generalize ps[i]=p at f t1;generalize a[i]'(by omega)=q at j t
  have ad:=n.addr (k:=.i64) i b;have ld:=n.load f;have l:=hw.addr (k:=.i64) i NH;have m:=hw.load j;have d:=(abinP p q).2;refine sSs ?_;refine gh (tA [0,1,2,3,4,5,6,7,8] .done) ?_;cases hb:decide (p=q)with
  |true=>rw[hb]at d;have e:=ail hb;simp only[kS1,aer,aet,ab6,Zm,abr,aa6,acZ,aeb,aec,putDst,flat,kA,kB,Nat.reduceLT,↓reduceIte,kC,Nat.reduceEqDiff,ab0,mM,aci,ae3,adY,aUn,acy,agk,G8,acD,acf,ad7,mkF,Yx,reduceCtorEq,kD,kE,kF,kG,kH,kI,kJ,kK,acW,abt,kD1,Nat.reduceBEq,abj,kL,kM,kN,kO,ad,ld,l,m,d,-mM,aaa i NH];exact lgA NH ⟨i+1,rfl,b,rfl,rfl,by rw[t1,t,s,e]⟩
  |false=>rw[hb]at d;have e:=qL198 hb;simp only[kS1,aer,aet,ab6,Zm,abr,aa6,acZ,aeb,aec,putDst,flat,kA,kB,Nat.reduceLT,↓reduceIte,kC,Nat.reduceEqDiff,ab0,mM,aci,ae3,adY,aUn,acy,agk,G8,acD,acf,ad7,mkF,Yx,reduceCtorEq,kD,kE,kF,kG,kH,kI,kJ,kK,acW,abt,kD1,Nat.reduceBEq,abj,kL,kM,kN,kO,ad,ld,l,m,d,-mM];exact by rw[WA (fun e'=>e hGr)]
 .have r:ps.length<=i:=vp hf;rw[HV r,HV NH]at s;refine sSs ?_;grind
variable {L:RZ} {cl cl':Nat->Nat->Prop} {es:List Pr} {met:II} {on:Nat->Bool} {u v:Nat} {x:Int}
theorem cA(l:List α)(i j:Nat)(a d:α):(l.set i a).getD j d=if i=j/\i<l.length then a else l.getD j d:=hGr
def aV(n:Nat)(es:xLP):Prop:=∀p∈es,0<=p.1/\p.1<p.2/\p.2<(n:Int)
def bX.GD(b:bX ⟨(n:Int),es⟩):aV n es:=fun p a=>by obtain⟨i,hi⟩:=vZ.1 a;exact(b.ok i (Ny.1 hi).1 p hi).1
def Jp(es:xLP)(u w:Nat):Prop:=((u:Int),(w:Int))∈es\/((w:Int),(u:Int))∈es
theorem Jp.symm{es:xLP}{u w:Nat}(h:Jp es u w):Jp es w u:=Or.symm h
theorem Jp.lt(a:aV n es)(h:Jp es u w):u<n/\w<n:=by
 rcases h with h|h<;>have:=a _ h<;>simp only at this<;>omega
theorem bes_step(rows:AM)(p:Pr)(u:Nat)(x:Int)(a:p.1.toNat<rows.length)(h2:p.2.toNat<rows.length):
  x∈(Xs rows p).getD u []↔x∈rows.getD u []\/(p.1.toNat=u/\x=p.2)\/(p.2.toNat=u/\x=p.1):=by
 simp only[Xs,cA,Yq];grind
theorem FH(n:Nat):∀(es:xLP)(rows:AM),rows.length=n->aV n es->∀(u:Nat)(x:Int),x∈(es.foldl Xs rows).getD u []↔x∈rows.getD u []\/∃p∈es,(p.1.toNat=u/\x=p.2)\/(p.2.toNat=u/\x=p.1)
 |[],rows,_,_,u,x=>by simp
 |p::es,rows,c,a,u,x=>by have d:=a p Ma;rw[Dj,FH n es _ (by grind[pO]) (fun q b=>a q (by simp[b])) u x,bes_step rows p u x NH NH];grind
theorem EW(d:aV n es)(u w:Nat):(w:Int)∈(Zh n es).getD u []↔Jp es u w:=by
 have c:(rP n ([]:RZ)).getD u []=[]:=hGr;rw[Zh,FH n es _ Ma d,c];simp only[Qn,false_or,Jp];constructor
 .rintro⟨⟨a,b⟩,e,⟨f,h2⟩|⟨f,h2⟩⟩
  .have:=d _ e;grind
  .have:=d _ e;grind
 grind
theorem Ru(b:aV n es)(c:x∈(Zh n es).getD u []):∃w:Nat,x=(w:Int)/\w<n:=by
 have a:(rP n ([]:RZ)).getD u []=[]:=hGr;rw[Zh,FH n es _ Ma b,a]at c;simp only[Qn,false_or]at c;obtain⟨p,d,⟨_,rfl⟩|⟨_,rfl⟩⟩:=c
 .have:=b _ d;exact⟨p.2.toNat,NH,NH⟩
 .have:=b _ d;exact⟨p.1.toNat,NH,NH⟩
inductive Cn (on:Nat->Bool) (es:xLP):Nat->Nat->Prop
 |refl {u:Nat}:on u=fF->Cn on es u u
 |step {u w x:Nat}:Cn on es u w->Jp es w x->on x=fF->Cn on es u x
theorem Cn.off1(h:Cn on es u w):on u=fF:=by
 induction h with
 |refl h=>exact h
 |step _ _ _ a=>exact a
theorem Cn.AB(h:Cn on es u w):on w=fF:=by
 cases h<;>grind
theorem Cn.trans{u w x:Nat}(h:Cn on es u w)(k:Cn on es w x):Cn on es u x:=by
 induction k with
 |refl _=>exact h
 |step _ a o b=>exact b.step a o
theorem Cn.symm{on:Nat->Bool}{es:xLP}{u w:Nat}(h:Cn on es u w):Cn on es w u:=by
 induction h with
 |refl h=>exact .refl h
 |step h a o b=>exact((Cn.refl o).step a.symm h.AB).trans b
structure TO (n:Nat) (on:Nat->Bool) (es:xLP) (v:Nat) (L:RZ):Prop where
 len:L.length=n
 val:∀(u:Nat) l,L[u]?=Z l->l=-1\/on u=fF/\∃k:Nat,k<v/\l=(k:Int)/\Cn on es k u
 qi:∀(u w:Nat) l,L[u]?=Z l->0<=l->Jp es u w->on w=fF->L[w]?=Z l
 low:∀u,u<v->u<n->on u=fF->L[u]?≠Z (-1)
structure TI (n:Nat) (on:Nat->Bool) (es:xLP) (v:Nat) (L:RZ) (met:II) (cl:Nat->Nat->Prop):Prop where
 len:L.length=n
 val:∀(u:Nat) l,L[u]?=Z l->l=-1\/on u=fF/\∃k:Nat,k<=v/\l=(k:Int)/\Cn on es k u
 qi:∀(u w:Nat) l,L[u]?=Z l->0<=l->l<(v:Int)->Jp es u w->on w=fF->L[w]?=Z l
 low:∀u,u<=v->u<n->on u=fF->L[u]?≠Z (-1)
 mm:∀u,u∈met↔L[u]?=Z (v:Int)
 nd:met.Nodup
 cl:∀u w,cl u w->L[w]?=Z (v:Int)
theorem TO.start(n:Nat)(on:Nat->Bool)(es:xLP):TO n on es 0 (rP n (-1)):=⟨Ma,fun u l h=>.inl (qL174 (BS h)),fun u w l h a=>by grind,fun u h=>by omega⟩
theorem TO.skip(t:TO n on es v L)(h:on v=tT\/L[v]?≠Z (-1)):TO n on es (v+1) L:=⟨t.len,fun u l a=>(t.val u l a).imp id fun⟨b,k,h2,h3⟩=>⟨b,k,NH,h3⟩,t.qi,fun u c d e=>by grind[TO.low]⟩
theorem TO.begin(t:TO n on es v L)(j:v<n)(c:on v=fF)(k:L[v]?=Z (-1))(cl:Nat->Nat->Prop)(b:∀u w,¬cl u w):TI n on es v (L.set v (v:Int)) [v] cl:=by
 have d:v<L.length:=hGr;have f:∀u,u≠v->(L.set v (v:Int))[u]?=L[u]?:=fun u g=>by grind
 have heq:(L.set v (v:Int))[v]?=Z (v:Int):=hGr;refine⟨by simp[t.len],fun u l a=>?_,fun u w l a m o ha hw=>?_,fun u g p i=>?_,fun u=>?_,Ma,fun u w h=>absurd h (b u w)⟩
 .by_cases e:u=v
  .subst e;rw[heq]at a;injection a with a;exact .inr ⟨c,u,qL0 _,a.symm,.refl c⟩
  grind[TO.val]
 .grind[TO.qi]
 .grind[TO.low]
 grind[TO.val]
theorem TI.mono(t:TI n on es v L met cl)(h:∀u w,cl' u w->cl u w):TI n on es v L met cl':=⟨t.len,t.val,t.qi,t.low,t.mm,t.nd,fun u w k=>t.cl u w (h u w k)⟩
theorem TI.off(t:TI n on es v L met cl)(a:u∈met):on u=fF/\Cn on es v u:=by
 rcases t.val u _ ((t.mm u).1 a)with h|⟨h,k,_,h2,h3⟩
 all_goals grind
theorem TI.stay(t:TI n on es v L met cl)(f:u∈met)(ha:Jp es u w)(c:∃l,L[w]?=Z l/\l≠-1)(h:∀a b,cl' a b->cl a b\/b=w):TI n on es v L met cl':=by
 refine⟨t.len,t.val,t.qi,t.low,t.mm,t.nd,fun a b k=>?_⟩;rcases h a b k with h|rfl
 .exact t.cl a b h
 .obtain⟨l,d,g⟩:=c;rcases t.val _ _ d with h'|⟨i,k,j,rfl,_⟩
  .grind
  .by_cases e:k=v
   .grind
   .have:=t.qi b u (k:Int) d NH NH ha.symm (t.off f).1;grind[TI.mm]
theorem TI.push(t:TI n on es v L met cl)(g:u∈met)(ha:Jp es u w)(c:on w=fF)(f:L[w]?=Z (-1))(h:∀a b,cl' a b->cl a b\/b=w):
  TI n on es v (L.set w (v:Int)) (met++[w]) cl':=by
 have i:w<L.length:=(Ny.1 f).1;have j:∀x,x≠w->(L.set w (v:Int))[x]?=L[x]?:=fun x m=>by grind
 have heq:(L.set w (v:Int))[w]?=Z (v:Int):=hGr;have o:w∉met:=fun h=>by grind[TI.mm]
 refine⟨by simp[t.len],fun x l d=>?_,fun x y l d r s p z=>?_,fun x m A q=>?_,fun x=>?_,?_,fun a b k=>?_⟩
 .by_cases e:x=w
  .subst e;rw[heq]at d;injection d with d;exact .inr ⟨c,v,qL0 _,d.symm,(t.off g).2.step ha c⟩
  grind[TI.val]
 .grind[TI.qi]
 .grind[TI.low]
 .grind[TI.mm]
 .grind[TI.nd]
 .rcases h a b k with h|rfl
  .have:=t.cl a b h;grind
  .exact heq
theorem TI.finish(t:TI n on es v L met cl)(h:∀u w,u∈met->Jp es u w->on w=fF->cl u w):TO n on es (v+1) L:=by
 refine⟨t.len,fun u l a=>(t.val u l a).imp id fun⟨b,k,h2,h3⟩=>⟨b,k,NH,h3⟩,fun u w l a d ha hw=>?_,fun u f g c=>?_⟩
 .rcases t.val u l a with h'|⟨b,k,h2,rfl,_⟩
  .omega
  .by_cases e:k=v
   .subst e;exact t.cl u w (h u w ((t.mm u).2 a) ha hw)
   grind[TI.qi]
 grind[TI.low]
theorem TI.abP(t:TI n on es v L met cl):met.length<=n:=by
 have hs:met⊆rG n:=fun u a=>by have:=(Ny.1 ((t.mm u).1 a)).1;grind[TI.len]
 have:=t.nd.length_le_of_subset hs;grind
structure wx (n:Nat) (on:Nat->Bool) (es:xLP) (L:RZ):Prop where
 len:L.length=n
 off:∀u,u<n->on u=fF->∃k:Nat,k<n/\L[u]?=Z (k:Int)/\Cn on es k u
 same:∀u w,u<n->w<n->on u=fF->on w=fF->(L[u]?=L[w]?↔Cn on es u w)
theorem TO.done(d:aV n es)(t:TO n on es n L):wx n on es L:=by
 have off:∀u,u<n->on u=fF->∃k:Nat,k<n/\L[u]?=Z (k:Int)/\Cn on es k u:=fun u a f=>by grind[TO.len,TO.val,TO.low]
 refine⟨t.len,off,fun u w a hw g b=>⟨fun e=>?_,fun c=>?_⟩⟩
 .grind[Cn.symm,Cn.trans]
 .clear hw b
  induction c<;>grind[TO.qi]
end
end Go.Fw
