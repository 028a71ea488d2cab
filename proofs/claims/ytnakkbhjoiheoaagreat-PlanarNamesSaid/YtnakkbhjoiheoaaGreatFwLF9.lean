/- A text. -/
import Derived.Test.YtnakkbhjoiheoaaGreatFwLF2
set_option linter.all false
set_option maxRecDepth 99999
set_option maxHeartbeats 9999999
open Go.Proofs
open Option renaming some→Z,none→Y
open Bool renaming true→tT,false→fF
open List renaming range→rG
open Go.Value renaming slice→sL,pointer→pT
open Go renaming Value→vV
open Go.Proofs.Tryz renaming prog→pG
open Go.Proofs.Tryz
open List
namespace Go.Fw
section
attribute [local instance] Classical.propDecidable
attribute [local irreducible] Kp MQ lU KO1 KO KN KX KE VK Kl ZJ TC aab
variable {b0 h:aai} {i w:Nat} {rows:AM} {us:List Value}
theorem Rows.put{L:Nat}(R:Rows b0 h L us rows)(k:WF h){u:vV}{r:RZ}(j:us[w]?=Z u)(l:rows[w]?=Z r)(hi:i<r.length)(x:Int):
  ∃h',aaK pG h 3 (pT (Z (aaq u i))) x=Z h'/\Rows b0 h' L us (rows.set w (r.set i x))/\WF h'/\(∀f,Le f h->Z2 f u->Le f h')/\(∀b o,h.own b=Z o->blk u≠Z b->h'.own b=Z o):=by
 have⟨h',e,g,wf,m,keep⟩:=GI.store (show GI h u r from R.gs w u r j l) k hi x;refine⟨h',e,⟨keep _ _ R.oL (R.nL w u j),by grind[Rows.len],fun v a q ha d=>?_,R.nL,R.TE,R.ap,m _ R.le (R.ap w u j),R.bL⟩,wf,m,keep⟩;rw[K4]at d;by_cases c:w=v
 .subst c;rw[Sb rfl,Sb (Ny.1 l).1]at d;injection d with d;subst d;rw[j]at ha;injection ha with ha;subst ha;exact g
 .rw[WA c]at d;refine(R.gs v a q ha d).kept fun b o hb n=>keep b o n fun sZ=>R.TE w v u a b c j ha sZ hb
theorem OS(l:LA)(v:vV)(xs:RZ)(y:Int)(h:aai)(d:RL RP h v xs)(s:xs.length<=100000):AC pG l 101 [v,.int .i64 y] h fun x h'=>((x=.int .i64 (-1)/\y∉xs)\/∃i,∃hi:i<xs.length,x=.int .i64 (i:Nat)/\xs[i]=y/\∀j (b:j<i),xs[j]≠y)/\h'=h:=by
 refine AC.vF qS34 ntmps101 results101 fun m=>?_;have n:=fun g=>d.TA g;refine Sk n ?_;refine lIn (fun k fr e=>∃i,k=xs.length-i/\i<=xs.length/\fr=mkF [(0,v),(1,.int .i64 y),(7,.int .i64 xs.length),(8,.int .i64 i)]/\e=h/\∀j (b:j<xs.length),j<i->xs[j]≠y) ⟨0,rfl,aax _,rfl,rfl,fun j _ b=>absurd b (aeA _)⟩ ?_;rintro k fr e o ⟨i,rfl,hi,rfl,rfl,p⟩;refine Uy ?_;refine Kl.intro (fun f=>?_) (fun hf=>?_)
 .have a:i<xs.length:=acb f;clear f;have ad:=d.DH i a;have ld:=d.Uc i a;have hw:=aaa i NH;by_cases c:y=xs[i]
  .simp only[HO,seval,ad,ld,Z6 c];grind
  .simp only[HO,seval,ad,ld,IE c,hw];refine lgA (JS a) ⟨i+1,rfl,a,rfl,rfl,fun j b q=>?_⟩;grind
 .have r:xs.length<=i:=vp hf;refine Uy ?_;grind[mem_iff_getElem]
theorem W3(b:LA)(v:vV)(xs:RZ)(y:Int)(h:aai)(c:RL RP h v xs)(e:xs.length<=100000):AC pG b 77 [v,y] h fun x h'=>x=.bool (decide (y∈xs))/\h'=h:=by
 refine AC.vF func77 ntmps77 results77 fun f=>?_;refine Uy ?_;refine kCi qS34 (OS b v xs y h c e) ?_;rintro x h2 w2 ⟨⟨rfl,a⟩|⟨i,hi,rfl,a,-⟩,rfl⟩
 .have d:decide ((-1:Int)>=0)=fF:=by decide
  simp only[HO,seval,d,IE a];grind
 .have d:decide ((i:Int)>=0)=tT:=by simp
  have g:y∈xs:=a▸aev hi;simp only[HO,seval,d,Z6 g];grind
end
variable {es:List Pr} {n:Nat} {rs:AM}
attribute [local instance] Classical.propDecidable in
theorem vS{n:Nat}{es:xLP}{rs:AM}(c:aV n es)(ha:D3 es)(G:Av n es rs)(d:0<n)(k:∀v,v<n->Pu es 0 v):
  z8 n es rs↔(0<es.length->n+(IN n rs).length=es.length+2):=by
 have all:∀a,a<n->Gn es es a=es.length/\(Ic n es a).length=n/\sA es (IN n rs) a=(IN n rs).length:=fun a g=>by
  have i:∀v,v<n->Pu es a v:=by grind[Cn.symm,Cn.trans]
  refine⟨?_,?_,?_⟩
  .unfold Gn VF;rw[FD.2];intro e j;have h:=c e j;grind
  .grind[Ic,filter_eq_self]
  .unfold sA VF;rw[FD.2];intro f hf;have⟨_,v,l,e⟩:=Uj c ha G hf;grind
 constructor
 .intro H m;have⟨a,b,_⟩:=B6 c 0 d;have⟨o,p,e3⟩:=all a (QO.1 b).1;have:=H a b hGr;grind
 .intro H a b;grind[QO]
theorem rotG_of(h:rs.length=n)(d:(rG n).all (fun v=>(rs.getD v []).isPerm ((Zh n es).getD v []))=tT):Av n es rs:=⟨h,(by grind[isPerm_iff])⟩
theorem X9(a:bX ⟨(n:Int),es⟩)(G:Av n es rs){hs:List (H8×Nat)}(C:Cert n (Xl rs) hs):IN n rs=hs.map fun p=>(rG p.2).map fun j=>(((it (Nv (Xl rs)) j p.1).1:Nat):Int):=by rw[IN,Fs (G.jD a.GD a.q9) C,Lm];grind[map_congr_left,kz]
instance (n:Nat) (r:Nat->II) (hs:List (H8×Nat)):Decidable (Cert n r hs):=by unfold Cert;infer_instance
section
attribute [local irreducible] Kp MQ lU KO1 KO KN KX KE VK Kl ZJ TC aab
variable {B M T i:Nat} {h:aai} {rows:AM}
def afu{l:List (Pr×Int)}(i:h.own M=Z (.map (wy l)))(k:Pr):∃(j:Nat)(l1:List (Pr×Int)),
  ad9 pG h 74 (.map (Z M)) (UI k)=Z (.tuple #[.int .i64 ((abo l k).getD 0),.int .i64 (j:Int)],h.put M (.map (wy l1)))/\(abo l1 k).getD 0=(abo l k).getD 0/\
  ∀v:Int,acT (h.put M (.map (wy l1))) (.map (Z M)) (.int .i64 (j:Int)) (.int .i64 v)=Z ((h.put M (.map (wy l1))).put M (.map (wy (acs l k v)))):=by
 have m:acd pG 3=Z (.int .i64 0):=Ji;have hf:=ady k l 0;have hd:∀v:Int,_:=fun v=>Ek l k v;rcases Ek l k 0 with⟨a,n⟩|⟨j,b,a,h2,h3,n⟩
 .have d:=hf.1 a;refine⟨l.length,l++[(k,0)],?_,?_,fun v=>?_⟩
  .simp only[ad9,qS18,keyP,i,m,if_true,d,show flat (.int .i64 0)=tT from rfl,a];simp[wy]
  .rw[<-n,XR,Sb rfl,a];rfl
  .have hs:acs l k v=l++[(k,v)]:=by
    rcases hd v with⟨_,e⟩|⟨j,b,e,_⟩
    .exact e
    .rw[a]at e;cases e
   have f:(0:Int)<=(l.length:Int):=NH;simp only[acT,aai.Y3,f,if_true,yM];rw[hs];simp[wy]
 .have c:=hf.2 j b h2 h3;rw[EL]at c;refine⟨j,l,?_,rfl,fun v=>?_⟩
  .simp only[ad9,qS18,keyP,i,m,if_true,c,a,aj9]
  .have hs:acs l k v=l.set j (k,v):=by
    rcases hd v with⟨e,_⟩|⟨g,s,e,o,p,r⟩
    .rw[a]at e;cases e
    .have:g=j:=by
      rcases adQ g j with q|q|q
      .exact absurd rfl (h3 g q _ o)
      .exact q
      .exact absurd rfl (p j q _ h2)
     rw[r,this]
   have f:(0:Int)<=(j:Int):=NH;have hg:(wy l)[j]?=Z (UI k,.int .i64 b):=by simp[wy,h2]
   simp only[acT,aai.Y3,f,if_true,yM,hg];rw[hs];simp[wy,ak3]
def bX.n200(a:bX ⟨(n:Int),es⟩):n<=200:=by have:(n:Int)<=200:=a.n1;omega
def stKI{x:vV}(o:h.own T=Z (.cells [x]))(y:Int):aaK pG h 3 (pT (Z T)) y=Z (h.put T (.cells [y])):=QB Ac Ji o Nat.zero_lt_one rfl rfl
def ldKI{x:Int}(o:h.own T=Z (.cells [x])):aaC pG h 3 ⟨T,0,Y⟩=Z (.int .i64 x):=by rw[Fq Ac rfl o];rfl
def ldKR{a:vV}(o:h.own B=Z (.cells [a])):aaC pG h 25 ⟨B,0,Y⟩=Z a:=by rw[Fq qS8 rfl o];rfl
def other_any(V:LA)(T B:Nat)(Q:vV)(s c v:Nat)(t h:aai)(oT:h.own T=Z (.cells [(s:Nat)]))(oB:h.own B=Z (.cells [Q]))(F:B≠T)(hb:RL (RL RP) t Q (Zh n es))(l0:Le t h)(nT:t.own T=Y)(G:bX ⟨(n:Int),es⟩)(R:Jp es c v)(W:((Zh n es).getD c []).length≠2)(hs:s<=100000000):
  AC pG V 76 [(c:Nat),(v:Nat),pT (Z T),pT (Z B)] h fun x h'=>x=.int .i64 ((aal (Zh n es) (c,v)).1:Nat)/\h'.own T=Z (.cells [.int .i64 ((s+((aal (Zh n es) (c,v)).2+1):Nat):Int)])/\Le t h'/\∀b o,b≠T->h.own b=Z o->h'.own b=Z o:=by
 have hR:=G.GD;have hA:D3 es:=G.q9;have⟨K,hK,h2,h3,X⟩:=ahL hR hA G.n200 R W;rw[X];have H:=aa7 hR hA (d:=(c,v)) R;have rt:=fun v=>abg hR hA (v:=v);have bl:=Xq n es;have bn:∀{x y},Jp es x y->y<n:=fun a=>(a.lt hR).2;generalize Zh n es=rows at*;refine AC.vF func76 ntmps76 results76 fun w=>?_;have z:=ldKI oT;have A:=stKI oT ((s+1:Nat):Int);have C:=aaa s NH;refine Sk (Yb z C A) ?_;have w1:WF (h.put T (.cells [((s+1:Nat):Int)])):=w.put _ (w.lt oT);refine aab.intro (fun k fr j=>∃i:Nat,k=K-i/\i<=K/\fr=mkF [(1,.int .i64 ((it (goS rows) i (c,v)).2:Nat)),(2,pT (Z T)),(3,pT (Z B)),(7,.int .i64 ((it (goS rows) i (c,v)).1:Nat))]/\
   j.own T=Z (.cells [((s+1+i:Nat):Int)])/\Le t j/\∀b o,b≠T->h.own b=Z o->j.own b=Z o)
  K [(1,(v:Nat)),(2,pT (Z T)),(3,pT (Z B)),(7,(c:Nat))] fD
  ⟨0,rfl,aax _,rfl,aai.Y3 _ _ _,l0.put _ nT,fun b o hb I=>by rw[aai.By _ _ _ _ hb];exact I⟩ ?_
 clear w1 A z C oT;rintro k fr j aa ⟨i,rfl,hi,rfl,oT,p,J⟩;have lB:=ldKR (J B _ F oB);have ha:=H i fun q j=>h2 q NH;generalize e:it (goS rows) i (c,v)=d at*;have l:d.2<rows.length:=by rw[bl];exact bn ha
 have L:=hb.Wm d.2 l;have⟨u,M,r⟩:=hb.NS d.2 l;have lu:=M j p;have gd:rows.getD d.2 []=rows[d.2]:=D4 l;have ln:=fun g=>r.TA g;have S:=ldKI oT;have st:=stKI oT ((s+1+(i+1):Nat):Int);have aw:=aaa (s+1+i) NH;rw[qL259 (s+1) i 1]at aw;by_cases c2:(rows.getD d.2 []).length=2
 rotate_left
 .have f:i=K:=by
   rcases aeP i K with q|q
   .have:=h2 i q;rw[e]at this;exact absurd this c2
   .omega
  subst f;have d2:decide ((rows[d.2].length:Int)=2)=fF:=IE (by rw[gd]at c2;omega);rw[e];simp only[HO,seval,lB,L,lu,ln,d2];have e1:s+1+i=s+(i+1):=NH;rw[e1]at oT;exact⟨trivial,oT,p,J⟩
 have f:i<K:=by
  rcases aeP i K with q|q
  .exact q
  .obtain rfl:i=K:=NH;rw[e]at h3;exact absurd c2 h3
 have⟨a,b,N,ne,h4,h5,h6⟩:=rt d.2 c2;have D:it (goS rows) (i+1) (c,v)=goS rows d:=by rw[<-e];rfl
 have gs:goS rows d=(d.2,if(a:Int)=(d.1:Int)then b else a):=by unfold goS;rw[N];simp only[ak8,alN];split<;>simp
 rw[gd]at N;rw[N]at r ln;have d2:decide ((([(a:Int),(b:Int)]:RZ).length:Int)=2)=tT:=by simp
 have O:=r.DH 0 Ma;have a1:=r.DH 1 Ma;have m:=(r.le Nn.RP p).Uc 0 Ma;have E:=(r.le Nn.RP p).Uc 1 Ma;simp only[qL248,getElem_cons_succ]at m E;simp only[ak6]at O a1;have U:∀b o,b≠T->h.own b=Z o->(j.put T (.cells [.int .i64 ((s+1+(i+1):Nat):Int)])).own b=Z o:=fun b o hb I=>by rw[aai.By _ _ _ _ hb];exact J b o hb I
 by_cases ca:(a:Int)=(d.1:Int)
 .have P:decide ((a:Int)=(d.1:Int))=tT:=Z6 ca;rw[Sb ca]at gs;simp only[HO,seval,lB,L,lu,ln,d2,O,m,P,a1,E,S,aw,st];exact tn (K-(i+1)) [(1,(b:Nat)),(2,pT (Z T)),(3,pT (Z B)),(7,(d.2:Nat))] NH fD
   ⟨i+1,rfl,f,by rw[D,gs];rfl,aai.Y3 _ _ _,p.put _ nT,U⟩
 .have P:decide ((a:Int)=(d.1:Int))=fF:=IE ca;rw[WA ca]at gs;simp only[HO,seval,lB,L,lu,ln,d2,O,m,P,S,aw,st];exact tn (K-(i+1)) [(1,(a:Nat)),(2,pT (Z T)),(3,pT (Z B)),(7,(d.2:Nat))] NH fD
   ⟨i+1,rfl,f,by rw[D,gs];rfl,aai.Y3 _ _ _,p.put _ nT,U⟩
def aen(rows:AM)(D:List (Nat×Nat)):Nat:=(D.map fun d=>(aal rows d).2+1).sum
structure StrOK (rows:AM) (D:List (Nat×Nat)) (hq:aai) (M T B:Nat) (rv:vV) (l:List (Pr×Int)):Prop where
 oM:hq.own M=Z (.map (wy l))
 oT:hq.own T=Z (.cells [(aen rows D:Nat)])
 oB:hq.own B=Z (.cells [rv])
 OT:∀p,(abo l p).getD 0=(((D.map (aaH rows)).count p:Nat):Int)
def strS_le{D:List (Nat×Nat)}(h:∀d∈D,(aal rows d).2<=40000):aen rows D<=40001*D.length:=by
 induction D with
 |nil=>simp[aen]
 |cons d D a=>have c:=h d Ma;have h2:=a fun e b=>h e (by simp[b]);simp only[aen,AQ,ahe,Vn]at*;omega
def strS_snoc(rows:AM)(D:List (Nat×Nat))(d:Nat×Nat):aen rows (D++[d])=aen rows D+((aal rows d).2+1):=by simp[aen]
def strD_take{cs:II}(h:i<cs.length):aaj rows (cs.take (i+1))=aaj rows (cs.take i)++(rows.getD cs[i] []).map fun x=>(cs[i],x.toNat):=by unfold aaj;rw[XJ h,qL212];simp only[y5,flatMap_nil,ag1]
def afv(W0:LA)(C cv:vV)(cs:II)(h:aai)(hb:RL (RL RP) h C (Zh n es))(J:RL RP h cv (kz cs))(hr:bX ⟨(n:Int),es⟩)(hc:∀c∈cs,c<n/\((Zh n es).getD c []).length≠2)(hl:(aaj (Zh n es) cs).length<=1000)(b4:cs.length<=1000):
  AC pG W0 46 [C,cv] h fun x h'=>∃(M:Nat)(l:List (Pr×Int)),x=.tuple #[.map (Z M),(aaU (Zh n es) cs:Nat)]/\h'.own M=Z (.map (wy l))/\(∀p,(abo l p).getD 0=(aaI (Zh n es) cs p:Int))/\Le h h':=by
 have hR:=hr.GD;have hA:D3 es:=hr.q9;have Wn:=fun c v=>ahL hR hA hr.n200 (c:=c) (v:=v);have f:=fun(T B:Nat)(s c v:Nat)(g:aai) a1 a2 a3 a4 a5 a6 a7 a8=>other_any W0 T B C s c v h g a1 a2 a3 hb a4 a5 hr a6 a7 a8;have bl:=Xq n es;have bm:=EW hR;have bN:=fun u x=>Ru hR (u:=u) (x:=x);generalize Zh n es=rows at*;refine AC.vF func46 ntmps46 results46 fun ae=>?_;have⟨m,e1,l1,w1,o1⟩:=Tt ae [C]
 have bx:zF h C=Z (pT (Z h.next),m):=by obtain⟨a,c,rfl,_⟩:=hb.sl;rw[<-e1];rfl
 have⟨h2,e2,l2,w2,o2⟩:=Tt w1 [.int .i64 0]
 have al:abO pG m 3=Z (pT (Z m.next),h2):=by rw[<-e2];rfl
 have ai:=stKI o2 0
 have nB:h.own h.next=Y:=(Le.refl h).next ae (qL0 _)
 have z:m.own m.next=Y:=(Le.refl m).next w1 (qL0 _)
 have nT:=l1.none z
 have aj:h.next≠m.next:=fun e=>by rw[<-e,o1]at z;cases z
 have E:Le m (h2.put m.next (.cells [.int .i64 0])):=l2.put _ z
 have L:WF (h2.put m.next (.cells [.int .i64 0])):=w2.put _ (w2.lt o2)
 have N:=aai.Y3 h2 m.next (.cells [.int .i64 0])
 generalize h2.put m.next (.cells [.int .i64 0])=y at*
 obtain⟨g3,e3,l3,w3,o3⟩:∃g3,y.alloc (.map [])=g3/\Le y g3/\WF g3/\g3.own y.next=Z (.map []):=⟨_,rfl,(Le.refl y).alloc L _,L.alloc _,aai.zT _ _⟩
 have o:y.own y.next=Y:=(Le.refl y).next L (qL0 _)
 have nM:h.own y.next=Y:=(l1.trans E).none o
 have A:m.next≠y.next:=fun e=>by rw[<-e,N]at o;cases o
 have G:h.next≠y.next:=fun e=>by rw[<-e,E.own _ _ o1]at o;cases o
 have ln:=fun g=>J.TA g;rw[y6]at ln;simp only[HO,seval,bx,al,ai,e3,ln]
 have S0:StrOK rows (aaj rows (cs.take 0)) g3 y.next m.next h.next C []:=⟨o3,l3.own _ _ N,l3.own _ _ (E.own _ _ o1),fun p=>rfl⟩
 have aq:=(l1.trans E).trans l3
 generalize h.next=B at*
 generalize m.next=T at*
 generalize y.next=M at*
 clear e3 o3 o N ai z al e2 bx e1 o1 o2 l2 w2 l1 w1;refine lIn (fun k fr hq=>∃(i:Nat)(l:List (Pr×Int)),k=cs.length-i/\i<=cs.length/\fr=mkF [(2,pT (Z B)),(6,pT (Z T)),(7,.func (.func 76) #[] #[pT (Z T),pT (Z B)]),(8,.map (Z M)),(16,cv),(17,.int .i64 cs.length),(18,.int .i64 i)]/\StrOK rows (aaj rows (cs.take i)) hq M T B C l/\Le h hq) ⟨0,[],rfl,aax _,rfl,S0,aq⟩ ?_;clear S0 aq l3 w3;rintro k fr hq aT ⟨i,l,rfl,hi,rfl,S,lq⟩;refine Uy ?_;refine Kl.intro (fun ht=>?_) (fun hf=>?_)
 rotate_left
 .have O:cs.length<=i:=vp hf;rw[abe O]at S;have lT:=ldKI S.oT;refine Uy ?_;refine gh (tA [0,1,2,3] .done) ?_;refine CO lT ?_;exact⟨M,l,rfl,S.oM,S.OT,lq⟩
 have b:i<cs.length:=acb ht;clear ht;have⟨aW,P⟩:=hc cs[i] (aev b);have Q:cs[i]<rows.length:=by rw[bl];exact aW
 have av:∀i,i<=cs.length->(aaj rows (cs.take i)).length<=(aaj rows cs).length:=fun i _=>by
  have:aaj rows cs=aaj rows (cs.take i)++aaj rows (cs.drop i):=by rw[aaj,aaj,aaj,<-qL212,qL79]
  rw[this,aaf];omega
 have R:=strD_take (rows:=rows) b;have U:=av (i+1) b;have aX:∀d∈aaj rows (cs.take i),(aal rows d).2<=40000:=fun d hd=>by simp only[aaj,KG,si]at hd;obtain⟨c,bb,x,V,rfl⟩:=hd;obtain⟨w,rfl,_⟩:=bN c x V;obtain⟨K,k1,-,-,k2⟩:=Wn c w ((bm c w).1 V) (hc c (akM bb)).2;rw[yM,k2];exact k1
 have adc:=J.DH i (by rw[y6];exact b);have W:=(J.le Nn.RP lq).Uc i (by rw[y6];exact b);rw[sY b]at W;generalize cs[i]=c at*;have ar:=hb.Wm c Q;have⟨u,ay,hu⟩:=hb.NS c Q;have lu:=ay hq lq;have gd:rows.getD c []=rows[c]:=D4 Q;have bg:=fun g=>hu.TA g;have X:∀x∈rows.getD c [],∃w:Nat,x=(w:Int)/\Jp es c w:=fun x V=>by obtain⟨w,rfl,_⟩:=bN c x V;exact⟨w,rfl,(bm c w).1 V⟩
 rw[R]at U;rw[gd]at R X U;have f:=fun s v g a1 a2 a4 a6 a8=>f T B s c v g a1 a2 aj a4 nT a6 P a8;have Wn:=fun v a=>Wn c v a P;clear P ay;generalize rows[c]=r at*;have lB:=ldKR S.oB;have bh:=aaa i NH;simp only[HO,seval,adc,W,lB,ar,lu,bg];simp only[aaf,vg]at U;have b5:r.length<=1000:=NH;refine lIn (fun k fr hz=>∃(j:Nat)(l:List (Pr×Int)),k=r.length-j/\j<=r.length/\fr=mkF [(2,pT (Z B)),(6,pT (Z T)),(7,.func (.func 76) #[] #[pT (Z T),pT (Z B)]),(8,.map (Z M)),(10,(c:Nat)),(16,cv),(17,.int .i64 cs.length),(18,.int .i64 i),(25,u),(26,r.length),(27,j)]/\StrOK rows (aaj rows (cs.take i)++(r.take j).map fun x=>(c,x.toNat)) hz M T B C l/\Le h hz) ⟨0,l,rfl,aax _,rfl,by simpa using S,lq⟩ ?_;clear S lq lu lB W;clear aT hq l;rintro k fr hz b6 ⟨j,l,rfl,hj,rfl,S,lz⟩;refine Uy ?_;refine Kl.intro (fun ht=>?_) (fun hf=>?_)
 rotate_left
 .have O:r.length<=j:=vp hf;rw[abe O,<-R]at S;refine Sk bh ?_;exact lgA (JS b) ⟨i+1,l,rfl,b,rfl,S,lz⟩
 have t:j<r.length:=acb ht;clear ht;have⟨v,az,aC⟩:=X r[j] (aev t);have bk:=hu.DH j t;have aD:=(hu.le Nn.RP lz).Uc j t;have aF:(r.take (j+1)).map (fun x=>(c,x.toNat))=(r.take j).map (fun x=>(c,x.toNat))++[(c,v)]:=by rw[XJ t,abZ,az];simp
 rw[az]at aD;have b8:(aaj rows (cs.take i)++(r.take j).map fun x=>(c,x.toNat)).length<=1000:=by simp only[aaf,vg,zx];omega
 have bo:∀d∈aaj rows (cs.take i)++(r.take j).map (fun x=>(c,x.toNat)),(aal rows d).2<=40000:=fun d hd=>by
  rcases vZ.1 hd with q|q
  .exact aX d q
  .obtain⟨x,V,rfl⟩:=si.1 q;obtain⟨w,rfl,ha⟩:=X x (akM V);obtain⟨K,k1,-,-,k2⟩:=Wn w ha;rw[yM,k2];exact k1
 have b9:=strS_le bo;have aH:=strS_snoc rows (aaj rows (cs.take i)++(r.take j).map fun x=>(c,x.toNat)) (c,v);rw[ah6,<-aF]at aH;have aJ:=fun p=>List.count_le_length (a:=p) (l:=(aaj rows (cs.take i)++(r.take j).map fun x=>(c,x.toNat)).map (aaH rows));have br:(aaj rows (cs.take i)++(r.take (j+1)).map fun x=>(c,x.toNat)).map (aaH rows)=(aaj rows (cs.take i)++(r.take j).map fun x=>(c,x.toNat)).map (aaH rows)++[aaH rows (c,v)]:=by rw[aF,<-ah6,abZ];rfl
 generalize aaj rows (cs.take i)++(r.take j).map (fun x=>(c,x.toNat))=D at*;generalize bB:aaj rows (cs.take i)++(r.take (j+1)).map (fun x=>(c,x.toNat))=D1 at*;refine Sk (XC bk aD) ?_;refine kCi func76 (f (aen rows D) v hz S.oT S.oB lz aC NH) ?_;rintro x H w9 ⟨rfl,bF,l9,kp⟩;have F:=kp M _ A.symm S.oM;have bH:=kp B _ aj S.oB;have hE:aaH rows (c,v)=(min (c:Int) ((aal rows (c,v)).1:Int),max (c:Int) ((aal rows (c,v)).1:Int)):=rfl;generalize aal rows (c,v)=od at*;generalize aaH rows (c,v)=p at*;have⟨jj,I,aK,bI,bQ⟩:=afu F p;have aL:=SA F p;have aN:=aai.Y3 H M (.map (wy I));have aa:=SA aN p;rw[bI]at aa;have cp:=S.OT p;have aP:=aJ p;rw[vg]at aP;rw[cp]at aL aa aK;have bW:=aaa ((D.map (aaH rows)).count p) NH;have bY:=bQ (((D.map (aaH rows)).count p+1:Nat):Int);have mn:=Dv (c:Int) (od.1:Int);have mx:=z6 (c:Int) (od.1:Int);have bZ:acB pG 49 [(0,.int .i64 (min (c:Int) (od.1:Int))),(1,.int .i64 (max (c:Int) (od.1:Int)))]=Z (UI p):=by rw[hE];exact xe _ _
 have b0:=aaa j NH;have b1:=aai.Y3 (H.put M (.map (wy I))) M (.map (wy (acs l p (((D.map (aaH rows)).count p+1:Nat):Int))));have lb:Le h ((H.put M (.map (wy I))).put M (.map (wy (acs l p (((D.map (aaH rows)).count p+1:Nat):Int))))):=(l9.put _ nM).put _ nM;have b2:((H.put M (.map (wy I))).put M (.map (wy (acs l p (((D.map (aaH rows)).count p+1:Nat):Int))))).own T=Z (.cells [.int .i64 ((aen rows D+(od.2+1):Nat):Int)]):=(by rw[aai.By _ _ _ _ A,aai.By _ _ _ _ A];exact bF);have b3:((H.put M (.map (wy I))).put M (.map (wy (acs l p (((D.map (aaH rows)).count p+1:Nat):Int))))).own B=Z (.cells [C]):=(by rw[aai.By _ _ _ _ G,aai.By _ _ _ _ G];exact bH);have wb:WF ((H.put M (.map (wy I))).put M (.map (wy (acs l p (((D.map (aaH rows)).count p+1:Nat):Int))))):=(w9.put _ (w9.lt F)).put _ ((w9.put _ (w9.lt F)).lt aN);have S1:StrOK rows D1 ((H.put M (.map (wy I))).put M (.map (wy (acs l p (((D.map (aaH rows)).count p+1:Nat):Int))))) M T B C (acs l p (((D.map (aaH rows)).count p+1:Nat):Int)):=by
  refine⟨b1,by rw[aH];exact b2,b3,fun q=>?_⟩;rw[XR,br,List.count_append,List.count_singleton];by_cases e:p=q
  .subst e;rw[Sb rfl];simp
  .rw[WA e,S.OT q,WA (by simpa using e)];rfl
 refine Uy ?_;refine gh (fRn 0 8 (.ch 8 [0,7] (tA [9] (JQ 10 [0,1,2,3,4,5,6,7] (tA [11] (JQ 12 [0,1,2,3,4,5,6,7,8,9,10,11] .done)))) (JQ 10 [0,1,2,3,4,5,6,7] (tA [11] (JQ 8 [0,7] (tA [9] (JQ 12 [0,1,2,3,4,5,6,7,8,9,10,11] .done))))))) ?_;simp only[HO,seval,Qg,mn,mx,bZ,acS,aL,aa,bW,aK,bY,b0];generalize (H.put M (.map (wy I))).put M (.map (wy (acs l p (((D.map (aaH rows)).count p+1:Nat):Int))))=g at*;refine⟨?_,?_⟩
 all_goals exact lgA (JS t) ⟨j+1,_,rfl,t,rfl,by rw[bB];exact S1,lb⟩
variable {g:aai} {l:II} {o:Value} {xs ys:RZ} {α:Type}
def aeV{P:α->Bool}{l:List α}(h:(l.take i).all P=tT)(hi:i<l.length)(a:P l[i]=tT):(l.take (i+1)).all P=tT:=by rw[XJ hi,akb,h];simp[a]
def all_not{P:α->Bool}{l:List α}(hi:i<l.length)(a:P l[i]=fF):l.all P=fF:=by rw[qL224];intro h;rw[QD.1 h _ (aev hi)]at a;cases a
theorem adZ(K:LA)(M:Nat)(l:List (Pr×Int))(W:Pr->Nat)(y bv:vV)(A B:II)(h:aai)(oM:h.own M=Z (.map (wy l)))(L:∀p,(abo l p).getD 0=(W p:Int))(ha:RL RP h y (kz A))(hb:RL RP h bv (kz B))(T:A.length<=1000)(U:B.length<=1000):
  AC pG K 47 [.map (Z M),y,bv] h fun x h'=>x=.bool (abh W A B)/\h'=h:=by
 refine AC.vF func47 ntmps47 results47 fun N=>?_;have ln:=fun g=>ha.TA g;have s:=fun g=>hb.TA g;rw[y6]at ln s;simp only[HO,seval,ln];refine lIn (fun k fr C=>∃i:Nat,k=A.length-i/\i<=A.length/\fr=mkF [(0,.map (Z M)),(2,bv),(11,y),(12,A.length),(13,i)]/\C=h/\(A.take i).all (fun c=>B.all fun d=>c==d||W (min (c:Int) (d:Int),max (c:Int) (d:Int))==2)=tT) ⟨0,rfl,aax _,rfl,rfl,rfl⟩ ?_;rintro k fr C O ⟨i,rfl,hi,rfl,rfl,n⟩;refine Uy ?_;refine Kl.intro (fun t=>?_) (fun hf=>?_)
 rotate_left
 .have q:A.length<=i:=vp hf;rw[abe q]at n;refine Uy ?_;exact(by grind[abh.eq_1])
 have b:i<A.length:=acb t;clear t;have D:=ha.DH i (by rw[y6];exact b);have u:=ha.Uc i (by rw[y6];exact b);rw[sY b]at u;have E:=aeV n b;have Q:=all_not (P:=fun c=>B.all fun d=>c==d||W (min (c:Int) (d:Int),max (c:Int) (d:Int))==2) b;generalize A[i]=c at*;have F:=aaa i NH;refine Sk (Yb D u s) ?_;refine lIn (fun k fr H=>∃j:Nat,k=B.length-j/\j<=B.length/\fr=mkF [(0,.map (Z M)),(2,bv),(8,(c:Nat)),(11,y),(12,A.length),(13,i),(17,bv),(18,B.length),(19,j)]/\H=C/\(B.take j).all (fun d=>c==d||W (min (c:Int) (d:Int),max (c:Int) (d:Int))==2)=tT) ⟨0,rfl,aax _,rfl,rfl,rfl⟩ ?_;rintro k fr H R ⟨j,rfl,V,rfl,rfl,f⟩;refine Uy ?_;refine Kl.intro (fun t=>?_) (fun hf=>?_)
 rotate_left
 .have q:B.length<=j:=vp hf;rw[abe q]at f;refine Sk F ?_;exact lgA (JS b) ⟨i+1,rfl,b,rfl,rfl,E f⟩
 have a:j<B.length:=acb t;clear t;have r:=hb.DH j (by rw[y6];exact a);have m:=hb.Uc j (by rw[y6];exact a);rw[sY a]at m;have o:=aeV f a;have I:=all_not (P:=fun d=>c==d||W (min (c:Int) (d:Int),max (c:Int) (d:Int))==2) a;generalize B[j]=d at*;have v:=aaa j NH;have mn:=Dv (c:Int) (d:Int);have J:=z6 (c:Int) (d:Int);have w:=xe (min (c:Int) (d:Int)) (max (c:Int) (d:Int));have G:=SA oM (min (c:Int) (d:Int),max (c:Int) (d:Int));rw[L]at G;by_cases e:c=d
 .have z:decide ((c:Int)=(d:Int))=tT:=Z6 NH;refine Sk (IX r m @bne.eq_1.{0} z v) ?_
  exact lgA (JS a) ⟨j+1,rfl,a,rfl,rfl,o (by simp[e])⟩
 have z:decide ((c:Int)=(d:Int))=fF:=IE NH;by_cases S:W (min (c:Int) (d:Int),max (c:Int) (d:Int))=2
 .have d2:decide ((W (min (c:Int) (d:Int),max (c:Int) (d:Int)):Int)=2)=tT:=Z6 NH;simp only[HO,seval,r,m,bne,z,mn,J,w,acS,G,d2,v];exact lgA (JS a) ⟨j+1,rfl,a,rfl,rfl,o (by simp[S])⟩
 .have d2:decide ((W (min (c:Int) (d:Int),max (c:Int) (d:Int)):Int)=2)=fF:=IE NH;simp only[HO,seval,r,m,bne,z,mn,J,w,acS,G,d2];exact(by grind[abh.eq_1])
theorem GI.keep(r:GI h o ys)(k:∀b x,h.own b=Z x->blk o=Z b->g.own b=Z x):GI g o ys:=by
 obtain⟨a,⟨rfl,i⟩|⟨id,c,cap,rfl,d,e,f⟩⟩:=r
 .exact⟨a,hGr⟩
 .exact⟨a,.inr ⟨id,c,cap,rfl,k id _ d rfl,e,f⟩⟩
theorem GI.push2{c h:aai}{v o:vV}(g:GI h v xs)(go:GI h o ys)(n:∀b,blk v=Z b->blk o≠Z b)(l:Le c h)(e:Z2 c v)(hw:WF h)(x:Int)(f:xs.length<=100000):
  ∃v' d a,aas pG h 28 1 [(0,x)]=Z (sL (Z h.next) 1 1,d)/\aaR pG d 28 28 v (sL (Z h.next) 1 1)=Z (v',a)/\GI a v' (xs++[x])/\GI a o ys/\(∀b,blk v'=Z b->blk o≠Z b)/\Le c a/\Z2 c v':=by
 have⟨v',d,a,e4,i,j,p,l4,hf,r⟩:=g.push hw x f;have⟨l5,k⟩:=hf c l e;have own:∀b,blk o=Z b->∃y,h.own b=Z y:=fun b hb=>by
  cases q:h.own b with
  |none=>exact absurd q (GS.Sy go hb)
  |some y=>exact⟨y,rfl⟩
 refine⟨v',d,a,e4,i,j,(by grind[GI.keep]),fun b hb m=>?_,l5,k⟩;have⟨y,s⟩:=own b m;exact hGr
def acH{P:Nat->Bool}(hi:i<l.length):(l.take (i+1)).filter P=(l.take i).filter P++if P l[i]then[l[i]]else[]:=by rw[XJ hi,j3];cases h:P l[i]<;>simp[h]
def ab9(a b:II):kz (a++b)=kz a++kz b:=by simp[kz]
theorem afw(H:LA)(M:Nat)(l:List (Pr×Int))(W:Pr->Nat)(cv:vV)(cs:II)(h:aai)(oM:h.own M=Z (.map (wy l)))(T:∀p,(abo l p).getD 0=(W p:Int))(u:RL RP h cv (kz cs))(lc:cs.length<=1000)(l0:0<cs.length):
  AC pG H 48 [.map (Z M),cv] h fun x h'=>x=.bool (aa1 W cs)/\Le h h':=by
 refine AC.vF func48 ntmps48 results48 fun aa=>?_;have ln:=fun g=>u.TA g;rw[y6]at ln;have F:=u.DH 0 (by rw[y6];exact l0);have f0:∀g,Le h g->aaC pG g 3 (aaq cv 0)=Z (.int .i64 (cs.headD 0:Nat)):=fun g lg=>by
  have:=(u.le Nn.RP lg).Uc 0 (by rw[y6];exact l0);rw[sY l0]at this;rw[this];cases cs with
  |nil=>cases l0
  |cons=>rfl
 simp only[ak6]at F;have hT:aa1 W cs=((cs.filter fun(c:Nat)=>W (((cs.headD 0:Nat):Int),(c:Int))==0).length==3&&!(cs.filter fun(c:Nat)=>W (((cs.headD 0:Nat):Int),(c:Int))!=0).contains (cs.headD 0)&&abh W (cs.filter fun(c:Nat)=>W (((cs.headD 0:Nat):Int),(c:Int))==0) (cs.filter fun(c:Nat)=>W (((cs.headD 0:Nat):Int),(c:Int))!=0)):=rfl;generalize cs.headD 0=f at*;simp only[HO,seval,ln];refine lIn (fun k fr s=>∃(i:Nat)(m j:vV),k=cs.length-i/\i<=cs.length/\fr=mkF [(0,.map (Z M)),(1,cv),(5,m),(6,j),(10,cv),(11,cs.length),(12,i)]/\GI s m (kz ((cs.take i).filter fun(c:Nat)=>W ((f:Int),(c:Int))==0))/\GI s j (kz ((cs.take i).filter fun(c:Nat)=>W ((f:Int),(c:Int))!=0))/\(∀b,blk m=Z b->blk j≠Z b)/\Le h s/\Z2 h m/\Z2 h j) ⟨0,_,_,rfl,aax _,rfl,GI.nil h,GI.nil h,(by grind[blk]),Le.refl _,fun b hb=>by simp[blk]at hb,fun b hb=>by simp[blk]at hb⟩ ?_;rintro k fr s v ⟨i,m,j,rfl,hi,rfl,w,gt,dj,t,pa,U⟩;have n:=f0 s t;refine Uy ?_;refine Kl.intro (fun V=>?_) (fun hf=>?_)
 rotate_left
 .have I:cs.length<=i:=vp hf;rw[abe I]at w gt;have ae:=OM (fun(c:Nat)=>W ((f:Int),(c:Int))==0) cs;have ai:=OM (fun(c:Nat)=>W ((f:Int),(c:Int))!=0) cs;generalize cs.filter (fun(c:Nat)=>W ((f:Int),(c:Int))==0)=A at*;generalize cs.filter (fun(c:Nat)=>W ((f:Int),(c:Int))!=0)=B at*;have o:=fun g=>w.rl.TA g;rw[y6]at o;by_cases X:A.length=3
  rotate_left
  .have d3:decide ((A.length:Int)=3)=fF:=IE NH;have e3:(A.length==3)=fF:=by simpa using X
   refine Sk (XC o d3) ?_;exact hGr
  have d3:decide ((A.length:Int)=3)=tT:=Z6 NH;have e3:(A.length==3)=tT:=by simpa using X
  refine Sk (xU o d3 F n) ?_;refine kCi func77 (W3 H j (kz B) (f:Int) s gt.rl (by rw[y6];omega)) ?_;rintro y z w5 ⟨rfl,rfl⟩;have J:decide ((f:Int)∈kz B)=B.contains f:=by rw[af2,abV,Dl,kz,si];exact hGr
  rw[J];cases cB:B.contains f with
  |true=>refine Uy ?_;exact hGr
  |false=>refine Uy ?_;refine kCi func47 (adZ H M l W m j A B z (t.own _ _ oM) T w.rl gt.rl NH NH) ?_;rintro y h6 w6 ⟨rfl,rfl⟩;refine Uy ?_;exact hGr
 have a:i<cs.length:=acb V;clear V;have adc:=u.DH i (by rw[y6];exact a);have q:=(u.le Nn.RP t).Uc i (by rw[y6];exact a);rw[sY a]at q;have fa:=acH (P:=fun(c:Nat)=>W ((f:Int),(c:Int))==0) a;have G:=acH (P:=fun(c:Nat)=>W ((f:Int),(c:Int))!=0) a;have K:(kz ((cs.take i).filter fun(c:Nat)=>W ((f:Int),(c:Int))==0)).length<=100000:=by rw[y6];exact(by grind[List.length_take])
 have L:(kz ((cs.take i).filter fun(c:Nat)=>W ((f:Int),(c:Int))!=0)).length<=100000:=by rw[y6];exact(by grind[List.length_take])
 generalize cs[i]=c at*;have C:=aaa i NH;have D:=xe (f:Int) (c:Int);have N:=SA (t.own _ _ oM) ((f:Int),(c:Int));rw[T]at N;by_cases e:W ((f:Int),(c:Int))=0
 .have O:decide ((W ((f:Int),(c:Int)):Int)>0)=fF:=IE NH;have⟨v',h4,z,e4,Q,R,d,E,l5,S⟩:=w.push2 gt dj t pa v (c:Int) K;rw[Sb (by simp[e])]at fa;rw[WA (by simp[e]),ag1]at G;have r:GI z v' (kz ((cs.take (i+1)).filter fun(c:Nat)=>W ((f:Int),(c:Int))==0)):=by rw[fa,ab9];exact R
  rw[<-G]at d;simp only[HO,seval,adc,q,F,n,D,acS,N,O,e4,Q,C];exact lgA (JS a) ⟨i+1,v',j,rfl,a,rfl,r,d,E,l5,S,U⟩
 .have O:decide ((W ((f:Int),(c:Int)):Int)>0)=tT:=Z6 NH;have⟨v',h4,z,e4,Q,R,d,E,l5,S⟩:=gt.push2 w hGr t U v (c:Int) L;rw[WA (by simp[e]),ag1]at fa;rw[Sb (by simp[e])]at G;have r:GI z v' (kz ((cs.take (i+1)).filter fun(c:Nat)=>W ((f:Int),(c:Int))!=0)):=by rw[G,ab9];exact R
  rw[<-fa]at d;simp only[HO,seval,adc,q,F,n,D,acS,N,O,e4,Q,C];exact lgA (JS a) ⟨i+1,m,v',rfl,a,rfl,d,r,hGr,l5,pa,S⟩
def aaW(r:RZ):Bool:=!(r.length==0||r.length==2||r.length==3||r.length==4)
def aa8(rows:AM)(cs:II)(m:Nat)(E:Nat):Int:=
 if cs.any (fun c=>(rows.getD c []).length !=E)then 0
 else if aaU rows cs≠2*m then 0
 else if E=4 then(if abh (aaI rows cs) cs cs then 5 else 0)else if aa1 (aaI rows cs) cs then 33 else 0
def agP(es:xLP):aaN es=if(Zh 200 es).any aaW then 0 else if(aad (Zh 200 es)).length=5 then aa8 (Zh 200 es) (aad (Zh 200 es)) es.length 4 else if(aad (Zh 200 es)).length=6 then aa8 (Zh 200 es) (aad (Zh 200 es)) es.length 3 else 0:=rfl
def abp{cs:II}{E:Nat}(h:∀c∈cs,(rows.getD c []).length=E):(aaj rows cs).length=E*cs.length:=by
 induction cs with
 |nil=>rfl
 |cons c cs a=>have:=a fun d hd=>h d (by simp[hd]);simp only[aaj,y5,aaf,vg,Vn]at*;rw[this,h c Ma,Nat.mul_add];omega
def corn_step(rows:AM)(i:Nat):(rG (i+1)).filter (aaA rows)=(rG i).filter (aaA rows)++if aaA rows i then[i]else[]:=by rw[rY,j3];cases h:aaA rows i<;>simp[h]
def any_take(h:(rows.take i).any aaW=fF)(hi:i<rows.length)(hb:aaW rows[i]=fF):(rows.take (i+1)).any aaW=fF:=by rw[XJ hi,any_append,h];simp[hb]
theorem Kind_any(R:LA)(ev:vV)(es:xLP)(h:aai)(U:PR h ev es):
  AC pG R 25 [ev] h fun x h'=>x=.int .i64 (aaz es)/\Le h h':=by
 refine AC.vF func25 ntmps25 results25 fun av=>?_;have⟨h2,h3,a2,s2,l3,w3,lG⟩:=akX (n:=200) av U;have bg:=Wj (n:=200) U.sl;have V:GR h3 (.agg #[.int .i64 200,ev]) ⟨200,es⟩:=⟨ev,rfl,U.le l3⟩;refine Sk (xU bg a2 s2 ((lG h3 (Le.refl _)).1)) ?_;refine kCi qS6 (ak R _ ⟨200,es⟩ h3 V) ?_;rintro x h4 w4 ⟨⟨bb,rfl,W⟩,l4⟩;cases bb with
 |false=>refine Uy ?_;exact(by grind[aaz.eq_1,Le.trans])
 |true=>
 have X:bX ⟨((200:Nat):Int),es⟩:=W.1 rfl;have m:aaz es=aaN es:=Sb X;clear W;have ay:=l3.trans l4;refine Sk ((lG h4 l4).1) ?_;refine kCi akP (oe R _ 200 es h4 (V.le l4) X) ?_;rintro bv h5 w5 ⟨hb,l5⟩;have az:=ay.trans l5;have aT:es.length<=594:=X.len;have hR:=X.GD;rw[agP]at m;have L:=fun cv cs g b1 b2 b3 b4 b5=>afv R bv cv (n:=200) (es:=es) cs g b1 b2 X b3 b4 b5;have bl:=Xq 200 es;generalize Zh 200 es=rows at*;have lb:=fun g=>hb.qP5 g;rw[bl]at lb;refine Sk lb ?_;refine lIn (fun k fr S=>∃(i:Nat)(cv:vV),k=200-i/\i<=200/\fr=mkF [(0,ev),(4,bv),(5,cv),(20,bv),(21,(200:Nat)),(22,.int .i64 i)]/\GI S cv (kz ((rG i).filter (aaA rows)))/\Le h5 S/\Z2 h5 cv/\(rows.take i).any aaW=fF) ⟨0,_,rfl,aax _,rfl,GI.nil h5,Le.refl _,fun b hb=>by simp[blk]at hb,rfl⟩ ?_;rintro k fr S aC ⟨i,cv,rfl,hi,rfl,gc,F,pc,t⟩;have aa:=az.trans F;refine Uy ?_;refine Kl.intro (fun O=>?_) (fun hf=>?_)
 rotate_left
 .have G:200<=i:=by grind[vp]
  obtain rfl:i=200:=NH;rw[abe NH]at t;rw[t,WA Ma]at m;have aD:aad rows=(rG 200).filter (aaA rows):=by rw[aad,bl]
  rw[<-aD]at gc;have H:∀c∈aad rows,c<200:=hGr;generalize aad rows=cs at*;have lc:=fun g=>gc.rl.TA g;rw[y6]at lc;by_cases c5:cs.length=5
  .have d5:decide ((cs.length:Int)=5)=tT:=Z6 NH;rw[Sb c5]at m;simp only[HO,seval,lc,d5];refine lIn (fun k fr I=>∃i:Nat,k=cs.length-i/\i<=cs.length/\fr=mkF [(0,ev),(4,bv),(5,cv),(8,.int .i64 4),(46,cv),(47,.int .i64 cs.length),(48,.int .i64 i)]/\I=S/\∀c∈cs.take i,(rows.getD c []).length=4) ⟨0,rfl,aax _,rfl,rfl,fun c J=>by simp at J⟩ ?_;rintro k fr I aF ⟨i,rfl,hi,rfl,rfl,f⟩;refine Uy ?_;refine Kl.intro (fun O=>?_) (fun hf=>?_)
   .have a:i<cs.length:=acb O;clear O;have A:=aev a;have adc:=gc.rl.DH i (by rw[y6];exact a);have v:=gc.rl.Uc i (by rw[y6];exact a);rw[sY a]at v;have P:=XJ a;generalize cs[i]=c at*;have aH:=H c A;have w:c<rows.length:=NH;have B:=hb.Wm c w;have⟨u,C,hu⟩:=hb.NS c w;have lu:=C I F;have gd:rows.getD c []=rows[c]:=D4 w;generalize rows[c]=r at*;have j:=fun g=>hu.TA g;have o:=aaa i NH;by_cases e:r.length=4
    .have z:decide ((r.length:Int)=4)=tT:=Z6 NH;simp only[HO,seval,adc,v,B,lu,j,bne,z,o];exact lgA (JS a) ⟨i+1,rfl,a,rfl,rfl,fun d hd=>by
      rw[P]at hd;rcases vZ.1 hd with q|q
      .exact f d q
      .rw[iy.1 q,gd];exact e⟩
    .have z:decide ((r.length:Int)=4)=fF:=IE NH;have p:cs.any (fun c=>(rows.getD c []).length !=4)=tT:=by grind[any_eq_true]
     simp only[HO,seval,adc,v,B,lu,j,bne,z];exact(by grind[aa8.eq_1])
   have G:cs.length<=i:=vp hf;rw[abe G]at f;have p:¬cs.any (fun c=>(rows.getD c []).length !=4)=tT:=by grind[any_eq_true]
   rw[aa8,WA p]at m;refine Uy ?_;refine kCi func46 (L cv cs I (hb.le (Nn.RL Nn.RP) F) gc.rl (fun c J=>⟨H c J,by rw[f c J];decide⟩) (by rw[abp f];omega) NH) ?_;rintro x h8 w8 ⟨M,l,rfl,oM,hW,T⟩;have aJ:=aa.trans T;have lP:=fun g=>U.len g;have D:aaY .i64 (2*(es.length:Int))=((2*es.length:Nat):Int):=by rw[ie _ NH NH];omega
   by_cases e:aaU rows cs=2*es.length
   rotate_left
   .have z:decide (((aaU rows cs:Nat):Int)=((2*es.length:Nat):Int))=fF:=IE NH;rw[Sb e]at m;refine Sk (xU lP D @bne.eq_1.{0} z) ?_
    exact hGr
   have z:decide (((aaU rows cs:Nat):Int)=((2*es.length:Nat):Int))=tT:=Z6 NH;rw[WA (fun q=>q e)]at m;rw[Sb rfl]at m;have d4:decide ((4:Int)=4)=tT:=by decide
   have aK:decide ((4:Int)=3)=fF:=by decide
   refine Sk (IX lP D @bne.eq_1.{0} z d4) ?_
   refine kCi func47 (adZ R M l (aaI rows cs) cv cv cs cs h8 oM hW (gc.rl.le Nn.RP T) (gc.rl.le Nn.RP T) NH NH) ?_;rintro y h9 w9 ⟨rfl,rfl⟩;cases hE:abh (aaI rows cs) cs cs with
   |true=>rw[hE,Sb rfl]at m;refine Uy ?_;exact hGr
   |false=>rw[hE,WA Ma]at m;refine Sk aK ?_;exact hGr
  have d5:decide ((cs.length:Int)=5)=fF:=IE NH;rw[WA c5]at m;by_cases c6:cs.length=6
  .have d5:decide ((cs.length:Int)=5)=fF:=IE NH;rw[Sb c6]at m;have d6:decide ((cs.length:Int)=6)=tT:=Z6 NH;simp only[HO,seval,lc,d5,bne,d6];refine lIn (fun k fr I=>∃i:Nat,k=cs.length-i/\i<=cs.length/\fr=mkF [(0,ev),(4,bv),(5,cv),(8,.int .i64 3),(46,cv),(47,.int .i64 cs.length),(48,.int .i64 i)]/\I=S/\∀c∈cs.take i,(rows.getD c []).length=3) ⟨0,rfl,aax _,rfl,rfl,fun c J=>by simp at J⟩ ?_;rintro k fr I aF ⟨i,rfl,hi,rfl,rfl,f⟩;refine Uy ?_;refine Kl.intro (fun O=>?_) (fun hf=>?_)
   .have a:i<cs.length:=acb O;clear O;have A:=aev a;have adc:=gc.rl.DH i (by rw[y6];exact a);have v:=gc.rl.Uc i (by rw[y6];exact a);rw[sY a]at v;have P:=XJ a;generalize cs[i]=c at*;have aH:=H c A;have w:c<rows.length:=NH;have B:=hb.Wm c w;have⟨u,C,hu⟩:=hb.NS c w;have lu:=C I F;have gd:rows.getD c []=rows[c]:=D4 w;generalize rows[c]=r at*;have j:=fun g=>hu.TA g;have o:=aaa i NH;by_cases e:r.length=3
    .have z:decide ((r.length:Int)=3)=tT:=Z6 NH;simp only[HO,seval,adc,v,B,lu,j,bne,z,o];exact lgA (JS a) ⟨i+1,rfl,a,rfl,rfl,fun d hd=>by
      rw[P]at hd;rcases vZ.1 hd with q|q
      .exact f d q
      .rw[iy.1 q,gd];exact e⟩
    .have z:decide ((r.length:Int)=3)=fF:=IE NH;have p:cs.any (fun c=>(rows.getD c []).length !=3)=tT:=by grind[any_eq_true]
     simp only[HO,seval,adc,v,B,lu,j,bne,z];exact(by grind[aa8.eq_1])
   have G:cs.length<=i:=vp hf;rw[abe G]at f;have p:¬cs.any (fun c=>(rows.getD c []).length !=3)=tT:=by grind[any_eq_true]
   rw[aa8,WA p]at m;refine Uy ?_;refine kCi func46 (L cv cs I (hb.le (Nn.RL Nn.RP) F) gc.rl (fun c J=>⟨H c J,by rw[f c J];decide⟩) (by rw[abp f];omega) NH) ?_;rintro x h8 w8 ⟨M,l,rfl,oM,hW,T⟩;have aJ:=aa.trans T;have lP:=fun g=>U.len g;have D:aaY .i64 (2*(es.length:Int))=((2*es.length:Nat):Int):=by rw[ie _ NH NH];omega
   by_cases e:aaU rows cs=2*es.length
   rotate_left
   .have z:decide (((aaU rows cs:Nat):Int)=((2*es.length:Nat):Int))=fF:=IE NH;rw[Sb e]at m;refine Sk (xU lP D @bne.eq_1.{0} z) ?_
    exact hGr
   have z:decide (((aaU rows cs:Nat):Int)=((2*es.length:Nat):Int))=tT:=Z6 NH;rw[WA (fun q=>q e)]at m;rw[WA WY]at m;have aL:decide ((3:Int)=4)=fF:=by decide
   have d3:decide ((3:Int)=3)=tT:=by decide
   refine Sk (bG lP D @bne.eq_1.{0} z aL d3) ?_
   refine kCi func48 (afw R M l (aaI rows cs) cv cs h8 oM hW (gc.rl.le Nn.RP T) NH NH) ?_;rintro y h9 w9 ⟨rfl,l9⟩;cases hE:aa1 (aaI rows cs) cs with
   |true=>rw[hE,Sb rfl]at m;refine Uy ?_;exact(by grind[Le.trans])
   |false=>rw[hE,WA Ma]at m;refine Uy ?_;exact(by grind[Le.trans])
  have d6:decide ((cs.length:Int)=6)=fF:=IE NH;rw[WA c6]at m;simp only[HO,seval,lc,d5,bne,d6];exact hGr
 have a:i<200:=by grind[acb]
 clear O;have K:i<rows.length:=NH;have B:=hb.Wm i K;have⟨u,C,hu⟩:=hb.NS i K;have lu:=C S F;have gd:rows.getD i []=rows[i]:=D4 K;have E:=corn_step rows i;have ae:aaA rows i=((rows[i]).length==3||(rows[i]).length==4):=by rw[aaA,gd]
 have N:=any_take t K;have ai:aaW rows[i]=tT->rows.any aaW=tT:=by grind[getElem_mem]
 generalize rows[i]=r at*;have j:=fun g=>hu.TA g;have o:=aaa i NH;have aN:(kz ((rG i).filter (aaA rows))).length<=100000:=by rw[y6];exact(by grind[length_filter_le])
 by_cases c0:r.length=0\/r.length=2
 .have cb:aaA rows i=fF:=by rw[ae];rcases c0 with q|q<;>rw[q]<;>rfl
  rw[cb,WA Ma,ag1]at E;have s:=N (by unfold aaW;rcases c0 with q|q<;>rw[q]<;>rfl);rcases c0 with q|q
  .have Q:decide ((r.length:Int)=0)=tT:=Z6 NH;simp only[HO,seval,B,lu,j,Q,o];exact lgA (JS a) ⟨i+1,cv,rfl,a,rfl,by rw[E];exact gc,F,pc,s⟩
  .have Q:decide ((r.length:Int)=0)=fF:=IE NH;have d2:decide ((r.length:Int)=2)=tT:=Z6 NH;simp only[HO,seval,B,lu,j,Q,d2,o];exact lgA (JS a) ⟨i+1,cv,rfl,a,rfl,by rw[E];exact gc,F,pc,s⟩
 have Q:decide ((r.length:Int)=0)=fF:=IE NH;have d2:decide ((r.length:Int)=2)=fF:=IE NH;by_cases c3:r.length=3\/r.length=4
 .have cb:aaA rows i=tT:=by rw[ae];rcases c3 with q|q<;>rw[q]<;>rfl
  rw[cb,Sb rfl]at E;have s:=N (by unfold aaW;rcases c3 with q|q<;>rw[q]<;>rfl);obtain⟨v',h6,h7,e6,e7,g7,w7,l6,aP,-⟩:=gc.push aC (i:Int) aN;have⟨l7,a7⟩:=aP h5 F pc;have aj:GI h7 v' (kz ((rG (i+1)).filter (aaA rows))):=by rw[E,ab9];exact g7
  rcases c3 with q|q
  .have d3:decide ((r.length:Int)=3)=tT:=Z6 NH;simp only[HO,seval,B,lu,j,Q,d2,d3,e6,e7,o];exact lgA (JS a) ⟨i+1,v',rfl,a,rfl,aj,l7,a7,s⟩
  .have d3:decide ((r.length:Int)=3)=fF:=IE NH;have d4:decide ((r.length:Int)=4)=tT:=Z6 NH;simp only[HO,seval,B,lu,j,Q,d2,d3,d4,e6,e7,o];exact lgA (JS a) ⟨i+1,v',rfl,a,rfl,aj,l7,a7,s⟩
 have d3:decide ((r.length:Int)=3)=fF:=IE NH;have d4:decide ((r.length:Int)=4)=fF:=IE NH;have aq:aaW r=tT:=by
  unfold aaW;have e0:(r.length==0)=fF:=by grind[beq_eq_false_iff_ne]
  have e2:(r.length==2)=fF:=by grind[beq_eq_false_iff_ne]
  have e3:(r.length==3)=fF:=by grind[beq_eq_false_iff_ne]
  have e4:(r.length==4)=fF:=by grind[beq_eq_false_iff_ne]
  rw[e0,e2,e3,e4];rfl
 rw[ai aq,Sb rfl]at m;simp only[HO,seval,B,lu,j,Q,d2,d3,d4];exact hGr
end
end Go.Fw
