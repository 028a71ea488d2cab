/- A text. -/
import Derived.Test.YtnakkbhjoiheoaaGreatFwLM1
set_option linter.all false
set_option maxRecDepth 99999
set_option maxHeartbeats 9999999
open Go.Proofs
open Option renaming some→Z,none→Y
open Bool renaming true→tT,false→fF
open List renaming range→rG
open Go.Value renaming slice→sL,pointer→pT
open Go renaming Value→vV
open Go.Proofs.Tryz renaming prog→pG
open Go.Proofs.Tryz
namespace Go.Fw
section
attribute [local irreducible] Kp MQ lU KO1 KO KN KX KE VK Kl ZJ TC aab
theorem aix(q:LA)(v K:vV)(G:GM)(rs:AM)(h:aai)(hg:GR h v G)(r:RL (RL RP) h K rs):AC pG q 45 [v,K] h fun x h'=>RR (bX G/\Av G.n.toNat G.es rs) x/\Le h h':=by
 have s:=hg;obtain⟨V,es⟩:=G
 obtain⟨ev,rfl,hp⟩:=hg.open
 refine AC.vE ⟨func45,rfl,WY⟩ ntmps45 results45 fun L=>?_;simp only[Br,seval];obtain⟨W,b1,c,ag,-,X⟩:=r8 (n:=V) L hp
 generalize h.next=B at*
 have M:=X W (Le.refl _);have lr:=fun g=>r.qP6 g;refine sFa (XC b1 M.1) ?_;refine kCi qS7 (ak q _ _ W (s.le c)) ?_;rintro x h2 ai ⟨⟨bb,rfl,u⟩,j⟩;have l:=X h2 j;cases bb with
 |false=>refine sSs ?_;grind[RR.f,Le.trans]
 |true=>
 have m:=u.1 rfl;clear u;have h0:0<=V:=m.n0;obtain⟨n,rfl⟩:=Sb h0;have hR:=m.GD;have N:(n:Int)<=200:=m.n1;have aa:es.length<=594:=m.len;have hA:=m.q9;simp only[Z6];by_cases c1:(rs.length:Int)=n
 rotate_left
 .have d1:decide ((rs.length:Int)=n)=fF:=WA c1;simp only[HO,seval,lr,Ii,Ip,Gc,l.2.1,bne,d1];grind[RR.f,Av.len,Le.trans]
 have d1:decide ((rs.length:Int)=n)=tT:=qL7 c1;have O:rs.length=n:=NH;simp only[HO,seval,lr,Ii,Ip,Gc,l.2.1,bne,d1,l.1];refine kCi afm (oe q _ n es h2 (s.le (c.trans j)) m) ?_;rintro x h3 aj ⟨hb,Q⟩;have R:=Xq n es;have lb:=fun g=>hb.qP5 g;rw[R]at lb;have b:=(c.trans j).trans Q;have A:∀v,v<n->((Zh n es).getD v []).length<=1200:=fun v r=>by have:=bV n es _ (aev (show v<(Zh n es).length by omega));grind
 refine sFa lb ?_;refine lIn (fun k fr S=>∃(i:Nat),k=n-i/\i<=n/\fr=mkF [(1,K),(18,x),(19,n),(20,i)]/\Le h3 S/\∀v,v<i->(rs.getD v []).Perm ((Zh n es).getD v [])) ⟨0,rfl,abe _,rfl,Le.refl _,fun v r=>by omega⟩ ?_;rintro k fr S al ⟨i,rfl,hi,rfl,I,T⟩;refine sSs ?_;refine Kl.intro (fun ht=>?_) (fun hf=>?_)
 rotate_left
 .have aq:n<=i:=vp hf;refine sSs ?_;exact⟨.t ⟨m,O,fun v r=>T v NH⟩,b.trans I⟩
 have o:i<n:=CC ht;clear ht;have HB:=hb.le (Nn.RL Nn.RP) I;have ab:=HB.Wm i NH;obtain⟨bu,C,p⟩:=HB.load (P:=pG) Mb rfl i NH;have HR:=r.le (Nn.RL Nn.RP) (b.trans I);have ar:=HR.qP7 i NH;obtain⟨ru,D,a⟩:=HR.load (P:=pG) Mb rfl i NH;rw[<-D4 (d:=[]) NH]at p a;have E:=fun g=>p.DH g;have F:=fun g=>a.DH g;have J:=A i o;by_cases c2:((rs.getD i []).length:Int)=((Zh n es).getD i []).length
 rotate_left
 .have d2:decide (((rs.getD i []).length:Int)=((Zh n es).getD i []).length)=fF:=WA c2;simp only[HO,seval,ab,C,ar,D,E,F,bne,d2];grind[RR.f,Av.len_eq,Le.trans]
 have d2:decide (((rs.getD i []).length:Int)=((Zh n es).getD i []).length)=tT:=qL7 c2;have ae:((Zh n es).getD i []).length<=1000:=by
  have H:=KW es hR hA i;have nd:((Zh n es).getD i []).Nodup:=Gw.2 (H.imp fun h e=>by omega);have:=tf nd (B:=(rG n).map fun(v:Nat)=>(v:Int)) fun y hy=>by obtain⟨w,rfl,hw⟩:=Ru hR hy;grind
  grind
 simp only[HO,seval,ab,C,ar,D,E,F,bne,d2];refine kCi func75 (ajx q ru _ S a) ?_;rintro y h5 w5 ⟨VB,rfl,-,oV,l5⟩;refine sSs ?_;refine kCi func74 (ajz q VB ru _ h5 oV (a.le Nn.RP l5) NH) ?_;rintro y h6 w6 ⟨g6,l6,-⟩;refine sSs ?_;refine kCi func73 (Equal_any q y bu _ _ h6 g6.rl (p.le Nn.RP (l5.trans l6)) (by rw[OX];omega)) ?_;rintro z h7 w7 ⟨rfl,rfl⟩;have U:=(I.trans l5).trans l6;by_cases c3:qC (rs.getD i [])=(Zh n es).getD i []
 .have d3:decide (qC (rs.getD i [])=(Zh n es).getD i [])=tT:=qL7 c3;refine sFa (XC d3 (aaa i NH)) ?_;exact lgA (JS o) ⟨i+1,rfl,o,rfl,U,fun v r=>by grind[ajd]⟩
 .have d3:decide (qC (rs.getD i [])=(Zh n es).getD i [])=fF:=WA c3;refine sFa d3 ?_;grind[RR.f,ajd,Av.perm,Le.trans]
attribute [local irreducible] Jz JL vq cQ
variable {es:List Pr} {n:Nat}
def join_of(d:aV n es)(e:0<n)(c:es≠[])(h:∀v,v<n->Pu es 0 v):JoinG n es:=by refine⟨c,?_⟩;obtain⟨a,ha,f⟩:=B6 d 0 e;have:∀b∈Es n es,b=a:=fun b hb=>rf hb ha ((h b (QO.1 hb).1).symm.trans f.symm);exact Cq (qD n es) ha this
def tM{u v w:Nat}(h:Pu es u v)(a:Jp es v w):Pu es u w:=h.step a rfl
attribute [local instance] Classical.propDecidable
variable {b:List Pr} {c i j k u v:Nat} {p:Pr} {α:Type}
theorem ah{bs:List xLP}{cs:II}:∀k,p∈Rb bs cs k↔∃i j:Nat,i<k/\j<cs.length/\atB ((cs.getD j 0:Nat):Int) (bs.getD i [])=tT/\p=((i:Int),(j:Int)):=by grind[Rb,lkU]
theorem FU(i:Nat)(b:xLP)(cs:II):∀k,k<=cs.length->(lkU i b cs k).length=((cs.take k).filter fun c=>atB ((c:Nat):Int) b).length
 |0,_=>by simp[lkU]
 |k+1,h=>by rw[lkU_succ,aaf,FU i b cs k NH,kS,Db,aaf];grind
theorem Er(bs:List xLP)(cs:II):∀k,k<=bs.length->(Rb bs cs k).length=(cs.map fun c=>((bs.take k).filter (atB ((c:Nat):Int))).length).sum
 |0,_=>by
  rw[Rb]
  induction cs<;>grind
 |k+1,h=>by
  rw[DK,aaf,Er bs cs k NH,FU k _ cs cs.length (qL0 _),dr];have hb:bs[k]?=Z bs[k]:=XJ h;rw[kS,hb,Option.toList_some,D4 h]
  induction cs<;>grind
theorem uh(h:(Es n es).length=1)(a:u<n)(b:v<n):Pu es u v:=by
 have g:0<n:=NH;have m0:0∈Es n es:=by grind[QO]
 obtain⟨x,i⟩:=abW.1 h;have key:∀k v,v<=k->v<n->Pu es 0 v:=by
  intro k
  induction k with
  |zero=>grind[Pu.refl]
  |succ k c=>
   intro v j b;by_cases e:v=0
   .grind
   have d:v∉Es n es:=hGr;rw[QO]at d;have:∃u,u<v/\Pu es u v:=hGr;obtain⟨u,a,f⟩:=this;exact(c u NH NH).trans f
 exact(key _ u (qL0 _) a).symm.trans (key _ v (qL0 _) b)
theorem nodup_idx{l:List α}(nd:l.Nodup){x:α}(h:l[i]?=Z x)(g:l[j]?=Z x):i=j:=by grind[List.pairwise_iff_getElem]
theorem bK(h:(vq n es)[k]?=Z b):∃x,(CY (cQ n es) es)[k]?=Z x/\b=es.filter fun p=>decide (cQ n es p=x):=by grind[aaB]
theorem block_at(h:(vq n es)[k]?=Z b)(a:p∈b):p∈es:=by grind[bK]
theorem at_mem{v:Int}(a:p∈b)(h:AN v p=tT):atB v b=tT:=by grind[atB]
theorem tree_two(hR:bX ⟨(n:Int),es⟩)(f:v<n){b c:xLP}(h:(vq n es)[j]?=Z b)(g:(vq n es)[k]?=Z c)(hb:atB (v:Int) b=tT)(d:atB (v:Int) c=tT)(ne:j≠k):
  ∃m:Nat,(JL n es)[m]?=Z v:=by
 have a:=hR.GD;have h2:1<Sq n es v:=by rw[JW,Yt (PS n es v)];obtain⟨x,i,rfl⟩:=bK h;obtain⟨y,l,rfl⟩:=bK g;rw[at_iff a]at hb d;refine⟨x,y,(dG a).2 hb,(dG a).2 d,fun e=>ne ?_⟩;have nd:=(ahE (cQ n es) _ es rfl).1;grind[nodup_idx]
 rw[YH a]at h2;exact vZ.1 (by grind[OI])
theorem link_in(h:(vq n es)[i]?=Z b)(g:(JL n es)[j]?=Z c):((i:Int),(j:Int))∈(acF n es).ls↔atB (c:Int) b=tT:=by show _∈Rb _ _ _↔_;grind[ah]
theorem vC(h:(vq n es)[i]?=Z b)(g:(JL n es)[j]?=Z c)(ha:atB (c:Int) b=tT):Jp (bU (vq n es).length (acF n es).ls) i ((vq n es).length+j):=by left;refine Eh.2 ⟨_,(link_in h g).2 ha,?_⟩;grind
theorem tj(hR:bX ⟨(n:Int),es⟩)(e:v<n){b c:xLP}(h:(vq n es)[j]?=Z b)(g:(vq n es)[k]?=Z c)(hb:atB (v:Int) b=tT)(a:atB (v:Int) c=tT):Pu (bU (vq n es).length (acF n es).ls) j k:=by
 by_cases ne:j=k
 .grind[Pu.refl]
 obtain⟨m,d⟩:=tree_two hR e h g hb a ne;exact(abu (vC h d hb)).trans (abu (vC g d a)).symm
theorem tree_con(hR:bX ⟨(n:Int),es⟩)(q:u<n)(l:Pu es u v):∀{j k:Nat}{b c:xLP},(vq n es)[j]?=Z b->(vq n es)[k]?=Z c->atB (u:Int) b=tT->atB (v:Int) c=tT->Pu (bU (vq n es).length (acF n es).ls) j k:=by
 have f:=hR.GD
 induction l with
 |refl _=>grind[tj]
 |@step w x _ a _ o=>intro j k b c h g hb e;obtain⟨m,d,i,hd,_⟩:=Zg hR (H4 f a);have p:atB (w:Int) d=tT:=at_mem hd zo;have h2:atB (x:Int) d=tT:=at_mem hd (by rw[so];exact zo);exact(o h i hb p).trans (tj hR (a.lt f).2 i g h2 e)
theorem treeM_lk(hR:bX ⟨(n:Int),es⟩)(k:JoinG n es):Lk (vq n es).length ((vq n es).length+(JL n es).length) (acF n es).ls:=by
 have o:=hR.GD;have f:=u5 hR k.1;have y:=XF hR;have e:∀i b,(vq n es)[i]?=Z b->∃a c:Nat,((a:Int),(c:Int))∈b/\a<n/\atB (a:Int) b=tT:=fun i b hb=>by obtain⟨p,l,rfl⟩:=eR (y.ne b (BS hb));obtain⟨a,c,rfl,z,q,_⟩:=ends o (block_at hb abV);grind[at_mem,AN]
 have blk:∀i,i<(vq n es).length->Pu (bU (vq n es).length (acF n es).ls) 0 i:=fun i hi=>by have r:(vq n es)[i]?=Z (vq n es)[i]:=XJ hi;have w:(vq n es)[0]?=Z (vq n es)[0]:=XJ f;obtain⟨a,_,_,ha,ea⟩:=e _ _ w;obtain⟨c,_,_,s,A⟩:=e _ _ r;exact tree_con hR ha (uh k.2 ha s) w r ea A
 refine⟨NH,?_,fun p B=>?_,fun v F=>?_⟩
 .have G:=tZ o;have H:(acF n es).ls.length=((JL n es).map (Sq n es)).sum:=by
   show(Rb _ _ _).length=_;rw[Er _ _ _ (qL0 _),dr];rfl
  have r:((Es n es).filter fun h=>decide (0<Sq n es h)).length=1:=by
   obtain⟨x,C⟩:=abW.1 k.2;have t:x∈Es n es:=by rw[C];simp
   have D:=(QO.1 t).1;obtain⟨p,l,rfl⟩:=eR k.1;grind[ends,List.mem_cons_self,HJ,FV,uh]
  omega
 .obtain⟨i,j,hi,E,_,rfl⟩:=(ah _).1 B;exact⟨Ma,hGr,Ma,hGr⟩
 .by_cases hb:v<(vq n es).length
  .grind
  obtain⟨j,rfl⟩:∃j,v=(vq n es).length+j:=⟨v-(vq n es).length,NH⟩;have u:j<(JL n es).length:=NH;have s:(JL n es)[j]?=Z (JL n es)[j]:=XJ u;obtain⟨q,g⟩:=(OI o _).1 (BS s);obtain⟨a,_,ha,_⟩:=g;obtain⟨m,d,I,hd,_⟩:=Zg hR (H4 o ha);grind[at_mem,zo,Cn.trans,abu,vC]
end
section
attribute [local irreducible] Kp MQ lU KO1 KO KN KX KE VK Kl ZJ TC aab
attribute [local irreducible] abT ahy
variable {es:List Pr} {h:aai} {j n:Nat} {rs:AM}
theorem newE4(hw:WF h):∃a h2,abO pG h 24=Z (pT (Z h.next),a)/\aaK pG a 24 (pT (Z h.next)) agO=Z h2/\Le h h2/\WF h2:=by
 obtain⟨a,d,l1,w1,b⟩:=Tt hw [.int .i64 0,.slice Y 0 0]
 have c:h.own h.next=Y:=(Le.refl h).next hw (qL0 _)
 have st:=aib (n:=0) (ev:=.slice Y 0 0) b rfl rfl;exact⟨a,_,by grind[Lo],st,l1.put _ c,w1.put _ (w1.lt b)⟩
theorem ajA(v:Nat)(l:RZ)(h:j<l.length):ahy v (l.take (j+1))=ahy v (l.take j)++if(v:Int)<l[j]then[((v:Int),l[j])]else[]:=by grind[ahy,List.take_succ_eq_append_getElem]
theorem aiR(v:Nat)(l:RZ):(ahy v l).length<=l.length:=by grind[ahy]
def ajB(rs:AM)(k:Nat):abT rs (k+1)=abT rs k++ahy k (rs.getD k []):=by rw[abT]
def aiy(rs:AM):abT rs 0=[]:=by rw[abT]
theorem aiS(hR:aV n es)(hA:D3 es)(G:Av n es rs){v:Nat}(a:v<n):(rs.getD v []).length<n:=by
 have IR:=G.jD hR hA;have b:(Xl rs v).length=(rs.getD v []).length:=by grind[Xl.eq_1]
 have h2:=tf (IR.nd v) (B:=(rG n).erase v) fun w hw=>(AQ.mem_erase_iff).2 ⟨fun e=>IR.ir v hGr,K4.2 (IR.lt w v (IR.sy _ _ hw))⟩;grind
def len_bd{a i N:Nat}(h:a<=i*N)(hi:i<=200)(b:N<=200):a<=40000:=by have:i*N<=200*200:=adN hi b;omega
theorem told_any(T:LA)(r:vV)(rs:AM)(h:aai)(N:RL (RL RP) h r rs):
  AC pG T 51 [r] h fun x h'=>Le h h'/\((x=.tuple #[agO,.bool fF]/\¬∃es,bX ⟨(rs.length:Int),es⟩/\Av rs.length es rs)\/
   ∃es ev,bX ⟨(rs.length:Int),es⟩/\Av rs.length es rs/\x=.tuple #[.agg #[rs.length,ev],.bool tT]/\GP h' ev es/\Z2 h ev):=by
 refine AC.vE ⟨func51,rfl,WY⟩ ntmps51 results51 fun B=>?_;simp only[Br,seval];obtain⟨a,e1,l1,w1,o1⟩:=Tt B [.int .i64 0,.slice Y 0 0];have U:=Lo h;rw[e1]at U
 have nR:h.own h.next=Y:=(Le.refl h).next B (qL0 _)
 generalize h.next=R at*
 have lr:=fun g=>N.qP6 g;have m:∀g:aai,Le a g->aaK pG g 24 (pT (Z R)) agO=Z (g.put R (.cells [.int .i64 0,.slice Y 0 0])):=fun g V=>aib (V.own _ _ o1) rfl rfl;have ldE:∀g:aai,aaC pG (g.put R (.cells [.int .i64 0,.slice Y 0 0])) 24 ⟨R,0,Y⟩=Z agO:=fun g=>ai2 (aai.Y3 _ _ _) ⟨_,_,_,rfl⟩;have fin:∀g:aai,Le a g->Le h (g.put R (.cells [.int .i64 0,.slice Y 0 0])):=fun g V=>(l1.trans V).put _ nR;by_cases c1:(rs.length:Int)>200
 .have d1:decide ((rs.length:Int)>200)=tT:=qL7 c1;simp only[HO,seval,U,lr,d1,aew,m a (Le.refl _),ldE];exact⟨fin a (Le.refl _),.inl ⟨trivial,fun⟨es,A,_⟩=>by have:=A.n1;grind⟩⟩
 have d1:decide ((rs.length:Int)>200)=fF:=WA c1;have c:rs.length<=200:=NH;obtain⟨h2,e2,l2,w2,o2⟩:=Tt w1 []
 have mk:aas pG a 22 0 []=Z (sL (Z a.next) 0 0,h2):=by rw[<-e2];rfl
 have nX:a.own a.next=Y:=(Le.refl a).next w1 (qL0 _)
 have g0:GP h2 (sL (Z a.next) 0 0) (abT rs 0):=by rw[aiy];exact GS.full (k:=2) (n:=0) o2 rfl WY
 have C:Z2 a (sL (Z a.next) 0 0):=fun b hb=>by injection hb with hb;grind
 simp only[HO,seval,U,lr,d1,mk]
 generalize vV.slice (Z a.next) 0 0=aJ at*
 refine lIn (fun k fr o=>∃(i:Nat)(E:vV),k=rs.length-i/\i<=rs.length/\fr=mkF [(0,r),(2,pT (Z R)),(4,E),(16,r),(17,rs.length),(18,i)]/\GP o E (abT rs i)/\Le a o/\Z2 a E/\(abT rs i).length<=i*rs.length) ⟨0,_,rfl,abe _,rfl,g0,l2,C,by rw[aiy];exact abe _⟩ ?_;clear g0 C;rintro k fr o aK ⟨i,E,rfl,hi,rfl,gx,s,ax,hlen⟩;refine sSs ?_;refine Kl.intro (fun F=>?_) (fun hf=>?_)
 .have l:i<rs.length:=CC F;clear F;have ar:=N.qP7 i l;obtain⟨ru,H,t⟩:=N.NS i l;have I:=H o (l1.trans s);rw[<-D4 (d:=[]) l]at t;have hs:=ajB rs i;generalize aH:rs.getD i []=row at*;have p:=fun g=>t.DH g;by_cases c2:(row.length:Int)>=rs.length
  .have d2:decide ((row.length:Int)>=rs.length)=tT:=qL7 c2;simp only[HO,seval,ar,I,p,lr,d2,aew,m o s,ldE];refine⟨fin o s,.inl ⟨trivial,fun⟨es,A,G⟩=>?_⟩⟩;have:=aiS A.GD A.q9 G l;grind
  have d2:decide ((row.length:Int)>=rs.length)=fF:=WA c2;have aL:row.length<=rs.length:=NH;simp only[HO,seval,ar,I,p,lr,d2];refine lIn (fun k fr O=>∃(j:Nat)(y:vV),k=row.length-j/\j<=row.length/\fr=mkF [(0,r),(2,pT (Z R)),(4,y),(5,i),(16,r),(17,rs.length),(18,i),(29,ru),(30,row.length),(31,j)]/\GP O y (abT rs i++ahy i (row.take j))/\Le a O/\Z2 a y/\Le o o) ⟨0,_,rfl,abe _,rfl,by grind[ahy],s,ax,Le.refl _⟩ ?_;rintro k fr O W ⟨j,y,rfl,hj,rfl,X,P,ay,-⟩;have q:RL RP O ru row:=t.le Nn.RP (l1.trans P);refine sSs ?_;refine Kl.intro (fun F=>?_) (fun hf=>?_)
  .have f:j<row.length:=CC F;clear F;have ad:=q.TA j f;have ld:=q.Uc j f;have st:=ajA i row f;have aa:=aiR i (row.take j);rw[KG]at aa;have ae:=len_bd hlen NH c;have J:=aaa j NH;generalize row[j]=w at*;by_cases c3:(i:Int)<w
   .have d3:decide ((i:Int)<w)=tT:=qL7 c3;obtain⟨v',z,Q,e4,e5,g5,w5,l4,f5,k5⟩:=X.push W ((i:Int),w) hGr;obtain⟨l5,a5⟩:=f5 a P ay;simp only[HO,seval,ad,ld,d3,xe,e4,e5,J];exact lgA (JS f) ⟨j+1,v',rfl,f,rfl,hGr,l5,a5,Le.refl _⟩
   .have d3:decide ((i:Int)<w)=fF:=WA c3;simp only[HO,seval,ad,ld,d3,J];exact lgA (JS f) ⟨j+1,y,rfl,f,rfl,hGr,P,ay,Le.refl _⟩
  .have K:row.length<=j:=vp hf;rw[HV K,<-hs]at X;have ag:=aaa i NH;have aN:=aiR i row;refine sFa ag ?_;exact lgA (JS l) ⟨i+1,y,rfl,l,rfl,X,P,ay,hGr⟩
 have K:rs.length<=i:=vp hf;obtain rfl:i=rs.length:=NH;have ae:=len_bd hlen c c;simp only[HO,seval,lr];refine kCi yU (akV T (rs.length:Int) E (abT rs rs.length) o gx.pr NH) ?_;rintro x h3 w3 ⟨l3,⟨hn,kk,ai,rfl⟩|⟨aj,ev,rfl,L,a3⟩⟩
 .obtain⟨aq,z,e4,u,l4,w4⟩:=newE4 w3;have d:decide (kk=0)=fF:=WA ai;have S:=(s.trans l3).trans l4;simp only[HO,seval,e4,u,bne,d,aew,m z S,ldE];grind[aiw]
 obtain⟨aq,z,e4,u,l4,w4,L4⟩:=newG w3 (n:=(rs.length:Int)) L.pr;have d0:decide ((0:Int)=0)=tT:=by decide
 have av:=aj.right;have S:=(s.trans l3).trans l4;have gg:GR z (.agg #[rs.length,ev]) ⟨(rs.length:Int),aa5 ((abT rs rs.length).map lZ)⟩:=⟨ev,rfl,L.pr.le l4⟩;generalize aP:aa5 ((abT rs rs.length).map lZ)=fs at*;refine sFa (afK e4 u @bne.eq_1.{0} d0 ((L4 z (Le.refl _)).1)) ?_
 generalize h3.next=D at*
 refine kCi func45 (aix T _ r ⟨(rs.length:Int),fs⟩ rs z gg (N.le (Nn.RL Nn.RP) (l1.trans S))) ?_;rintro x Q w5 ⟨⟨bb,rfl,az⟩,l5⟩;have v:=S.trans l5;cases bb with
 |false=>simp only[HO,seval,aew,m Q v,ldE];grind[aiw]
 |true=>
  obtain⟨-,hG⟩:=az.1 rfl;simp only[Z6]at hG;have one:=L.pr.sl.one;obtain⟨ea,ec,M,_⟩:=L.pr.sl;have aC:ev.cells=#[ev]:=by rw[M];rfl
  have oR:=v.own _ _ o1;have st:=aib (n:=(rs.length:Int)) (ev:=ev) oR one aC;have oo:=aai.Y3 Q R (.cells [rs.length,ev]);have aD:=ai2 (n:=(rs.length:Int)) (ev:=ev) oo ⟨ea,_,ec,M⟩;have aF:blk ev≠Z R:=fun e=>by have:=a3 R e;grind[Le.own]
  simp only[HO,seval,(L4 Q l5).1,st,aD];exact⟨(l1.trans v).put _ nR,.inr ⟨fs,ev,av,hG,rfl,(GS.le L (l4.trans l5)).put _ aF,fun b hb=>(l1.trans s).none (a3 b hb)⟩⟩
end
section
attribute [local instance] Classical.propDecidable
section
variable{α β:Type}[DecidableEq α]
def agG:List (α×β)->α->β->List (α×β)
 |[],k,v=>[(k,v)]
 |(a,b)::r,k,v=>if a=k then(k,v)::r else(a,b)::agG r k v
def aeB:List (α×β)->α->Option β
 |[],_=>Y
 |(a,b)::r,k=>if a=k then Z b else aeB r k
theorem aiT(l:List (α×β))(k a:α)(v:β):aeB (agG l k v) a=if k=a then Z v else aeB l a:=by
 induction l<;>grind[agG,aeB]
theorem ajV(l:List (α×β))(k:α)(v:β):(aeB l k=Y/\agG l k v=l++[(k,v)])\/∃(j:Nat)(b:β),aeB l k=Z b/\l[j]?=Z (k,b)/\(∀i,i<j->∀x,l[i]?=Z x->x.1≠k)/\agG l k v=l.set j (k,v):=by
 induction l with
 |nil=>exact .inl ⟨rfl,rfl⟩
 |cons x r e=>
  obtain⟨a,b⟩:=x;simp only[agG,aeB];by_cases h:a=k
  .subst h;rw[IE rfl,IE rfl];exact .inr ⟨0,b,rfl,rfl,NH,rfl⟩
  .rw[yM h,yM h];rcases e with⟨d,h2⟩|⟨j,c,d,h2,h3,f⟩
   .grind
   .refine .inr ⟨j+1,c,d,hGr,fun i hi x g=>?_,by rw[f];rfl⟩;cases i<;>grind
end
def ahb(l:List (Pr×Pr)):List (vV×vV):=l.map fun x=>(UI x.1,UI x.2)
theorem aeF(k:Pr):∀(l:List (Pr×Pr))(i:Nat),(aeB l k=Y->adC pG 49 (UI k) (ahb l) i=Z Y)/\∀(j:Nat) b,l[j]?=Z (k,b)->(∀q,q<j->∀x,l[q]?=Z x->x.1≠k)->adC pG 49 (UI k) (ahb l) i=Z (Z (i+j,UI b))
 |[],i=>⟨fun _=>rfl,hGr⟩
 |(a,b)::r,i=>by
  obtain⟨g,h2⟩:=aeF k r (i+1)
  have un:adC pG 49 (UI k) (ahb ((a,b)::r)) i=match aEq pG 49 (UI k) (UI a)with|some tT=>Z (Z (i,UI b))|some fF=>adC pG 49 (UI k) (ahb r) (i+1)|none=>Y:=rfl
  rw[un,eqP];constructor
  .grind[aeB]
  .intro j c f d;cases j with
   |zero=>grind
   |succ j=>
    have e:a≠k:=d 0 NH (a,b) rfl;have:decide (k=a)=fF:=by simpa using Ne.symm e
    rw[this];show adC pG 49 (UI k) (ahb r) (i+1)=_;rw[h2 j c (by simpa using f) hGr];congr 3;omega
def ajg{h:aai}{x:vV}(p:Pr)(ok:Bool):abB pG h 84 x (UI p) ok=Y:=by simp only[abB,qS33,UI]
def ajC{h:aai}{x v:vV}(p:Pr):acM pG h 84 x (UI p) v=Y:=by simp only[acM,qS33,UI]
theorem ajD{h:aai}{M:Nat}{l:List (Pr×Pr)}(a:h.own M=Z (.map (ahb l))){k v:Pr}(e:aeB l k=Z v):
  adH pG h 84 (.map (Z M)) (UI k) fF=Z (UI v):=by
 have c:acd pG 49=Z (.agg #[.int .i64 0,.int .i64 0]):=Ji;simp only[adH,qS33,keyP,a,c,if_true];rcases ajV l k v with⟨d,_⟩|⟨j,b,d,h2,h3,_⟩
 .grind
 grind[aeF]
theorem mapPP_set{h:aai}{M:Nat}{l:List (Pr×Pr)}(a:h.own M=Z (.map (ahb l)))(k v:Pr):aea pG h 84 (.map (Z M)) (UI k) (UI v)=Z (h.put M (.map (ahb (agG l k v)))):=by
 simp only[aea,qS33,keyP,a,if_true];rcases ajV l k v with⟨c,d⟩|⟨j,b,c,h2,h3,d⟩
 .grind[aeF,ahb]
 grind[aeF,ahb,List.map_set]
def abA(d:H8):Pr:=((d.1:Int),(d.2:Int))
theorem aif{a b:H8}(h:abA a=abA b):a=b:=by grind[abA]
section
variable{n:Nat}{es:List Pr}{rs:AM}
theorem ajW(a:aV n es)(ha:D3 es)(G:Av n es rs)(v:Nat):(Zh n es).getD v []=((rG n).filter fun w=>decide (w∈Xl rs v)).map fun(w:Nat)=>(w:Int):=by
 refine afY _ _ (KW es a ha v) ?_ fun x=>?_
 .grind[List.pairwise_lt_range,List.Pairwise.imp]
 grind[Ru,Av.mem,EW]
noncomputable def aih(n:Nat)(r:Nat->II)(v:Nat):List H8:=((rG n).filter fun w=>decide (w∈r v)).map fun w=>(v,w)
noncomputable def afd(n:Nat)(r:Nat->II)(k:Nat):List H8:=(rG k).flatMap (aih n r)
theorem ahC(n:Nat)(r:Nat->II)(k:Nat):afd n r (k+1)=afd n r k++aih n r k:=by grind[afd.eq_1,List.range_succ]
theorem ahX(n:Nat)(r:Nat->II):afd n r n=ddl n r:=rfl
theorem rowsD_pre{n:Nat}(r:Nat->II){k m:Nat}(h:k<=m):∃q,afd n r m=afd n r k++q:=by
 induction h with
 |refl=>exact⟨[],Ma⟩
 |step _ a=>grind[ahC]
theorem ddl_at{n:Nat}(r:Nat->II){v j:Nat}(a:v<n)(b:j<(aih n r v).length):∃q,ddl n r=(afd n r v++(aih n r v).take j)++(aih n r v)[j]::q:=by obtain⟨q,c⟩:=rowsD_pre (n:=n) r (show v+1<=n from a);grind[ahX,ahC,List.getElem_cons_drop,List.take_append_drop]
def ai3(r:Nat->II)(P:List H8)(d:H8):Prop:=∃e∈P,WD (Nv r) e d
theorem hd_met{r:Nat->II}(R:V7 n r){P Q:List H8}{d:H8}(h:ddl n r=P++d::Q):Hd r d↔¬ai3 r P d:=by
 have p:=aaG R;have hA:=pI n r;rw[h,To,acg]at hA;obtain⟨_,⟨h2,_⟩,h3⟩:=hA;have hd:d∈dl n r:=(IP R).2 ((Ks R).1 (by rw[h];simp));constructor
 .rintro hh ⟨e,g,o⟩;have a:e∈dl n r:=(IP R).2 ((Ks R).1 hGr);exact hh e (p.adK a o) hGr
 .intro c e o f;have a:=p.sP hd o;have:e∈ddl n r:=by grind[Ks,IP]
  rw[h,aax,Og]at this;rcases this with b|b|b
  .exact c ⟨e,b,p.adK hd o⟩
  all_goals grind[JN,Nd]
noncomputable def adR(r:Nat->II)(P:List H8):AM:=(P.filter fun d=>decide (Hd r d)).map fun d=>kz (zu r d)
noncomputable def IN(n:Nat)(rs:AM):AM:=(vf n (Xl rs)).map kz
theorem aiz(n:Nat)(rs:AM):adR (Xl rs) (ddl n (Xl rs))=IN n rs:=by rw[IN,vf,ahN,adR,FD];rfl
theorem ajh(r:Nat->II)(P:List H8)(d:H8):adR r (P++[d])=adR r P++if Hd r d then[kz (zu r d)]else[]:=by grind[adR.eq_1]
end
end
end Go.Fw
