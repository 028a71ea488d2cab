/- A text. -/
import Derived.Test.YtkccdnmaaelbiaaGreatFwLZ7
import Derived.Test.YtkccdnmaaelbiaaGreatFwLBR
set_option linter.all false
set_option maxRecDepth 99999
set_option maxHeartbeats 9999999
open Go.Proofs
namespace Go.Fw
def fT(v:Value)(i:Nat):Addr:=abv v (i*3)
def alloc45'(h:aae):agH Tryz.prog h 38=some (.pointer (some ⟨h.next,0,none⟩),h.alloc (.cells [.int .i64 0,.int .i64 0])):=rfl
structure AtS (n:Int) (es:List Pr) (bs:List (List Pr)):Prop where
 ne:∀b∈bs,b≠[]
 right:∀b∈bs,bX ⟨n,b⟩
 q9:∀(i:Nat) b b' p q,bs[i]?=some b->bs[i+1]?=some b'->b[0]?=some p->b'[0]?=some q->p.1<q.1\/p.1=q.1/\p.2<q.2
 mem:∀b∈bs,∀p∈b,p∈es
 TE:∀(i j:Nat) b b' p,bs[i]?=some b->bs[j]?=some b'->p∈b->p∈b'->i=j
 all:∀p∈es,∃b∈bs,p∈b
 len:bs.length<=1000
def Met(bs:List (List Pr))(i j:Nat)(p:Pr)(x:Int):Prop:=∃(k:Nat)(b:List Pr),bs[k]?=some b/\x=(k:Int)/\(k<i/\p∈b\/k=i/\p∈b.take j)
variable {b es:List Pr} {i n:Nat} {p:Pr}
theorem Nl:D3 es↔es.Pairwise fun x y=>x.1<y.1\/x.1=y.1/\x.2<y.2:=by
 rw[wI];constructor
 .intro ha i j hi b a;exact ha.lt a (yY hi) (yY b)
 .intro h i j p q a hi b;obtain⟨e,c⟩:=Ny.1 hi;obtain⟨f,d⟩:=Ny.1 b;rw[Hv,<-c,<-d];grind
theorem bX.of(a:n<=200)(c:es.length<=594)(d:InR n es)(ha:D3 es):bX ⟨(n:Int),es⟩:=⟨Ma,pw,c,fun i hi p b=>⟨d p (BS b),fun q f e=>ha (i-1) i q p NH e b⟩⟩
theorem bX.sub{es a:List Pr}(h:bX ⟨(n:Int),es⟩)(hs:a.Sublist es):bX ⟨(n:Int),a⟩:=bX.of (by have:(n:Int)<=200:=h.n1;omega) (Tn hs.length_le h.len) (fun p b=>h.GD p (hs.subset b)) (Nl.2 ((Nl.1 h.q9).sublist hs))
theorem Jh(h:(vq n es)[i]?=some b):∃k,(CY (cQ n es) es)[i]?=some k/\b=es.filter fun p=>decide (cQ n es p=k):=by grind[aay]
theorem sh(h:(vq n es)[i]?=some b){k:Int}(a:(CY (cQ n es) es)[i]?=some k):p∈b↔p∈es/\cQ n es p=k:=by grind[Jh]
theorem XF(h:bX ⟨(n:Int),es⟩):AtS (n:Int) es (vq n es):=by
 obtain⟨nd,c⟩:=lQ (cQ n es) _ es rfl;have l:∀b∈vq n es,b≠[]:=fun b hb=>by obtain⟨i,hi⟩:=qy.1 hb;obtain⟨k,m,rfl⟩:=Jh hi;obtain⟨p,d,e⟩:=(c k).1 (BS m);have:p∈es.filter fun p=>decide (cQ n es p=k):=pw;grind
 refine⟨l,fun b hb=>?_,fun i b B p q hb sZ d C=>?_,fun b hb p d=>?_,fun i j b B p hb sZ d D=>?_,fun p d=>?_,?_⟩
 .grind[List.mem_iff_getElem?,Jh,bX.sub,List.filter_sublist]
 .obtain⟨k,m,e⟩:=Jh hb;obtain⟨E,f,e'⟩:=Jh sZ;obtain⟨x,r,w,h2,h3⟩:=fk_first (cQ n es) _ es rfl i (i+1) k E NH m f;have g:=(sh sZ f).1 (BS C);obtain⟨y,A⟩:=qy.1 g.1;have o:=h3 y q A g.2;have s:=h.q9.lt o w A;have a:r∈b:=by grind[List.mem_of_getElem?]
  have u:b.Pairwise fun x y=>x.1<y.1\/x.1=y.1/\x.2<y.2:=by rw[e];exact(Nl.1 h.q9).filter _
  cases b with
  |nil=>cases a
  |cons z t=>
   simp at d;subst d;rw[gK]at u;rw[vZ]at a;rcases a with rfl|a
   .exact s
   grind
 .grind[List.mem_iff_getElem?,Jh]
 .grind[Jh,List.getElem?_inj]
 .obtain⟨i,hi⟩:=qy.1 ((c _).2 ⟨p,d,rfl⟩);have v:(vq n es)[i]?=some (es.filter fun q=>decide (cQ n es q=cQ n es p)):=by grind[aay]
  exact⟨_,BS v,pw⟩
 .rw[aay,vY];have w:(CY (cQ n es) es).length<=(es.map (cQ n es)).length:=nd.length_le_of_subset pw;have h2:es.length<=594:=h.len;grind
theorem Zg(d:bX ⟨(n:Int),es⟩)(e:p∈es):∃(k:Nat)(b:List Pr),(vq n es)[k]?=some b/\p∈b/\Met (vq n es) (vq n es).length 0 p (k:Int):=by obtain⟨b,hb,a⟩:=(XF d).all p e;obtain⟨k,c⟩:=qy.1 hb;exact⟨k,b,c,a,k,b,c,rfl,.inl ⟨(Ny.1 c).1,a⟩⟩
def AN(v:Int)(p:Pr):Bool:=decide (p.1=v)||decide (p.2=v)
def woV(es:List Pr)(v:Nat):List Pr:=es.filter fun p=>!AN (v:Int) p
theorem rI{v x y:Nat}:Jp (woV es v) x y↔Jp es x y/\x≠v/\y≠v:=by grind[Jp,woV,AN]
theorem aj3{v a b:Nat}(ha:a≠v):Pu (woV es v) a b↔Cn (wo v) es a b:=by
 constructor
 .intro h
  induction h with
  |refl _=>exact .refl (iO ha)
  |step _ a _ d=>exact d.step (rI.1 a).1 (by grind[rI])
 .intro h
  induction h with
  |refl _=>grind[Pu.refl]
  |step c a o d=>exact .step d (by grind[rI,Cn.off2]) rfl
theorem ends(e:InR n es)(d:p∈es):∃a c:Nat,p=((a:Int),(c:Int))/\a<c/\c<n/\Jp es a c:=by have b:=e p d;obtain⟨x,y⟩:=p;obtain⟨a,rfl⟩:=Z6 b.1;obtain⟨c,rfl⟩:=Z6 (show 0<=y by omega);exact⟨a,c,rfl,NH,NH,.inl d⟩
section
attribute [local irreducible] Kp MQ lU rS KO KN KX KE VK Kl ZJ TC aab
variable {X:Nat} {ev:Value} {h:aae} {ps:List Pr}
theorem GX.push2{n:Int}(g:GX h X n ev ps)(hw:WF h)(p:Pr)(m:ps.length+1<=100000):
  ∃v' d c e,abB Tryz.prog h 22 1 [(0,UI p)]=some (.slice (some ⟨h.next,0,none⟩) 1 1,d)/\adg Tryz.prog d 22 22 ev (.slice (some ⟨h.next,0,none⟩) 1 1)=some (v',c)/\acs Tryz.prog c 22 (.pointer (some ⟨X,1,none⟩)) v'=some e/\
   GX e X n v' (ps++[p])/\WF e/\Le h d/\(∀f,Le f h->f.own X=none->Z2 f ev->Le f e/\Z2 f v')/\(∀b o,h.own b=some o->b≠X->blk ev≠some b->e.own b=some o/\blk v'≠some b)/\
   (∀f,Le f h->Z2 f ev->Le f c)/\c.own X=some (.cells [.int .i64 n,ev]):=by
 obtain⟨v',d,c,q,r,j,k,l4,hf,s⟩:=g.gp.push hw p m;obtain⟨a,i⟩:=s X _ g.ox g.ne;have one:=j.pr.sl.one;have u:v'.cells=#[v']:=by obtain⟨_,_,rfl,_⟩:=j.pr.sl;rfl
 have st:=QB (P:=Tryz.prog) (t:=22) (x:=v') eY Ji a (off:=1) Ma u one;refine⟨v',d,c,_,q,r,st,⟨aae.Y3 _ _ _,GS.put j _ i,i⟩,k.put _ (k.lt a),l4,fun f l v af=>?_,fun b o hb w y=>?_,fun f l af=>(hf f l af).1,a⟩
 all_goals grind[Le.put,aae.By]
theorem aj4(W0:LA)(v:Value)(n w:Nat)(es:List Pr)(h:aae)(hg:GR h v ⟨(n:Int),es⟩)(hn:es.length<=1000):
  AC Tryz.prog W0 124 [v,.int .i64 (w:Int)] h fun x h'=>∃ev,x=.agg #[.int .i64 (n:Int),ev]/\GP h' ev (woV es w)/\Le h h'/\Z2 h ev:=by
 have aj:=hg
 obtain⟨ev,rfl,u⟩:=hg.open
 refine AC.vE ⟨Tryz.func124,rfl,WY⟩ Tryz.ntmps124 Tryz.results124 fun K=>?_;simp only[Br,seval];obtain⟨f,b1,j,y,-,z⟩:=r8 (n:=(n:Int)) K u
 generalize h.next=B at*
 obtain⟨h2,e2,l2,w2,o2⟩:=Tt y [.int .i64 0,.slice none 0 0];have A:=z h2 l2
 have nR:f.own f.next=none:=(Le.refl f).next y (qL0 _)
 obtain⟨h3,h4,e3,e4,l4,w4,nX,C⟩:=GX.new w2 (n:Int);have L:=z h4 (l2.trans l4)
 have D:h2.next≠f.next:=fun e=>by grind
 have E:=l4.own _ _ o2;have hlen:=fun g=>u.len g;have al:=Lo f;rw[e2]at al;refine Sk (Pj b1 al @Ii @Di @Ip.eq_1 @Gc A.2.1 @Zp e3 e4) ?_;have M:=l2.none nX
 generalize h2.next=X at*
 generalize f.next=R at*
 have aX:Z2 f (.slice none 0 0):=fun b hb=>by cases hb
 refine lIn (fun k fr m=>∃(i:Nat)(a:Value),k=es.length-i/\i<=es.length/\fr=mkF [(1,.int .i64 (w:Int)),(2,.pointer (some ⟨B,0,none⟩)),(4,.pointer (some ⟨R,0,none⟩)),(5,.pointer (some ⟨X,0,none⟩)),(6,.int .i64 i)]/\
   GX m X (n:Int) a ((es.take i).filter fun p=>!AN (w:Int) p)/\Le f m/\Z2 f a/\m.own R=some (.cells [.int .i64 0,.slice none 0 0])/\blk a≠some R) ⟨0,_,rfl,WA _,rfl,C,l2.trans l4,aX,E,by simp[blk]⟩ ?_
 clear C aX E L w4 l4 e4 e3 o2 e2 A;clear h3 h4;rintro k fr m N ⟨i,a,rfl,hi,rfl,s,leq,ax,oR,o⟩;have l:=z m leq;simp only[HO,seval,Di,Ip,Gc,l.2.2,hlen];refine Kl.intro (fun ht=>?_) (fun hf=>?_)
 .have c:i<es.length:=CC ht;clear ht;have d:=CA c;have O:es.take (i+1)=es.take i++[es[i]]:=EL c;generalize es[i]=p at d O;have ad:=u.addr (k:=.i64) i c;have q:=u.le (j.trans leq);have ld:=q.load d;have F:=q.l0 d;have P:=q.l1 d;simp only[Ip]at F P;simp only[Qn]at F;have skip:AN (w:Int) p=true->(es.take (i+1)).filter (fun p=>!AN (w:Int) p)=(es.take i).filter (fun p=>!AN (w:Int) p):=fun hb=>by grind
  by_cases c1:p.1=(w:Int)
  .have d1:decide (p.1=(w:Int))=true:=XJ c1;simp only[HO,seval,bne,Di,Ip,Gc,Qn,l.2.2,ad,Dh,F,d1,Tw i NH];exact lgA NH ⟨i+1,a,rfl,c,rfl,by grind[AN],leq,ax,oR,o⟩
  have d1:decide (p.1=(w:Int))=false:=Sb c1;by_cases c2:p.2=(w:Int)
  .have d2:decide (p.2=(w:Int))=true:=XJ c2;simp only[HO,seval,bne,Di,Ip,Gc,Qn,l.2.2,ad,Dh,Z0,F,P,d1,d2,Tw i NH];exact lgA NH ⟨i+1,a,rfl,c,rfl,by grind[AN],leq,ax,oR,o⟩
  have d2:decide (p.2=(w:Int))=false:=Sb c2;have aq:(es.take (i+1)).filter (fun p=>!AN (w:Int) p)=(es.take i).filter (fun p=>!AN (w:Int) p)++[p]:=by grind[AN]
  have ar:((es.take i).filter fun p=>!AN (w:Int) p).length<=i:=pw;obtain⟨v',g4,g5,g6,q4,q5,q6,av,w9,t,f9,k9,f5,Q⟩:=s.push2 N p NH;have G:=f5 f leq ax;have S:=z g5 G;have H:acd Tryz.prog g5 22 ⟨X,1,none⟩=some a:=Fq eY rfl Q;have T:=(u.le (j.trans G)).load d;obtain⟨l9,a9⟩:=f9 f leq M ax;obtain⟨U,V⟩:=k9 R _ oR (Hs D) o;have W:=s.ld;have I:=z g4 (leq.trans t);have J:=(s.le t).ld;have aa:=(q.le t).load d;simp only[HO,seval,bne,Di,Ip,Gc,Qn,l.2.2,ad,Dh,Z0,F,P,d1,d2];refine gh (tA [0,1,2,3,4,5,6] (JQ 7 [6] (JQ 8 [1,7] (tA [9] (JQ 10 [0,1,2,3,4,5,6,7,8,9] .done))))) ?_;simp only[HO,seval,Qg,Di,Ip,Gc,Qn,W.2.2,J.2.2,H,l.2.2,I.2.2,S.2.2,ad,ld,aa,T,q4,q5,q6,Tw i NH];exact lgA NH ⟨i+1,v',rfl,c,rfl,pw,l9,a9,U,V⟩
 .have ae:es.length<=i:=vp hf;rw[HV ae]at s;have W:=s.ld;have r:UA Tryz.prog 24=2:=Ji;have one:=s.gp.pr.sl.one;have st:acs Tryz.prog m 24 (.pointer (some ⟨R,0,none⟩)) (.agg #[.int .i64 (n:Int),a])=some (m.put R (.cells [.int .i64 (n:Int),a])):=by
   have hc:(Value.agg #[.int .i64 (n:Int),a]).cells=#[.int .i64 (n:Int),a]:=rfl;have h0:(Value.int IntKind.i64 (n:Int)).oneCell'=true:=rfl;simp[acs,oR,hc,r,putCells,yU,one,h0]
  have oo:=aae.Y3 m R (.cells [.int .i64 (n:Int),a]);have ag:acd Tryz.prog (m.put R (.cells [.int .i64 (n:Int),a])) 24 ⟨R,0,none⟩=some (.agg #[.int .i64 (n:Int),a]):=by rw[Wx yU rfl r oo Ma];rfl
  simp only[HO,seval,W.1,st,ag];exact⟨a,rfl,GS.put s.gp _ o,(j.trans leq).put _ (j.none nR),fun b hb=>j.none (ax b hb)⟩
def Ct(v:Value)(n:Nat):Prop:=∃a cap,v=.slice a n cap/\((cap<UNK/\n<=cap)\/(cap=UNK+2/\a.isSome))
def GRC(h:aae)(v:Value)(G:GM):Prop:=∃ev,v=.agg #[.int .i64 G.n,ev]/\PR h ev G.es/\Ct ev G.es.length
theorem za(ps:List Pr)(i:Nat):Iu (ps.drop i)=(Iu ps).drop (i*2):=by
 induction ps generalizing i with
 |nil=>simp[Iu]
 |cons p ps a=>
  cases i with
  |zero=>simp[Iu]
  |succ i=>have e:Iu (p::ps)=.int .i64 p.1::.int .i64 p.2::Iu ps:=rfl;grind
variable {a b u v x:Nat} {l:II}
def aj5(h:Pu (woV es v) a b):Pu es a b:=by
 induction h with
 |refl _=>exact Pu.refl _ _
 |step _ a _ c=>exact .step c (rI.1 a).1 rfl
def aj6(h:Pu (woV es v) v x):x=v:=by
 induction h with
 |refl _=>rfl
 |step _ a _ b=>subst b;exact absurd rfl (rI.1 a).2.1
theorem acS(h:Pu es v x)(g:x≠v):∃a,Jp es v a/\Pu (woV es v) a x:=by
 induction h with
 |refl _=>grind
 |@step w x c a _ d=>
  by_cases e:w=v
  .grind[Pu.refl]
  .obtain⟨b,hb,f⟩:=d e;exact⟨b,hb,.step f (by grind[rI]) rfl⟩
def woV_far(h:Pu es u x)(b:¬Pu es v x):Pu (woV es v) u x:=by
 induction h with
 |refl _=>exact Pu.refl _ _
 |@step w x c a o d=>have hw:¬Pu es v w:=fun k=>b (.step k a o);exact .step (d hw) (rI.2 ⟨a,fun e=>hw (e▸Pu.refl _ _),fun e=>b (e▸Pu.refl _ _)⟩) rfl
theorem MS{α:Type}(p:α->Bool):∀(l:List α),l.length=(l.filter p).length+(l.filter fun x=>!p x).length
 |[]=>rfl
 |x::l=>by have:=MS p l;grind
theorem Cq(nd:l.Nodup)(c:x∈l)(h:∀y∈l,y=x):l.length=1:=by
 cases l with
 |nil=>cases c
 |cons a l=>
  cases l with
  |nil=>rfl
  |cons b l=>have d:=h a Ma;have h2:=h b Ma;grind
def alP(nd:l.Nodup)(n:v∈l):2<l.length↔∃x y,x∈l/\y∈l/\x≠y/\x≠v/\y≠v:=by
 have c:=qL158 n;have o:=aaL n;have a:(l.erase v).Nodup:=nd.sublist List.erase_sublist;have m1:∀x,x∈l.erase v↔x≠v/\x∈l:=fun x=>nd.mem_erase_iff;constructor
 .intro h
  match b:l.erase v with
  |[]=>rw[b]at c;simp at c;omega
  |[_]=>rw[b]at c;simp at c;omega
  |x::y::r=>
   have d:=(m1 x).1 (by rw[b];simp);have e:=(m1 y).1 (by rw[b];simp);rw[b]at a;have:x≠y:=by simp at a;exact a.1.1
   exact⟨x,y,d.2,e.2,this,d.1,e.1⟩
 .rintro⟨x,y,d,e,f,g,i⟩;have j:=(m1 x).2 ⟨g,d⟩;have k:=(m1 y).2 ⟨i,e⟩;have h2:=qL158 j;have m:y∈(l.erase v).erase x:=a.mem_erase_iff.2 ⟨f.symm,k⟩;have h3:=aaL m;omega
open Classical in
theorem cut_more{n:Nat}{es:List Pr}(i:InR n es){v:Nat}(E:v<n):(Es n es).length+1<(Es n (woV es v)).length↔Fo.iE es v:=by
 have j:InR n (woV es v):=fun q F=>i q (uV.1 F).1;have N:=MS (fun x=>decide (Pu es v x)) (Es n es);have G:=MS (fun x=>decide (Pu es v x)) (Es n (woV es v));have H:(Es n es).filter (fun x=>!decide (Pu es v x))=(Es n (woV es v)).filter (fun x=>!decide (Pu es v x)):=by
  unfold Es;rw[dU,dU];refine EH fun x r=>?_;by_cases c:Pu es v x
  .simp[c]
  .have:(∀u,u<x->¬Pu es u x)↔(∀u,u<x->¬Pu (woV es v) u x):=⟨fun h u s k=>h u s (aj5 k),fun h u s k=>h u s (woV_far k c)⟩;simp only[this]
 obtain⟨I,l,m⟩:=B6 i v E;have O:((Es n es).filter fun x=>decide (Pu es v x)).length=1:=Cq ((qD n es).sublist fR) (x:=I) (uV.2 ⟨l,XJ m.symm⟩) fun y o=>by obtain⟨k1,k2⟩:=uV.1 o;exact rf k1 l ((U0 k2).symm.trans m.symm)
 have t:v∈(Es n (woV es v)).filter fun x=>decide (Pu es v x):=uV.2 ⟨QO.2 ⟨E,fun u s k=>by have:=aj6 k.symm;omega⟩,XJ (Pu.refl _ _)⟩;have J:=alP ((qD n (woV es v)).sublist (fR (p:=fun x=>decide (Pu es v x)))) t;rw[<-H]at G;have:(Es n es).length+1<(Es n (woV es v)).length↔2<((Es n (woV es v)).filter fun x=>decide (Pu es v x)).length:=NH;rw[this,J];constructor
 .rintro⟨x,y,r,o,w,z,A⟩;obtain⟨k1,k2⟩:=uV.1 r;obtain⟨K,L⟩:=uV.1 o;obtain⟨a,ha,B⟩:=acS (U0 k2) z;obtain⟨b,hb,C⟩:=acS (U0 L) A;refine⟨a,b,ha,hb,fun c=>w ?_⟩;have d:a≠v:=by simpa[wo]using c.off1
  exact rf k1 K (B.symm.trans (((aj3 d).2 c).trans C))
 .rintro⟨a,b,ha,hb,M⟩;have d:a≠v:=fun e=>by subst e;exact Xa i ha
  have D:b≠v:=fun e=>by subst e;exact Xa i hb
  obtain⟨x,r,f⟩:=B6 j a (ha.lt i).2;obtain⟨y,o,g⟩:=B6 j b (hb.lt i).2;refine⟨x,y,uV.2 ⟨r,XJ ((abp ha).trans (aj5 f).symm)⟩,uV.2 ⟨o,XJ ((abp hb).trans (aj5 g).symm)⟩,?_,?_,?_⟩
  .rintro rfl;exact M ((aj3 d).1 (f.symm.trans g))
  .rintro rfl;exact d (aj6 f)
  .rintro rfl;exact D (aj6 g)
open Classical in
theorem akw{n:Nat}{es:List Pr}(a:InR n es):JL n es=(List.range n).filter fun v=>decide (Fo.iE es v):=by grind[JL.eq_1,List.filter_congr,Cv]
open Classical in
theorem alQ(s:LA)(v:Value)(G:GM)(h:aae)(hg:GR h v G):
  AC Tryz.prog s 105 [v] h fun x h'=>Le h h'/\((¬bX G/\x=.tuple #[.slice none 0 0,.int .i64 20])\/(bX G/\∃cv,x=.tuple #[cv,.int .i64 0]/\GI h' cv (aaa (JL G.n.toNat G.es))/\Z2 h cv)):=by
 have j:=hg;obtain⟨J,es⟩:=G
 obtain⟨ev,rfl,O⟩:=hg.open
 refine AC.vE ⟨Tryz.func105,rfl,WY⟩ Tryz.ntmps105 Tryz.results105 fun y=>?_;simp only[Br,seval];obtain⟨q,P,a,Q,-,w⟩:=r8 (n:=J) y O
 generalize h.next=B at*
 have z:=w q (Le.refl _);refine Sk (XC P z.1) ?_;refine kCi Xv (agX s _ _ q (j.le a)) ?_;rintro x h2 w2 ⟨⟨R,rfl,A⟩,l2⟩;cases R with
 |false=>refine Uy ?_;grind[Le.trans]
 |true=>
 have l:=A.1 rfl;have S:0<=J:=l.n0;obtain⟨n,rfl⟩:=Z6 S;have K:(n:Int)<=200:=l.n1;have L:es.length<=594:=l.len;have hR:=l.GD;simp only[af8];have C:Z2 q (.slice none 0 0):=fun b hb=>by cases hb
 refine Uy ?_;refine lIn (fun k fr t=>∃(i:Nat)(r:Value),k=n-i/\i<=n/\fr=mkF [(1,.pointer (some ⟨B,0,none⟩)),(4,r),(5,.int .i64 i)]/\
   GI t r (aaa ((List.range i).filter fun v=>decide (Fo.iE es v)))/\Le q t/\Z2 q r) ⟨0,_,rfl,WA _,rfl,GI.nil _,l2,C⟩ ?_
 rintro k fr t T ⟨i,r,rfl,hi,rfl,go,leq,ao⟩;have u:=w t leq;refine Sk (xU @Ii @Ip.eq_1 @Gc u.2.1) ?_;refine Kl.intro (fun M=>?_) (fun hf=>?_)
 rotate_left
 .have U:n<=i:=vp hf;obtain rfl:i=n:=NH;refine Uy ?_;refine⟨a.trans leq,.inr ⟨l,r,rfl,?_,fun b hb=>a.none (ao b hb)⟩⟩;grind[akw]
 have m:i<n:=CC M;clear M;have o:=cut_more hR m;have V:List.range (i+1)=List.range i++[i]:=V3;refine Uy ?_;refine gh (tA [0,1,6] (JQ 2 [0,1] (JQ 3 [2] (tA [4,5] (JQ 7 [3,6] (tA [8,9] .done)))))) ?_;refine CO u.1 ?_;refine kGi Tryz.func124 (aj4 s (.agg #[.int .i64 (n:Int),ev]) n i es t (j.le (a.trans leq)) NH) ?_;rintro x h3 w3 ⟨W,rfl,D,l3,a3⟩;have fT:=w h3 (leq.trans l3);simp only[HO,seval,Qg,fT.1];have E:bX ⟨(n:Int),woV es i⟩:=l.sub fR;refine kGi iZ (aiz s _ n (woV es i) h3 ⟨W,rfl,D.pr⟩ E) ?_;rintro x N w4 ⟨f,l4⟩;have F:=w N (leq.trans (l3.trans l4));refine CO (XC f F.1) ?_;refine kGi iZ (aiz s _ n es N (j.le (a.trans (leq.trans (l3.trans l4)))) l) ?_;rintro x h5 X ⟨g,l5⟩;have p:=l3.trans (l4.trans l5);have H:=go.le p;have aa:(Es n (woV es i)).length<=n:=vH _ _;have hw:adA .i64 (((Es n (woV es i)).length:Int)-1)=((Es n (woV es i)).length:Int)-1:=ie _ NH NH;by_cases c:Fo.iE es i
 .have d:decide (((Es n (woV es i)).length:Int)-1>((Es n es).length:Int))=true:=XJ pw;have I:aaa ((List.range (i+1)).filter fun v=>decide (Fo.iE es v))=aaa ((List.range i).filter fun v=>decide (Fo.iE es v))++[(i:Int)]:=by grind[aaa]
  have ae:(aaa ((List.range i).filter fun v=>decide (Fo.iE es v))).length<=i:=by grind[aaa]
  obtain⟨v',g1,g2,q1,q2,ag,aj,al,fg,kg⟩:=H.push X (i:Int) NH;obtain⟨lx,ax⟩:=fg q (leq.trans p) ao;refine CO (rE f g hw d q1 q2 (Tw i NH)) ?_;exact lgA NH ⟨i+1,v',rfl,m,rfl,pw,lx,ax⟩
 .have d:decide (((Es n (woV es i)).length:Int)-1>((Es n es).length:Int))=false:=Sb (fun e=>c (o.1 NH));have I:(List.range (i+1)).filter (fun v=>decide (Fo.iE es v))=(List.range i).filter (fun v=>decide (Fo.iE es v)):=pw;refine CO (IX f g hw d (Tw i NH)) ?_;exact lgA NH ⟨i+1,r,rfl,m,rfl,pw,leq.trans p,ao⟩
def jo(p:Pr)(v:Int):Int:=if p.1=v then p.2 else if p.2=v then p.1 else-1
theorem XH(d:InR n es)(e:p∈es)(v:Nat):
  (∃a:Nat,a<n/\jo p (v:Int)=(a:Int)/\Jp es v a/\p=GW v a)\/(jo p (v:Int)=-1/\∀a,p≠GW v a):=by
 obtain⟨a,c,rfl,f,g,b⟩:=ends d e;unfold jo;by_cases h:a=v
 .grind[agR]
 .by_cases h2:c=v
  .grind[Jp.symm,agR]
  .grind[agR]
variable {k:Int} {α:Type}
theorem Yt{l:List α}(nd:l.Nodup):1<l.length↔∃x y,x∈l/\y∈l/\x≠y:=by
 constructor
 .intro h
  match l,h with
  |x::y::r,_=>rw[jz]at nd;exact⟨x,y,Ma,Ma,pw⟩
 .rintro⟨x,y,c,e,d⟩
  match l with
  |[]=>cases c
  |[a]=>grind
  |a::b::r=>simp
def atB(v:Int)(b:List Pr):Bool:=b.any (AN v)
theorem inc_pair(b:InR n es)(c:p∈es)(h:AN (v:Int) p=true):∃a,Jp es v a/\p=GW v a:=by
 rcases XH b c v with⟨a,_,_,d,h2⟩|⟨d,_⟩
 .grind
 .have:=b p c;grind[jo,AN]
theorem zo:AN (v:Int) (GW v a)=true:=by grind[AN,GW]
theorem at_iff(b:InR n es):atB (v:Int) (es.filter fun p=>decide (cQ n es p=k))=true↔∃a,Jp es v a/\cQ n es (GW v a)=k:=by grind[atB,inc_pair,aa4,zo]
def Sq(n:Nat)(es:List Pr)(v:Nat):Nat:=((vq n es).filter (atB (v:Int))).length
def aiA(n:Nat)(es:List Pr)(v:Nat):RZ:=(CY (cQ n es) es).filter fun k=>atB (v:Int) (es.filter fun p=>decide (cQ n es p=k))
def JW(n:Nat)(es:List Pr)(v:Nat):Sq n es v=(aiA n es v).length:=by rw[Sq,aay,List.filter_map,vY];rfl
theorem PS(n:Nat)(es:List Pr)(v:Nat):(aiA n es v).Nodup:=(lQ (cQ n es) _ es rfl).1.sublist fR
theorem agY(b:InR n es):k∈aiA n es v↔∃a,Jp es v a/\cQ n es (GW v a)=k:=by rw[aiA,uV,at_iff b];refine⟨fun h=>h.2,fun⟨a,ha,c⟩=>⟨((lQ (cQ n es) _ es rfl).2 k).2 (by grind[aa4]),a,ha,c⟩⟩
theorem YH(c:InR n es)(v:Nat):1<Sq n es v↔Fo.iE es v:=by
 rw[JW,Yt (PS n es v)];constructor
 .rintro⟨x,y,d,f,g⟩;obtain⟨a,ha,rfl⟩:=(agY c).1 d;obtain⟨b,hb,rfl⟩:=(agY c).1 f;exact⟨a,b,ha,hb,(by grind[dR])⟩
 .rintro⟨a,b,ha,hb,h⟩;exact⟨_,_,(agY c).2 ⟨a,ha,rfl⟩,(agY c).2 ⟨b,hb,rfl⟩,fun e=>h ((dR c ha hb).1 e)⟩
variable {P:Program} {R id m:Nat} {c:List Value} {x:Value}
theorem uj{t xt:TypeId}{k n n' id cap:Nat}{c news:List Value}(a:apT P t xt k=true)(A:h.own id=some (.cells c))(b:cap*k<=c.length)(d:cap<1000000000000)(hf:n+n'<=cap)(hs:∀e,UA P e=k->agM P h e x=some (n',news))(p:news.all (·.oneCell')=true)(f:news.length=n'*k)(hb:n+n'<=1000000000)(B:n'≠0):
  adg P h t xt (.slice (some ⟨id,0,none⟩) n cap) x=some (.slice (some ⟨id,0,none⟩) (n+n') cap,h.put id (.cells (putCells c (n*k) news))):=by
 unfold apT at a;split at a
 .rename_i e dx q r;split at a
  .rename_i z s;simp only[rY,beq_iff_eq,vg]at a;obtain⟨⟨⟨⟨⟨g,i⟩,hd⟩,j⟩,u⟩,l⟩:=a;have hs:=hs e u;have v:(n+n')*P.bytesOf e<=140737488355328:=Tn (aiD hb l) WY;have w:n+n'<=140737488355328:=NH;have o:z.cells.size=UA P e/\z.cells.toList.all (·.oneCell')/\(P.underlying e).isSome/\ahf dx/\news.all (·.oneCell')/\(n+n')*P.bytesOf e<=140737488355328/\n+n'<=140737488355328/\news.length=n'*UA P e:=
    ⟨g,i,hd,j,p,v,w,pw⟩
   have y:¬UNK<=cap:=M1.2 (V9 d WY);have m:n*k+news.length<=c.length:=by rw[f,<-WS];exact Tn (vu _ hf) b
   simp only[adg,q,r,s,hs];grind
  .cases a
 .cases a
theorem mkCapP(h:aae)(n:Nat)(f:n<=100000):∃c,afD Tryz.prog h 22 (.int .i64 0) (.int .i64 (n:Int))=some (.slice (some ⟨h.next,0,none⟩) 0 n,h.alloc (.cells c))/\c.length=n*2:=by
 have g:ag2 Tryz.prog 38=some (.agg #[.int .i64 0,.int .i64 0]):=Ji;have b:(Value.agg #[.int .i64 0,.int .i64 0]).cells=#[.int .i64 0,.int .i64 0]:=rfl;have hb:Tryz.prog.bytesOf 38=16:=Ji;have d:(16:Int)*n<=140737488355328:=NH;have e:(n:Int)<=140737488355328:=NH;have a:(ahh [Value.int .i64 0,.int .i64 0] n).all (·.oneCell')=true:=by
  clear d e f
  induction n with
  |zero=>rfl
  |succ n i=>simp only[ahh,agb,i,sD];rfl
 refine⟨ahh [.int .i64 0,.int .i64 0] n,?_,by grind[jY]⟩;simp[afD,eY,qS8,g,b,hb,WE,flat,d,e,IF,a]
theorem push_in(hw:WF h)(l:h.own id=some (.cells c))(B:c.length=m*2)(C:c.take (ps.length*2)=Iu ps)(q:ps.length<m)(D:m<=100000)(p:Pr):
  ∃a d,abB Tryz.prog h 22 1 [(0,UI p)]=some (.slice (some ⟨h.next,0,none⟩) 1 1,a)/\adg Tryz.prog a 22 22 (.slice (some ⟨id,0,none⟩) ps.length m) (.slice (some ⟨h.next,0,none⟩) 1 1)=some (.slice (some ⟨id,0,none⟩) (ps.length+1) m,d)/\WF d/\
   (∃c',d.own id=some (.cells c')/\c'.length=m*2/\c'.take ((ps++[p]).length*2)=Iu (ps++[p]))/\(∀f,Le f h->f.own id=none->Le f d)/\(∀b o,h.own b=some o->b≠id->d.own b=some o):=by
 obtain⟨a,r,l4,j,s⟩:=Tt hw (xM p)
 have u:PR a (.slice (some ⟨h.next,0,none⟩) 1 1) [p]:=by have:=CS.own (k:=2) (off:=0) (n:=1) (cap:=1) s (by simp[xM]);exact this
 have g:=l4.own _ _ l
 have key:=uj (P:=Tryz.prog) (t:=22) (xt:=22) (k:=2) (n:=ps.length) (n':=1) (cap:=m) (x:=.slice (some ⟨h.next,0,none⟩) 1 1) Ji g NH NH NH (fun e v=>CS.src v u) (WI [p]) (Ta [p]) NH NH
 have w:Iu [p]=xM p:=by simp[Iu]
 have i:ps.length*2+(Iu [p]).length<=c.length:=by grind[Ta]
 refine⟨a,_,by rw[mkP1,r],key,j.put _ (j.lt g),⟨_,aae.Y3 _ _ _,by grind[aha],?_⟩,fun f y z=>(y.trans l4).put _ z,fun b o hb A=>?_⟩
 all_goals grind[Ta,IW,mZ,aae.By,Le.own]
def DG{x y:Value}{n:Int}(d:h.own R=some (.cells [x,y]))(one:ev.oneCell'=true)(b:ev.cells=#[ev]):acs Tryz.prog h 24 (.pointer (some ⟨R,0,none⟩)) (.agg #[.int .i64 n,ev])=some (h.put R (.cells [.int .i64 n,ev])):=by
 have a:UA Tryz.prog 24=2:=Ji;have e:(Value.agg #[.int .i64 n,ev]).cells=#[.int .i64 n,ev]:=by have c:(Value.int IntKind.i64 n).cells=#[.int .i64 n]:=rfl;simp[Value.cells,b]
 have c:(Value.int IntKind.i64 n).oneCell'=true:=rfl;simp[acs,d,e,a,putCells,yU,one,c]
def tY{n:Int}(e:h.own R=some (.cells [.int .i64 n,ev]))(d:∃a l c,ev=.slice a l c):acd Tryz.prog h 24 ⟨R,0,none⟩=some (.agg #[.int .i64 n,ev]):=by have b:UA Tryz.prog 24=2:=Ji;obtain⟨a,l,c,rfl⟩:=d;rw[Wx yU rfl b e Ma];rfl
def lZ(p:Pr):Pr:=(min p.1 p.2,max p.1 p.2)
structure YG (n:Int) (ps:List Pr):Prop where
 n0:0<=n
 n1:n<=200
 len:ps.length<=594
 ok:∀p∈ps,0<=(lZ p).1/\(lZ p).1≠(lZ p).2/\(lZ p).2<n
 nd:(ps.map lZ).Nodup
def CZ:Value:=.agg #[.int .i64 0,.slice none 0 0]
def jQ:ag1 Tryz.prog 24 []=some CZ:=Ji
def build24s(n:Int)(id m c:Nat):ag1 Tryz.prog 24 [(0,.int .i64 n),(1,.slice (some ⟨id,0,none⟩) m c)]=some (.agg #[.int .i64 n,.slice (some ⟨id,0,none⟩) m c]):=Ji
theorem YG.right(k:YG (n:Int) ps):bX ⟨(n:Int),aej (ps.map lZ)⟩:=by
 have nd:(aej (ps.map lZ)).Nodup:=(YA _).nodup_iff.2 k.nd;have hle:=VH (ps.map lZ);refine bX.of (by have:=k.n1;omega) (by grind[ZS,YG.len]) (fun q a=>?_) (Nl.2 ?_)
 .rw[Wb,N8]at a;obtain⟨p,b,rfl⟩:=a;obtain⟨c,h2,h3⟩:=k.ok p b;grind[lZ]
 .refine(hle.and nd).imp fun{x y} h=>?_;grind
theorem New_any(W0:LA)(n:Int)(v:Value)(ps:List Pr)(h:aae)(hp:PR h v ps)(C:ps.length<=100000):
  AC Tryz.prog W0 29 [.int .i64 n,v] h fun x h'=>Le h h'/\((¬YG n ps/\∃k:Int,k≠0/\x=.tuple #[CZ,.int .i64 k])\/(YG n ps/\∃ev,x=.tuple #[.agg #[.int .i64 n,ev],.int .i64 0]/\GP h' ev (aej (ps.map lZ))/\Z2 h ev)):=by
 refine AC.vE ⟨Tryz.func29,rfl,WY⟩ Tryz.ntmps29 Tryz.results29 fun K=>?_;simp only[Br,seval];obtain⟨j,e1,l1,w1,L⟩:=Tt K [.int .i64 0,.slice none 0 0];have l:=Lo h;rw[e1]at l
 have nR:h.own h.next=none:=(Le.refl h).next K (qL0 _)
 generalize h.next=R at*
 have hlen:=fun g=>hp.len g;have r:∀g:aae,g.own R=some (.cells [.int .i64 0,.slice none 0 0])->acs Tryz.prog g 24 (.pointer (some ⟨R,0,none⟩)) CZ=some (g.put R (.cells [.int .i64 0,.slice none 0 0])):=fun g o=>DG o rfl rfl;have ldE:∀g:aae,acd Tryz.prog (g.put R (.cells [.int .i64 0,.slice none 0 0])) 24 ⟨R,0,none⟩=some CZ:=fun g=>tY (aae.Y3 _ _ _) ⟨_,_,_,rfl⟩;have fail:∀(g:aae)(k:Int),k≠0->Le h g->¬YG n ps->Le h (g.put R (.cells [.int .i64 0,.slice none 0 0]))/\((¬YG n ps/\∃k':Int,k'≠0/\Value.tuple #[CZ,.int .i64 k]=.tuple #[CZ,.int .i64 k'])\/(YG n ps/\∃ev,Value.tuple #[CZ,.int .i64 k]=.tuple #[.agg #[.int .i64 n,ev],.int .i64 0]/\GP (g.put R (.cells [.int .i64 0,.slice none 0 0])) ev (aej (ps.map lZ))/\Z2 h ev)):=fun g k hk lg aB=>⟨lg.put _ nR,.inl ⟨aB,k,hk,rfl⟩⟩;by_cases c1:n>200
 .have d1:decide (n>200)=true:=XJ c1;simp only[HO,seval,l,d1,jQ,r j L,ldE j];exact fail j 21 WY l1 (fun k=>by have:=k.n1;omega)
 have d1:decide (n>200)=false:=Sb c1;by_cases c2:(ps.length:Int)>594
 .have d2:decide ((ps.length:Int)>594)=true:=XJ c2;simp only[HO,seval,l,d1,hlen,d2,jQ,r j L,ldE j];exact fail j 21 WY l1 (fun k=>by grind[YG.len])
 have d2:decide ((ps.length:Int)>594)=false:=Sb c2;by_cases c3:n<0
 .have d3:decide (n<0)=true:=XJ c3;simp only[HO,seval,l,d1,hlen,d2,d3,jQ,r j L,ldE j];exact fail j 20 WY l1 (fun k=>by have:=k.n0;omega)
 have d3:decide (n<0)=false:=Sb c3
 obtain⟨h2,e2,l2,w2,o2⟩:∃h2,j.alloc (.map [])=h2/\Le j h2/\WF h2/\h2.own j.next=some (.map []):=⟨_,rfl,(Le.refl j).alloc w1 _,w1.alloc _,aae.zT _ _⟩
 have nM:j.own j.next=none:=(Le.refl j).next w1 (qL0 _)
 have N:R≠j.next:=fun e=>by grind
 obtain⟨c0,mk,O⟩:=mkCapP h2 ps.length C;obtain⟨h3,e3,l3,w3,o3⟩:=Tt w2 c0;rw[e3]at mk
 have nI:h2.own h2.next=none:=(Le.refl h2).next w2 (qL0 _)
 simp only[HO,seval,l,d1,hlen,d2,d3,e2,mk];have P:=l3.own _ _ o2;have Q:=l3.own _ _ (l2.own _ _ L)
 have D:h2.next≠j.next:=fun e=>by grind
 have S:h2.next≠R:=fun e=>by grind[Le.own]
 have aC:h.own h2.next=none:=(l1.trans l2).none nI
 have aD:h.own j.next=none:=l1.none nM
 have T:=(l1.trans l2).trans l3
 generalize j.next=M at*
 generalize h2.next=I at*
 refine aab.intro (fun k fr t=>∃(i:Nat)(l:List (Pr×Int))(c:List Value),k=ps.length-i/\i<=ps.length/\fr=mkF [(0,.int .i64 n),(4,.pointer (some ⟨R,0,none⟩)),(6,.map (some M)),(7,.slice (some ⟨I,0,none⟩) ((ps.take i).map lZ).length ps.length),(28,v),(29,.int .i64 ps.length),(30,.int .i64 i)]/\
   t.own R=some (.cells [.int .i64 0,.slice none 0 0])/\t.own M=some (.map (aan l))/\(∀q,q∈l.map (·.1)↔q∈(ps.take i).map lZ)/\t.own I=some (.cells c)/\c.length=ps.length*2/\c.take (((ps.take i).map lZ).length*2)=Iu ((ps.take i).map lZ)/\
   (∀p∈ps.take i,0<=(lZ p).1/\(lZ p).1≠(lZ p).2/\(lZ p).2<n)/\((ps.take i).map lZ).Nodup/\Le h t)
  ps.length [(0,.int .i64 n),(4,.pointer (some ⟨R,0,none⟩)),(6,.map (some M)),(7,.slice (some ⟨I,0,none⟩) 0 ps.length),(28,v),(29,.int .i64 ps.length),(30,.int .i64 (0:Nat))] hAs
  ⟨0,[],c0,rfl,WA _,rfl,Q,P,Ma,o3,O,rfl,Ma,Ma,T⟩ ?_
 clear o3 O P Q w3 l3 T e3 mk o2 w2 l2 e2 nI nM l L w1 l1 e1;clear h3 h2 j c0;rintro k fr t U ⟨i,l,c,rfl,hi,rfl,oR,oM,V,oI,aE,X,aa,F,leq⟩;have ae:((ps.take i).map lZ).length=i:=pw;refine Uy ?_;refine Kl.intro (fun ht=>?_) (fun hf=>?_)
 rotate_left
 .have bg:ps.length<=i:=vp hf;obtain rfl:i=ps.length:=NH;rw[ae,HV (qL0 _)]at X;rw[HV (qL0 _)]at aa F;have aF:YG n ps:=⟨NH,NH,NH,aa,F⟩;have g:GP t (.slice (some ⟨I,0,none⟩) ps.length ps.length) (ps.map lZ):=by grind[GS.full,GP.eq_1]
  have ag:Z2 h (.slice (some ⟨I,0,none⟩) ps.length ps.length):=fun b hb=>by injection hb with hb;grind
  have bs:=build24s n I ps.length ps.length;have bI:blk (.slice (some ⟨I,0,none⟩) ps.length ps.length)=some I:=rfl;rw[ae];refine Uy ?_;generalize G:Value.slice (some ⟨I,0,none⟩) ps.length ps.length=sv at*;refine kCi Tryz.func69 (Lr W0 g (by rw[vY];omega) 63 (enters_of Tryz.func63 Ji rfl) fun W p q=>(DU _ p q _).mono fun _ _ h=>h.1) ?_;rintro x h4 w4 ⟨rfl,g4,f4⟩;have l4:=f4 h leq ag;have aH:h4.own R=some (.cells [.int .i64 0,.slice none 0 0]):=(aG (v':=sv) (fun f _ lf af=>⟨f4 f lf af,af⟩) U oR pw).1;have st:=DG (n:=n) (ev:=sv) aH (by rw[<-G];rfl) (by rw[<-G];rfl);have ld:=tY (n:=n) (ev:=sv) (aae.Y3 h4 R _) ⟨_,_,_,G.symm⟩;simp only[HO,seval,bs,st,ld];exact⟨l4.put _ nR,.inr ⟨aF,sv,rfl,GS.put g4 _ pw,ag⟩⟩
 have u:i<ps.length:=CC ht;clear ht;have aj:=CA u;have A:ps.take (i+1)=ps.take i++[ps[i]]:=EL u;have aq:=j9 u;generalize ps[i]=p at aj A aq;have ad:=hp.addr (k:=.i64) i u;have ld:=(hp.le leq).load aj;obtain⟨bh,h7,e7,aJ,l7,w7,o7⟩:=Ut U p;obtain⟨bj,m,e8,aK,l8,w8,o8⟩:=Ut w7 (lZ p);have bn:ag1 Tryz.prog 38 [(0,.int .i64 (min p.1 p.2)),(1,.int .i64 (max p.1 p.2))]=some (UI (lZ p)):=bP2 _ _;simp only[HO,seval,ad,ld,e7,aJ,Dh,Z0,Ip,Gc,lK o7,HY o7,Dv,amax_i,bn,e8,aK];have w:=leq.trans (l7.trans l8);have y:=(l7.trans l8).own _ _ oR;have H:=(l7.trans l8).own _ _ oM;have aP:=(l7.trans l8).own _ _ oI
 have aT:h7.next≠M:=fun e=>by grind
 have bk:h7.next≠I:=fun e=>by grind[Le.next]
 generalize hE:h7.next=E at*
 have m0:=lK o8;have m1:=HY o8;have bad:¬(0<=(lZ p).1/\(lZ p).1≠(lZ p).2/\(lZ p).2<n)->¬YG n ps:=fun hn k=>hn (k.ok p aq);by_cases q1:(lZ p).1<0
 .have d:decide ((lZ p).1<0)=true:=XJ q1;simp only[HO,seval,Dh,Z0,Ip,Gc,m0,m1,d,jQ,r m y,ldE m];exact fail m 20 WY w (bad NH)
 have B:decide ((lZ p).1<0)=false:=Sb q1;by_cases q2:(lZ p).1=(lZ p).2
 .have d:decide ((lZ p).1=(lZ p).2)=true:=XJ q2;simp only[HO,seval,Dh,Z0,Ip,Gc,m0,m1,B,d,jQ,r m y,ldE m];exact fail m 20 WY w (bad NH)
 have J:decide ((lZ p).1=(lZ p).2)=false:=Sb q2;by_cases q3:(lZ p).2>=n
 .have d:decide ((lZ p).2>=n)=true:=XJ q3;simp only[HO,seval,Dh,Z0,Ip,Gc,m0,m1,B,J,d,jQ,r m y,ldE m];exact fail m 20 WY w (bad NH)
 have ar:decide ((lZ p).2>=n)=false:=Sb q3;have lp:=uM o8;have lk:=Il H (lZ p) true;by_cases q4:lZ p∈(ps.take i).map lZ
 .have hs:(agP l (lZ p)).isSome=true:=by
   have:=HU.2 ((V _).2 q4);cases hh:agP l (lZ p)with
   |none=>grind
   |some x=>rfl
  rw[hs]at lk;simp only[HO,seval,Dh,Z0,Ip,Gc,m0,m1,B,J,ar,lp,ahn,lk,jQ,r m y,ldE m];refine fail m 20 WY w fun k=>?_;have nd:=k.nd;rw[<-qL92 (i+1) ps,A,MY,MY]at nd;have:=(ZT.1 nd).1;rw[ZT]at this;grind
 have hs:agP l (lZ p)=none:=by
  cases hh:agP l (lZ p)with
  |none=>rfl
  |some x=>grind[HU]
 rw[hs]at lk;simp only[Option.isSome_none,Option.getD_none]at lk;have sm:=pW H (lZ p) (i:Int);have w9:=w8.put (.map (aan (ahU l (lZ p) (i:Int)))) (w8.lt H);have aV:=aae.Y3 m M (.map (aan (ahU l (lZ p) (i:Int))));have s:∀b o,m.own b=some o->b≠M->(m.put M (.map (aan (ahU l (lZ p) (i:Int))))).own b=some o:=fun b o ho hb=>by grind[aae.By]
 have aW:=s R _ y N;have aX:=s I _ aP D;have a1:=s E _ o8 aT;have l9:=w.put (.map (aan (ahU l (lZ p) (i:Int)))) aD;refine Sk (Da @Dh @Z0 @Ip.eq_1 @Gc m0 m1 B J ar lp @ahn lk @afa sm) ?_;generalize m.put M (.map (aan (ahU l (lZ p) (i:Int))))=h9 at*;have a6:=uM a1;obtain⟨bm,bo,a7,a8,br,⟨c',av,ay,bb⟩,ba,az⟩:=push_in w9 aX aE X pw C (lZ p);have z:(ps.take (i+1)).map lZ=(ps.take i).map lZ++[lZ p]:=by rw[A,MY];rfl
 refine Sk (xU a6 a7 a8 (Tw i NH)) ?_;refine tn (ps.length-(i+1)) [(0,.int .i64 n),(4,.pointer (some ⟨R,0,none⟩)),(6,.map (some M)),(7,.slice (some ⟨I,0,none⟩) (((ps.take i).map lZ).length+1) ps.length),(28,v),(29,.int .i64 ps.length),(30,.int .i64 (i+1:Nat))] NH hAs
  ⟨i+1,_,c',rfl,u,by rw[z,eR];rfl,az R _ aW (Hs S),az M _ aV (Hs D),fun q=>?_,av,ay,pw,fun q t=>?_,?_,ba h l9 aC⟩
 .rw[Kf,V,z,yM];simp;exact or_comm
 .rw[A,yM]at t;rcases t with t|t
  .grind
  .simp at t;grind
 .rw[z,ZT];refine⟨F,Ma,fun a ha b hb e=>?_⟩;simp at hb;grind
theorem ahD(o:LA)(v:Value)(xs:RZ)(y:Int)(h:aae)(b:RL RP h v xs)(u:xs.length<=100000):
  AC Tryz.prog o 148 [v,.int .i64 y] h fun x h'=>((y∉xs/\x=.int .i64 (-1))\/∃i:Nat,x=.int .i64 (i:Int)/\xs[i]?=some y/\∀j,j<i->xs[j]?≠some y)/\h'=h:=by
 refine AC.vE ⟨alN,rfl,WY⟩ Tryz.ntmps148 Tryz.results148 fun p=>?_;simp only[Br,seval];have e:=fun g=>b.DH g;refine Uy ?_;refine lIn (fun k fr l=>∃i:Nat,k=xs.length-i/\i<=xs.length/\fr=mkF [(0,v),(1,.int .i64 y),(5,.int .i64 i)]/\l=h/\∀j:Nat,j<i->xs[j]?≠some y) ⟨0,rfl,WA _,rfl,rfl,fun j m=>absurd m (Ki j)⟩ ?_;rintro k fr l q ⟨i,rfl,hi,rfl,rfl,r⟩;refine Sk e ?_;refine Kl.intro (fun n=>?_) (fun hf=>?_)
 .have a:i<xs.length:=CC n;clear n;have ad:=b.TA i a;have ld:=b.Uc i a;have s:=yY a;have f:=Tw i NH;generalize xs[i]=z at s ld;by_cases c:z=y
  .have d:decide (z=y)=true:=XJ c;simp only[HO,seval,e,ad,ld,d];grind
  .have d:decide (z=y)=false:=Sb c;simp only[HO,seval,e,ad,ld,d,f];refine lgA NH ⟨i+1,rfl,a,rfl,rfl,fun j m=>?_⟩;grind
 .have t:xs.length<=i:=vp hf;refine Uy ?_;grind[List.mem_iff_getElem?]
def ajj(p:Pr)(a b:Int):Bool:=(decide (p.1=a)&&decide (p.2=b))||(decide (p.1=b)&&decide (p.2=a))
def ais(es:List Pr)(a b:Int):List Pr:=es.filter fun p=>!ajj p a b
def akx(e:LA)(p:Pr)(a b:Int)(h:aae):AC Tryz.prog e 121 [UI p,.int .i64 a,.int .i64 b] h fun x h'=>x=.bool (ajj p a b)/\Le h h':=by
 refine AC.vE ⟨Tryz.func121,rfl,WY⟩ Tryz.ntmps121 Tryz.results121 fun c=>?_;simp only[Br,seval];obtain⟨l,f,l1,w1,d⟩:=Tt c (xM p);have g:=lK d;have i:=HY d;unfold ajj;cases c1:decide (p.1=a)<;>cases c2:decide (p.2=b)<;>cases j:decide (p.1=b)<;>cases k:decide (p.2=a)<;>
  simp only[HO,seval,Ci,f,Dh,Z0,Ip,Gc,g,i,c1,c2,j,k]<;>exact⟨rfl,l1⟩
theorem ajK(W0:LA)(v:Value)(n:Int)(a b:Int)(es:List Pr)(h:aae)(hg:GR h v ⟨n,es⟩)(hn:es.length<=1000):
  AC Tryz.prog W0 74 [v,.int .i64 a,.int .i64 b] h fun x h'=>∃ev,x=.agg #[.int .i64 n,ev]/\GP h' ev (ais es a b)/\Le h h'/\Z2 h ev:=by
 have ae:=hg
 obtain⟨ev,rfl,w⟩:=hg.open
 refine AC.vE ⟨Tryz.func74,rfl,WY⟩ Tryz.ntmps74 Tryz.results74 fun J=>?_;simp only[Br,seval];obtain⟨f,b1,d,z,-,y⟩:=r8 (n:=n) J w
 generalize h.next=B at*
 obtain⟨h2,e2,l2,w2,o2⟩:=Tt z [.int .i64 0,.slice none 0 0];have A:=y h2 l2
 have nR:f.own f.next=none:=(Le.refl f).next z (qL0 _)
 obtain⟨h3,h4,e3,e4,l4,w4,nX,C⟩:=GX.new w2 n;have K:=y h4 (l2.trans l4)
 have D:h2.next≠f.next:=fun e=>by grind
 have E:=l4.own _ _ o2;have hlen:=fun g=>w.len g;have al:=Lo f;rw[e2]at al;refine Sk (Pj b1 al @Ii @Di @Ip.eq_1 @Gc A.2.1 @Zp e3 e4) ?_;have L:=l2.none nX
 generalize h2.next=X at*
 generalize f.next=R at*
 have aX:Z2 f (.slice none 0 0):=fun b hb=>by cases hb
 refine lIn (fun k fr m=>∃(i:Nat)(c:Value),k=es.length-i/\i<=es.length/\fr=mkF [(1,.int .i64 a),(2,.int .i64 b),(3,.pointer (some ⟨B,0,none⟩)),(6,.pointer (some ⟨R,0,none⟩)),(7,.pointer (some ⟨X,0,none⟩)),(8,.int .i64 i)]/\
   GX m X n c ((es.take i).filter fun p=>!ajj p a b)/\Le f m/\Z2 f c/\m.own R=some (.cells [.int .i64 0,.slice none 0 0])/\blk c≠some R) ⟨0,_,rfl,WA _,rfl,C,l2.trans l4,aX,E,by simp[blk]⟩ ?_
 clear C aX E K w4 l4 e4 e3 o2 e2 A;clear h3 h4;rintro k fr m ag ⟨i,c,rfl,hi,rfl,o,leq,ax,oR,t⟩;have q:=y m leq;simp only[HO,seval,Di,Ip,Gc,q.2.2,hlen];refine Kl.intro (fun ht=>?_) (fun hf=>?_)
 .have j:i<es.length:=CC ht;clear ht;have l:=CA j;have M:es.take (i+1)=es.take i++[es[i]]:=EL j;generalize es[i]=p at l M;have ad:=w.addr (k:=.i64) i j;have r:=w.le (d.trans leq);have ld:=r.load l;simp only[HO,seval,Di,Ip,Gc,Qn,q.2.2,ad,ld];refine kCi Tryz.func121 (akx W0 p a b m) ?_;rintro bv hr N ⟨rfl,lr⟩;have o:=o.le lr;have leq:=leq.trans lr;have q:=y hr leq;have oR:=lr.own _ _ oR;have r:=w.le (d.trans leq);have ld:=r.load l;cases aj:ajj p a b with
  |true=>have e:(es.take (i+1)).filter (fun p=>!ajj p a b)=(es.take i).filter (fun p=>!ajj p a b):=pw;refine Sk (Tw i NH) ?_;exact lgA NH ⟨i+1,c,rfl,j,rfl,pw,leq,ax,oR,t⟩
  |false=>have aq:(es.take (i+1)).filter (fun p=>!ajj p a b)=(es.take i).filter (fun p=>!ajj p a b)++[p]:=pw;have ar:((es.take i).filter fun p=>!ajj p a b).length<=i:=pw;obtain⟨v',g4,g5,g6,q4,q5,q6,av,w9,u,f9,k9,f5,O⟩:=o.push2 N p NH;have F:=f5 f leq ax;have P:=y g5 F;have G:acd Tryz.prog g5 22 ⟨X,1,none⟩=some c:=Fq eY rfl O;have Q:=(w.le (d.trans F)).load l;obtain⟨l9,a9⟩:=f9 f leq L ax;obtain⟨S,T⟩:=k9 R _ oR (Hs D) t;have U:=o.ld;have H:=y g4 (leq.trans u);have I:=(o.le u).ld;have V:=(r.le u).load l;refine Uy ?_;refine gh (tA [0,1,2,3,4,5,6] (JQ 7 [6] (JQ 8 [1,7] (tA [9] (JQ 10 [0,1,2,3,4,5,6,7,8,9] .done))))) ?_;simp only[HO,seval,Qg,Di,Ip,Gc,Qn,U.2.2,I.2.2,G,q.2.2,H.2.2,P.2.2,ad,ld,V,Q,q4,q5,q6,Tw i NH];exact lgA NH ⟨i+1,v',rfl,j,rfl,pw,l9,a9,S,T⟩
 .have W:es.length<=i:=vp hf;rw[HV W]at o;have U:=o.ld;have s:UA Tryz.prog 24=2:=Ji;have one:=o.gp.pr.sl.one;have st:acs Tryz.prog m 24 (.pointer (some ⟨R,0,none⟩)) (.agg #[.int .i64 n,c])=some (m.put R (.cells [.int .i64 n,c])):=by
   have hc:(Value.agg #[.int .i64 n,c]).cells=#[.int .i64 n,c]:=rfl;have h0:(Value.int IntKind.i64 n).oneCell'=true:=rfl;simp[acs,oR,hc,s,putCells,yU,one,h0]
  have oo:=aae.Y3 m R (.cells [.int .i64 n,c]);have aa:acd Tryz.prog (m.put R (.cells [.int .i64 n,c])) 24 ⟨R,0,none⟩=some (.agg #[.int .i64 n,c]):=by rw[Wx yU rfl s oo Ma];rfl
  simp only[HO,seval,U.1,st,aa];exact⟨c,rfl,GS.put o.gp _ t,(d.trans leq).put _ (d.none nR),fun b hb=>d.none (ax b hb)⟩
open Go.Proofs Go.ChangeShapes Go.WideShapes Go.RowKit Go.ChangeAt
open Go.Proofs.YtkccdnmaaelbiaaGreat
section
variable{H:Type}{enc:TypeId×Value->H}{W:World}
theorem rd_room{e:TypeId}{t:TypeId}{fuel:Nat}{cs:List Value}{x:DataW H×List MemPlace}{v' v:Value}(f:Tryz.prog.underlying t=some (.slice e))(h:DataW.trod enc Tryz.prog W 0 (fun _=>true) true fuel t cs=some x)(c:cs=[v'])(d:tag v'=some v):
  ∃a n cap,v=.slice a n cap/\cap<UNK/\n<=cap:=by
 rcases Go.Deep.open_slice f h with⟨rfl,_⟩|⟨a,len,cap,m,n,D,j,rfl,hb,l,g,i,_,o⟩
 .injection c with c;subst c;have d:some (Value.slice none 0 0)=some v:=d;injection d with d;exact⟨none,0,0,d.symm,WY,qL0 _⟩
 .injection c with c;subst c;have p:cap<UNK:=acP g WY;obtain⟨b,off,sp⟩:=a;cases sp with
  |none=>grind[tag]
  |some k=>unfold tag at d;grind
theorem aky{v:Value}{d:DataW H}{ps:List MemPlace}{b0:Nat}(c:Value.okWide Tryz.prog W .any b0 24 v)(h:DataW.Trod enc Tryz.prog W 0 (fun _=>true) true 24 v d ps)(m:aad):
  ∃u G,VR 0 m u v/\GRC (MR W) u G:=by
 obtain⟨fuel,h⟩:=h;simp only[Value.okWide,yU]at c;obtain⟨cs,rfl,e,_⟩:=c;have g:Tryz.prog.cellsOf 24=2:=Ji;have s:Tryz.prog.cellsOf 3=1:=Ji;have j:Tryz.prog.cellsOf 22=1:=Ji;obtain⟨l⟩:=cs;rw[g]at e
 match l,e with
 |[x,y],_=>
  obtain⟨y0,y1,n,-,-,q,o⟩:=trod_struct2 yU h;simp only[s,j,Value.cells,ti,List.drop_succ_cons,List.take_succ_cons,age,List.drop_nil,List.take_nil]at q o;obtain⟨a,ea,_,_⟩:=DataW.trod_int Ac q;obtain⟨v',v,V,f,t1,r⟩:=rd_pairs o;obtain⟨ad,k,cap,rfl,t,w⟩:=rd_room eY o f t1;injection ea with ea;injection f with f;subst ea f;obtain⟨_,_,p,_⟩:=r.sl;injection p with _ p _;refine⟨_,⟨a,V⟩,?_,_,rfl,r,ad,cap,by rw[p],.inl ⟨t,pw⟩⟩;refine .agg Ma fun i a b ha hb=>?_
  match i with
  |0=>simp at ha hb;subst ha hb;exact .flat rfl
  |1=>grind[VR.of_tag]
  |i+2=>simp at ha
end
end
end Go.Fw
namespace Go.Fw
namespace Fo
variable{n:Nat}{es:List Pr}{num:Nat->Nat}{up:Nat->Option Nat}{hd:Nat->Nat}
theorem Io{a b:Nat}(h:pJ up a b)(ne:a≠b):up b≠none:=by grind[pJ.last]
def beg(n:Nat)(up:Nat->Option Nat)(hd:Nat->Nat):II:=(List.range n).filter fun c=>decide (up c≠none/\hd c=c)
theorem AF{c:Nat}:c∈beg n up hd↔c<n/\up c≠none/\hd c=c:=by simp[beg]
theorem beg_nd:(beg n up hd).Nodup:=QD.sublist fR
def JB(n:Nat)(up:Nat->Option Nat)(hd:Nat->Nat)(v:Nat):II:=(beg n up hd).filter fun c=>decide (up c=some v)
theorem mF(F:Fo n es num up)(H:abb n es num up hd){v:Nat}(h:v<n)(c:Nat):(∃a,Jp es v a/\hd (lower num v a)=c)↔c∈JB n up hd v\/(up v≠none/\c=hd v):=by
 rw[JB,uV,AF,vg];constructor
 .rintro⟨a,ha,rfl⟩;have i:=F.JD ha;have e:=(ha.lt F.rD).2;unfold lower;by_cases q:num a<num v
  .rw[AE q];exact .inr ⟨Io (F.iA a v ha.symm q) pw,rfl⟩
  .rw[aal q];obtain⟨c,f,b⟩:=(F.iA v a ha NH).child pw;have d:=(F.yO b e).1;rw[F.zP H f b ha];by_cases hb:ym es num up v c
   all_goals grind[Fo.CJ,Fo.Io,Fo.abb.on,Fo.abb.new]
 .rintro(⟨⟨d,_,hh⟩,f⟩|⟨g,rfl⟩)
  .obtain⟨j,h2⟩:=F.Kd c v d f;grind[Fo.lower]
  .obtain⟨u,g⟩:=iy.1 g;obtain⟨j,h2⟩:=F.Kd v u h g;grind[Jp.symm,Fo.lower]
theorem hd_notAt(F:Fo n es num up)(H:abb n es num up hd){v:Nat}(a:v<n):hd v∉JB n up hd v:=by intro h;rw[JB,uV,AF,vg]at h;have b:=(F.US H (num v) v (qL0 _) a).1;have h2:=(F.Kd _ v h.1.1 h.2).2;grind[Fo.yO]
end Fo
open Classical in
theorem incN_eq{n:Nat}{es:List Pr}{num:Nat->Nat}{up:Nat->Option Nat}(S:aau n es (Jz n es).1 (Jz n es).2 num up){v:Nat}(h:v<n):
  Sq n es v=(Fo.JB n up (Cl n es) v).length+(if up v=none then 0 else 1):=by
 have F:=S.fo;have H:=(FY S).1;have d:=F.rD;have b:∀k:Int,k∈aiA n es v↔∃c:Nat,k=(c:Int)/\(c∈Fo.JB n up (Cl n es) v\/(up v≠none/\c=Cl n es v)):=by
  intro k;rw[agY d];constructor
  .rintro⟨a,ha,rfl⟩;exact⟨_,jm S ha,(by grind[Fo.mF])⟩
  grind[Fo.mF,jm]
 have e:(Fo.JB n up (Cl n es) v).Nodup:=Fo.beg_nd.sublist fR;rw[JW];by_cases f:up v=none
 .rw[AE f];have:(aiA n es v).Perm (aaa (Fo.JB n up (Cl n es) v)):=by grind[PS,aaa.eq_1]
  rw[this.length_eq,y6];rfl
 .have g:(Cl n es v::Fo.JB n up (Cl n es) v).Nodup:=by grind[Fo.hd_notAt]
  have:(aiA n es v).Perm (aaa (Cl n es v::Fo.JB n up (Cl n es) v)):=(qL186 (PS n es v) (by grind[aaa.eq_1])).2 (by grind[aaa.eq_1]);grind[List.Perm.length_eq,y6]
theorem VV{n:Nat}{es:List Pr}{num:Nat->Nat}{up:Nat->Option Nat}(S:aau n es (Jz n es).1 (Jz n es).2 num up):(vq n es).length=(Fo.beg n up (Cl n es)).length:=by
 have F:=S.fo;have H:=(FY S).1;have i:=F.rD;obtain⟨l,mk⟩:=lQ (cQ n es) _ es rfl;have:(CY (cQ n es) es).Perm (aaa (Fo.beg n up (Cl n es))):=(qL186 l (by grind[aaa.eq_1,Fo.beg_nd])).2 fun k=>by
  rw[mk,aaa,N8];constructor
  .rintro⟨p,m,rfl⟩;obtain⟨a,c,rfl,o,d,b⟩:=ends i m;have q:((a:Int),(c:Int))=GW a c:=by grind[agR]
   have w:=jm S b;have r:=F.JD b;have e:Fo.lower num a c<n:=by grind[Fo.lower]
   have s:up (Cl n es (Fo.lower num a c))≠none:=by have key:=fun x y f g=>F.link H (fun _ _=>()) (fun _ _=>rfl) pw (num x) x y (qL0 _) f g;grind[Fo.lower,Jp.symm]
   have t:=F.US H _ (Fo.lower num a c) (qL0 _) e;grind[Fo.AF,Fo.yO]
  .rintro⟨c,v,rfl⟩;obtain⟨d,h,hh⟩:=Fo.AF.1 v;obtain⟨u,h⟩:=iy.1 h;obtain⟨j,h2⟩:=F.Kd c u d h;refine⟨GW c u,aa4 i j.symm,?_⟩;rw[jm S j.symm];grind[Fo.lower]
 grind[aay,List.Perm.length_eq,y6]
end Go.Fw
namespace Go.Fw
theorem sum_add(f g:Nat->Nat):∀l:II,(l.map fun x=>f x+g x).sum=(l.map f).sum+(l.map g).sum
 |[]=>rfl
 |x::l=>by simp only[U9,Cj,sum_add f g l];omega
theorem Zl(u:Nat):∀n,((List.range n).map fun v=>if u=v then 1 else 0).sum=if u<n then 1 else 0
 |0=>rfl
 |n+1=>by rw[V3,MY,List.sum_append,Zl u n];grind
def Rp:∀n,((List.range n).map fun _=>0).sum=0
 |0=>rfl
 |n+1=>by rw[V3,MY,List.sum_append,Rp n];rfl
theorem Lz(n:Nat)(up:Nat->Option Nat):∀(l:II),(∀c∈l,∃u,up c=some u/\u<n)->((List.range n).map fun v=>(l.filter fun c=>decide (up c=some v)).length).sum=l.length
 |[],_=>by exact Rp n
 |c::l,h=>by
  obtain⟨u,a,b⟩:=h c Ma;have d:=Lz n up l pw
  have e:(fun v=>((c::l).filter fun c=>decide (up c=some v)).length)=fun v=>(l.filter fun c=>decide (up c=some v)).length+(if u=v then 1 else 0):=pw
  grind[sum_add,Zl]
theorem Sv(p:Nat->Prop)[DecidablePred p]:∀l:II,(l.map fun v=>if p v then 0 else 1).sum=(l.filter fun v=>decide (¬p v)).length
 |[]=>rfl
 |x::l=>by rw[U9,Cj,Sv p l,Tj];grind
theorem yA(inc:Nat->Nat):∀l:II,(l.map inc).sum+(l.filter fun v=>decide (1<inc v)).length=((l.filter fun v=>decide (1<inc v)).map inc).sum+(l.filter fun v=>decide (0<inc v)).length
 |[]=>rfl
 |x::l=>by have a:=yA inc l;grind
theorem Yu{A B:II}{R:Nat->Nat->Prop}(c:A.Nodup)(h:∀a∈A,∃b∈B,R a b)(inj:∀a∈A,∀a'∈A,∀b,R a b->R a' b->a=a'):A.length<=B.length:=by
 classical
 let f:Nat->Nat:=fun a=>if h:∃b∈B,R a b then Classical.choose h else 0
 have nd:(A.map f).Nodup:=by grind[List.Pairwise.imp_of_mem]
 have:=nd.length_le_of_subset (l₂:=B) pw;grind
namespace Fo
variable{n:Nat}{es:List Pr}{num:Nat->Nat}{up:Nat->Option Nat}
def root_ex(F:Fo n es num up):∀(k v:Nat),num v<=k->v<n->∃r,r<n/\up r=none/\pJ up r v/\Pu es r v:=by
 intro k
 induction k with
 |zero=>
  intro v d b;cases a:up v with
  |none=>exact⟨v,b,a,.refl v,Pu.refl _ _⟩
  |some u=>have:=(F.Kd v u b a).2;omega
 |succ k e=>
  intro v d b;cases a:up v with
  |none=>exact⟨v,b,a,.refl v,Pu.refl _ _⟩
  |some u=>obtain⟨c,h2⟩:=F.Kd v u b a;obtain⟨r,f,h3,g,h⟩:=e u NH (c.lt F.rD).1;exact⟨r,f,h3,g.step a,.step h c rfl⟩
theorem root_con(F:Fo n es num up){r u v:Nat}(a:up r=none)(h:pJ up r u)(c:Pu es u v):pJ up r v:=by
 induction c<;>grind[Fo.JD,pJ.trans,Fo.iA,Jp.symm,pJ.chain,Fo.Io]
theorem xd(F:Fo n es num up){r s:Nat}(a:up r=none)(hs:up s=none)(c:Pu es r s):r=s:=by have h:=F.root_con a (.refl r) c;grind[Fo.Io]
end Fo
open Classical in
theorem HJ{n:Nat}{es:List Pr}(b:InR n es){v:Nat}:0<Sq n es v↔∃a,Jp es v a:=by
 rw[JW,List.length_pos_iff_exists_mem];constructor
 .grind[agY]
 .rintro⟨a,ha⟩;exact⟨_,(agY b).2 ⟨a,ha,rfl⟩⟩
theorem FV{es:List Pr}{u v:Nat}(h:Pu es u v)(ne:u≠v):(∃a,Jp es u a)/\∃a,Jp es v a:=by
 constructor
 .induction h<;>grind
 .cases h<;>grind[Jp.symm]
open Classical in
theorem tZ{n:Nat}{es:List Pr}(f:InR n es):
  (vq n es).length+(JL n es).length=((JL n es).map (Sq n es)).sum+((Es n es).filter fun h=>decide (0<Sq n es h)).length:=by
 obtain⟨num,up,S⟩:=Ob f;have F:=S.fo;have s:JL n es=(List.range n).filter fun v=>decide (1<Sq n es v):=by grind[JL.eq_1,List.filter_congr,YH,Cv]
 have j:=yA (Sq n es) (List.range n);have h2:((List.range n).map (Sq n es)).sum=(Fo.beg n up (Cl n es)).length+((List.range n).filter fun v=>decide (¬up v=none)).length:=by
  have e:(List.range n).map (Sq n es)=(List.range n).map fun v=>(Fo.JB n up (Cl n es) v).length+(if up v=none then 0 else 1):=(by grind[List.map_congr_left,incN_eq])
  rw[e,sum_add,Sv (fun v=>up v=none)];congr 1;exact Lz n up _ fun c g=>by obtain⟨i,d,_⟩:=Fo.AF.1 g;obtain⟨u,d⟩:=iy.1 d;exact⟨u,d,((F.Kd c u i d).1.lt f).1⟩
 have h3:=MS (fun v=>decide (¬up v=none)) ((List.range n).filter fun v=>decide (0<Sq n es v));rw[dU,dU]at h3;have t:(List.range n).filter (fun v=>decide (¬up v=none)&&decide (0<Sq n es v))=(List.range n).filter fun v=>decide (¬up v=none):=by
  refine EH fun v k=>?_;rw[j3]at k;by_cases q:up v=none
  .simp[q]
  .obtain⟨u,d⟩:=iy.1 q;have:0<Sq n es v:=(HJ f).2 ⟨u,(F.Kd v u k d).1.symm⟩;simp[this]
 have w:((List.range n).filter fun v=>(!decide (¬up v=none))&&decide (0<Sq n es v)).length=((Es n es).filter fun h=>decide (0<Sq n es h)).length:=by
  have l:∀v,v∈((List.range n).filter fun v=>(!decide (¬up v=none))&&decide (0<Sq n es v))↔v<n/\up v=none/\0<Sq n es v:=fun v=>by simp
  have m:∀v,v∈((Es n es).filter fun h=>decide (0<Sq n es h))↔v∈Es n es/\0<Sq n es v:=fun v=>by simp
  have move:∀{a b:Nat},Pu es a b->0<Sq n es a->0<Sq n es b:=fun{a b} c h=>by
   by_cases e:a=b
   all_goals grind[HJ,FV]
  refine Nat.le_antisymm ?_ ?_
  .refine Yu (R:=fun a b=>Pu es a b) (by grind[List.nodup_range]) (fun a ha=>?_) (fun a ha a' mi b j h2=>?_)
   .obtain⟨k1,k2,o⟩:=(l a).1 ha;obtain⟨h,hh,g⟩:=B6 f a k1;grind[Cn.symm]
   grind[Fo.xd,Cn.trans,Cn.symm]
  .refine Yu (R:=fun a b=>Pu es a b) (by grind[qD]) (fun a ha=>?_) (fun a ha a' mi b j h2=>?_)
   .obtain⟨k1,o⟩:=(m a).1 ha;obtain⟨r,p,x,y,g⟩:=F.root_ex (num a) a (qL0 _) (QO.1 k1).1;grind[Cn.symm]
   grind[rf,Cn.trans,Cn.symm]
 grind[VV]
end Go.Fw
namespace Go.Fw
structure TM where
 bs:List (List Pr)
 cs:RZ
 ls:List Pr
structure LinkOK (b n:Nat) (p:Pr):Prop where
 x0:0<=p.1
 x1:p.1<(b:Int)
 y0:0<=p.2
 y1:(b:Int)+p.2<(n:Int)
end Go.Fw
namespace Go.Fw
attribute [local instance] Classical.propDecidable
structure H9 (n:Nat) (es fs:List Pr) (π:Nat->Nat):Prop where
 r1:InR n es
 r2:InR n fs
 lt:∀a,a<n->π a<n
 inj:∀a b,a<n->b<n->π a=π b->a=b
 surj:∀x,x<n->∃a,a<n/\π a=x
 Jp:∀a b,a<n->b<n->(Jp fs (π a) (π b)↔Jp es a b)
namespace H9
variable{n:Nat}{es fs:List Pr}{π:Nat->Nat}
end H9
theorem pair_ex{n:Nat}{es:List Pr}(d:InR n es){p:Pr}(e:p∈es):∃a b:Nat,a<n/\b<n/\Jp es a b/\p=GW a b:=by obtain⟨a,c,rfl,f,g,h⟩:=ends d e;exact(by grind[agR])
namespace H9
variable{n:Nat}{es fs:List Pr}{π:Nat->Nat}
end H9
namespace H9
variable{n:Nat}{es fs:List Pr}{π:Nat->Nat}
end H9
end Go.Fw
namespace Go.Fw
section
attribute [local instance] Classical.propDecidable
def bU(b:Nat)(ls:List Pr):List Pr:=ls.map fun p=>(p.1,(b:Int)+p.2)
structure Lk (b n:Nat) (ls:List Pr):Prop where
 n0:n≠0
 len:ls.length+1=n
 ok:∀p∈ls,LinkOK b n p
 bp:∀v,v<n->Pu (bU b ls) 0 v
def JS{a j:Nat}(h:j<a):a-(j+1)<a-j:=NH
section
variable{n:Nat}{es:List Pr}{rs:AM}
theorem akz(a:InR n es)(ha:D3 es){v:Nat}{l:RZ}:qC l=(Zh n es).getD v []↔l.Perm ((Zh n es).getD v []):=by
 constructor
 .intro h;rw[<-h];exact(Ug _ _).symm
 .intro p;have hb:=KW es a ha v;have nd:l.Nodup:=by grind[List.Pairwise.imp]
  have b:=aQ l;have h2:(qC l).Nodup:=(Ug _ _).nodup_iff.2 nd;exact wP _ _ ((b.and h2).imp fun h=>by omega) hb (by grind[Wv])
def ahV(v:Nat)(l:RZ):List Pr:=(l.filter fun w=>decide ((v:Int)<w)).map fun w=>((v:Int),w)
def agL(rs:AM):Nat->List Pr
 |0=>[]
 |k+1=>agL rs k++ahV k (rs.getD k [])
theorem ajL{k:Nat}{p:Pr}:p∈agL rs k↔∃v:Nat,v<k/\p.1=(v:Int)/\p.2∈rs.getD v []/\p.1<p.2:=by
 induction k with
 |zero=>simp[agL]
 |succ k a=>grind[agL.eq_2,ahV.eq_1]
theorem ajk(hR:bX ⟨(n:Int),es⟩)(G:Av n es rs):YG (n:Int) (agL rs n)/\aej ((agL rs n).map lZ)=es:=by
 have d:=hR.GD;have l:∀p,p∈agL rs n↔p∈es:=fun p=>by
  rw[ajL];constructor
  .rintro⟨v,m,g,h2,h3⟩;obtain⟨_,w,e,hw,ha⟩:=G.nat d h2;have:=H4 d ha;grind[agR]
  .intro f;obtain⟨a,c,rfl,o,q,ha⟩:=ends d f;exact⟨a,NH,rfl,(G.perm a NH).mem_iff.2 (by grind[EW]),pw⟩
 have nd:(agL rs n).Nodup:=by
  have key:∀k,k<=n->(agL rs k).Nodup:=by
   intro k
   induction k with
   |zero=>grind[agL]
   |succ k r=>
    intro s;rw[agL,ZT];refine⟨r NH,?_,fun a ha b hb e=>?_⟩
    .rw[ahV,Gw,pz];have nd:(rs.getD k []).Nodup:=(G.perm k NH).nodup_iff.2 (Gw.2 ((KW es d hR.q9 k).imp pw));grind[List.Pairwise.imp]
    .subst e;obtain⟨v,m,g,_⟩:=ajL.1 ha;obtain⟨w,_,rfl⟩:=N8.1 hb;grind
  grind
 have i:(agL rs n).map lZ=agL rs n:=by
  conv=>rhs;rw[<-af6 (agL rs n)]
  refine Vn fun p f=>?_;have:=d p ((l p).1 f);grind[lZ]
 have j:aej (agL rs n)=es:=by
  have g:=VH (agL rs n);have h2:(aej (agL rs n)).Nodup:=by grind[YA]
  rw[Gw]at h2;refine aji _ _ ((g.and h2).imp fun{x y} h=>?_) (Nl.1 hR.q9) (by grind[Wb]);grind
 have hlen:(agL rs n).length=es.length:=by grind[ZS]
 refine⟨⟨hR.n0,hR.n1,by rw[hlen];exact hR.len,fun p f=>?_,pw⟩,pw⟩;have:=d p ((l p).1 f);grind[lZ]
end
end
end Go.Fw
