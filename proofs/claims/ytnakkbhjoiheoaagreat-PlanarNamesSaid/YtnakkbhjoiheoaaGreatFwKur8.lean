/- A text. -/
import Derived.Laws.AppendOwn
import Derived.Test.YtnakkbhjoiheoaaGreatFwEmb30
set_option linter.all false
set_option maxRecDepth 99999
set_option maxHeartbeats 9999999
open Option renaming some→Z,none→Y
open Bool renaming true→tT,false→fF
open List renaming range→rG
open Go.Value renaming slice→sL,pointer→pT
open Go renaming Value→vV
open List
namespace Go.Fw
section
attribute [local instance] Classical.propDecidable
def Five(A:Nat->Nat->Prop):Prop:=∃a b c d e:Nat,[a,b,c,d,e].Nodup/\∀v w,A v w↔v∈[a,b,c,d,e]/\w∈[a,b,c,d,e]/\v≠w
def Six(A:Nat->Nat->Prop):Prop:=∃a b c d e f:Nat,[a,b,c,d,e,f].Nodup/\∀v w,A v w↔(v∈[a,b,c]/\w∈[d,e,f])\/(v∈[d,e,f]/\w∈[a,b,c])
def ais{A B:Nat->Nat->Prop}{Z:II}(h:∀v w,v∉Z->w∉Z->A v w->B v w):∀{P:II}{a b:Nat},a∉Z->b∉Z->(∀p∈P,p∉Z)->chn A a P b->chn B a P b
 |[],_,_,d,h2,_,c=>h _ _ d h2 c
 |p::P,_,_,d,h2,h3,c=>by have e:=h3 p Ma;exact⟨h _ _ d e c.1,ais h e h2 (fun q f=>h3 q (by simp[f])) c.2⟩
theorem ahK{n:Nat}:∀(ps:List (Nat×II×Nat)){A:Nat->Nat->Prop},aae n A->(ps.flatMap fun t=>t.2.1).Nodup->(∀t∈ps,chn A t.1 t.2.1 t.2.2/\t.1≠t.2.2/\t.1∉(ps.flatMap fun t=>t.2.1)/\t.2.2∉(ps.flatMap fun t=>t.2.1))->
  ∃B,aae n B/\(∀t∈ps,B t.1 t.2.2)/\∀v w,v∉(ps.flatMap fun t=>t.2.1)->w∉(ps.flatMap fun t=>t.2.1)->A v w->B v w
 |[],A,h,_,_=>⟨A,h,fun _ q=>absurd q Ma,fun _ _ _ _ q=>q⟩
 |t::ps,A,h,nd,l=>by
  have⟨c,ne,d,e⟩:=l t Ma;rw[y5]at nd d e;have⟨f,g,i⟩:=ZT.1 nd;simp only[vZ,not_or]at d e;have⟨B,m,hB,kB⟩:=ai9 t.2.1 h c f d.1 e.1 ne;have⟨D,o,r,kD⟩:=ahK ps m g (fun s hs=>by have⟨c',ne',a,b⟩:=l s (by simp[hs]);rw[y5]at a b;simp only[vZ,not_or]at a b;refine⟨ais kB a.1 b.1 (fun p j k=>?_) c',ne',a.2,b.2⟩;exact i p k p (KG.2 ⟨s,hs,j⟩) rfl);refine⟨D,o,fun s hs=>?_,fun v w u hw q=>?_⟩
  .grind
  grind
theorem agW{f P Q:II}{a b:Nat}(nd:f.Nodup)(cy:Cyc f ((a::P)++(b::Q))):chn (Ei f) a P b:=by
 refine aim fun i x y h h2=>.inl ?_;have c:=cy.perm.nodup_iff.1 nd;have e:(a::P)++(b::Q)=(a::(P++[b]))++Q:=by simp
 have l1:=(Ny.1 h).1;have l2:=(Ny.1 h2).1;have d:((a::P)++(b::Q))[i]?=Z x:=hGr;have j:((a::P)++(b::Q))[i+1]?=Z y:=hGr;have g:x∈f:=cy.perm.mem_iff.2 (BS d);exact⟨g,by rw[cy.nx nd g];exact(aZ c d j).1⟩
section
variable{n:Nat}{E:Nat->II}
theorem k4_plan{x y a b:Nat}(nd:[x,y,a,b].Nodup)(lt:∀v∈[x,y,a,b],v<n):aae n fun v w=>v∈[x,y,a,b]/\w∈[x,y,a,b]/\v≠w:=by
 have c:[x,y,a].Nodup:=hGr;have G:=dP (n:=n) c Ma fun v d=>lt v hGr;have rm:∀v w,w∈gH [x,y,a] v↔Ei [x,y,a] v w:=fun v w=>ez c;have i:nx [x,y,a] x=y/\nx [x,y,a] y=a/\nx [x,y,a] a=x:=by simp at c;grind[nx,nxF]
 have C:UN n (gH [x,y,a]) [x,y,a] x y [b]:=⟨hGr,Ma,Ma,Ma,fun v d=>by
  rw[iy.1 d];refine jz.2 fun w hw=>?_;rcases(rm _ _).1 hw with⟨h,-⟩|⟨h,h2⟩
  .grind
  .simp at h;rcases h with rfl|rfl|rfl
   all_goals grind,fun v d=>by grind,fun h=>by simp at h⟩
 have⟨j,m1⟩:=G.lay Ma C (A:=[]) (B:=[a]) (Cyc.refl _);obtain⟨r,F,e,m2,-⟩:=fan 1 [a] rfl (x:=b) j (f:=half y [a] x [b].reverse) Ma (adD.2 Ma) Ma (fun q k=>by
  rw[iy.1 k];refine⟨adD.2 Ma,hGr,fun h=>?_⟩;rcases(m1 _ _).1 h with h|h
  .rw[rm]at h;rcases h with⟨h,-⟩|⟨-,h⟩
   all_goals grind
  grind[agz])
 refine aae.less ⟨r,e.Rl,e.flat,fun v w=>m2 v w⟩ (fun v w h=>?_) fun v w h=>⟨h.2.1,h.1,wI h.2.2⟩;have⟨g,h2,h3⟩:=h;unfold akt;rw[m1,agz,rm];unfold Ei;simp only[HV,fj,or_false]at g h2 ⊢;have⟨n1,l,n3⟩:=i
 rcases g with rfl|rfl|rfl|rfl<;>rcases h2 with rfl|rfl|rfl|rfl<;>first|exact absurd rfl h3|grind
theorem aga.apart(C:aga n E){x y:Nat}(g:y∈E x){r:Nat->II}{F:Cs}{f:II}(G:abK n r F)(i:∀v w,w∈r v↔w∈E v/\v∉[x,y]/\w∉[x,y])(hf:f∈F)(inf:∀u,(u∈E x/\u≠y)\/(u∈E y/\u≠x)->u∈f)(h:akD f (fun u=>u∈E x/\u≠y) fun u=>u∈E y/\u≠x):False:=by
 have⟨s,t,A,B,cy,xs,xt,k,l⟩:=h;have j:=C.Rl.sy _ _ g;have d:x≠y:=fun e=>C.Rl.ir y hGr;obtain⟨b,c,hb,-,nb,-,-⟩:=C.deg y x j;have nil:∀z,z∈[x,y]->r z=[]:=fun z m=>jz.2 fun w hw=>((i z w).1 hw).2.1 m;have P:=lay_two G hf cy (C.Rl.lt _ _ g) (C.Rl.lt _ _ j) d (nil x Ma) (nil y Ma) (X:=(E x).filter fun u=>decide (u≠y)) (Y:=(E y).filter fun u=>decide (u≠x))
  (fun q o=>k q (inf q (.inl hGr)) hGr) hGr hGr (fun q o=>l q (inf q (.inr hGr)) hGr) (JR (a:=b) (by simp[hb,nb])) ((C.Rl.nd x).filter _) ((C.Rl.nd y).filter _)
 refine C.no (P.less (fun v w h=>?_) fun v w h=>C.Rl.sy _ _ h);have h':=C.Rl.sy _ _ h;rw[i];grind
theorem aga.all(C:aga n E){S:Nat->Nat->Prop}(sub:∀v w,S v w->w∈E v)(sy:∀v w,S v w->S w v)(no:¬aae n S){v w:Nat}(h:w∈E v):S v w:=j9 fun q=>no (C.sub sub sy h q)
theorem aga.inner(C:aga n E){f:II}(nd:f.Nodup){v:Nat}(e:v∈f)(a:nx f v∈E v)(h:∀w,w∈E v->Ei f v w):False:=by have⟨b,c,hb,g,nb,i,d⟩:=C.deg v _ a;grind[Ei,C9]
theorem aga.turns(C:aga n E){x y:Nat}(xy:y∈E x){f:II}(nd:f.Nodup)(V:x∉f)(W:y∉f)(ring:∀v∈f,nx f v∈E v)(h:ag9 f (fun u=>u∈E x/\u≠y) fun u=>u∈E y/\u≠x):Six fun v w=>w∈E v:=by
 obtain⟨a,g,b,i,c,j,d,k,cy,⟨xa,-⟩,⟨yb,-⟩,⟨xc,-⟩,⟨yd,-⟩⟩:=h;have X:x≠y:=fun e=>C.Rl.ir y hGr;let st:Nat->Nat->Prop:=fun v w=>(v=x/\(w=a\/w=c\/w=y))\/(v=y/\(w=b\/w=d));let S:Nat->Nat->Prop:=fun v w=>Ei f v w\/st v w\/st w v;have B:∀v w,st v w->w∈E v:=fun v w h=>by grind
 have sub:∀v w,S v w->w∈E v:=fun v w h=>by
  rcases h with(⟨h,rfl⟩|⟨h,rfl⟩)|h|h
  .grind
  .exact C.Rl.sy _ _ (ring w h)
  .grind
  .exact C.Rl.sy _ _ (B _ _ h)
 have sy:∀v w,S v w->S w v:=fun v w h=>by
  rcases h with h|h|h
  .exact .inl h.symm
  all_goals grind
 have F:=cy.perm.nodup_iff.1 nd;have inf:∀v,v∈f↔v=a\/v∈g\/v=b\/v∈i\/v=c\/v∈j\/v=d\/v∈k:=fun v=>by rw[cy.perm.mem_iff];simp
 have xo:=mt (inf x).2 V;have yo:=mt (inf y).2 W;have o:(g++(i++(j++k))).Nodup/\(∀v∈[a,b,c,d],v∉g++(i++(j++k)))/\[a,b,c,d].Nodup:=by simp[ZT]at F ⊢;grind
 have⟨o,l,p⟩:=o;have no:¬aae n S:=fun P=>by
  have c1:chn (Ei f) a g b:=agW nd (Q:=i++((c::j)++(d::k))) hGr;have aa:=cy.shift;have c2:chn (Ei f) b i c:=agW nd (Q:=j++((d::k)++(a::g))) hGr;have G:Cyc f ((c::j)++((d::k)++((a::g)++(b::i)))):=by grind[Cyc.shift]
  have c3:chn (Ei f) c j d:=agW nd (Q:=k++((a::g)++(b::i))) hGr;have ae:=G.shift;have c4:chn (Ei f) d k a:=agW nd (Q:=g++((b::i)++(c::j))) hGr;have up:∀{a b:Nat}{P:II},chn (Ei f) a P b->chn S a P b:=fun{a b P} h=>ais (Z:=[]) (fun _ _ _ _ q=>.inl q) Ma Ma Ma h;have fl:([(a,g,b),(b,i,c),(c,j,d),(d,k,a)].flatMap fun t=>t.2.1)=g++(i++(j++k)):=by simp
  have oa:=l a Ma;have ob:=l b Ma;have oc:=l c Ma;have od:=l d Ma;have ox:x∉g++(i++(j++k)):=by simp;grind
  have oy:y∉g++(i++(j++k)):=by simp;grind
  have H:=p;simp only[eR,HV,fj,or_false,not_or]at H;have⟨D,I,z,kD⟩:=ahK [(a,g,b),(b,i,c),(c,j,d),(d,k,a)] P hGr (fun t T=>by
   rw[fl];simp only[HV,fj,or_false]at T;rcases T with rfl|rfl|rfl|rfl
   .grind
   .grind
   .grind
   grind)
  rw[fl]at kD;have J:D a b:=z (a,g,b) Ma;have K:D b c:=z (b,i,c) Ma;have L:D c d:=z (c,j,d) Ma;have M:D d a:=z (d,k,a) Ma;have sx:∀w,w=a\/w=c\/w=y->S x w:=fun w h=>.inr (.inl (.inl ⟨rfl,h⟩));have ai:∀w,w=b\/w=d->S w y:=fun w h=>.inr (.inr (.inr ⟨rfl,h⟩));refine no33 I (a:=x) (b:=b) (c:=d) (d:=y) (e:=a) (f:=c) (by simp;grind) fun v m w hw=>?_;simp only[HV,fj,or_false]at m hw;rcases m with rfl|rfl|rfl<;>rcases hw with rfl|rfl|rfl
  .grind
  .grind
  .grind
  .grind
  .exact I.sy J
  .exact K
  .grind
  .exact M
  .exact I.sy L
 have all:∀v w,w∈E v->S v w:=fun v w h=>C.all sub sy no h;have N:∀v,v∈g++(i++(j++k))->False:=fun v m=>by
  have r:v∈f:=(inf v).2 (by simp at m;grind);refine C.inner nd r (ring v r) fun w hw=>?_;rcases all v w hw with h|h|h
  .exact h
  .have:v≠x/\v≠y:=by constructor<;>(grind)
   grind
  .exfalso;have O:v≠x/\v≠y:=by constructor<;>(grind)
   rcases h with⟨-,h|h|h⟩|⟨-,h|h⟩
   .grind
   .exact l c Ma (h▸m)
   .exact O.2 h
   .exact l b Ma (h▸m)
   .exact l d Ma (h▸m)
 have U:g++(i++(j++k))=[]:=jz.2 N;simp only[qL139]at U;obtain⟨rfl,rfl,rfl,rfl⟩:=U;have H:=p;simp only[eR,HV,fj,or_false,not_or]at H;have A:nx f a=b/\nx f b=c/\nx f c=d/\nx f d=a:=by rw[cy.nx nd ((inf a).2 Ma),cy.nx nd ((inf b).2 Ma),cy.nx nd ((inf c).2 Ma),cy.nx nd ((inf d).2 Ma)];refine⟨?_,?_,?_,?_⟩<;>simp[nx,nxF]<;>grind
 refine⟨x,b,d,y,a,c,by simp;grind,fun v w=>⟨fun h=>?_,fun h=>?_⟩⟩
 .have:=all v w h;simp only[HV,fj,or_false]at inf ⊢;have i1:=inf v;have i2:=inf w;rcases this with(⟨s,h2⟩|⟨s,h2⟩)|s|s
  .grind
  .grind
  .show(v=x\/v=b\/v=d)/\(w=y\/w=a\/w=c)\/_;rcases s with⟨rfl,h⟩|⟨rfl,h⟩<;>grind
  .rcases s with⟨rfl,h⟩|⟨rfl,h⟩<;>grind
 .have r1:=ring a ((inf a).2 Ma);have r2:=ring b ((inf b).2 Ma);have r3:=ring c ((inf c).2 Ma);have r4:=ring d ((inf d).2 Ma);rw[A.1]at r1;rw[A.2.1]at r2;rw[A.2.2.1]at r3;rw[A.2.2.2]at r4;have R:=C.Rl.sy;have key:∀v w,v∈[x,b,d]->w∈[y,a,c]->w∈E v:=fun v w m hw=>by
   simp only[HV,fj,or_false]at m hw
   rcases m with rfl|rfl|rfl<;>rcases hw with rfl|rfl|rfl<;>first|assumption|(apply R;assumption)
  rcases h with h|h
  .grind
  grind
theorem aga.threes(C:aga n E){x y:Nat}(R:y∈E x){f:II}(nd:f.Nodup)(T:x∉f)(U:y∉f)(ring:∀v∈f,nx f v∈E v)(J:∀u,(u∈E x/\u≠y)\/(u∈E y/\u≠x)->u∈f)(h:ThreeR f (fun u=>u∈E x/\u≠y) fun u=>u∈E y/\u≠x):Five fun v w=>w∈E v:=by
 have⟨a,g,b,i,c,j,cy,V⟩:=h;have W:x≠y:=fun e=>C.Rl.ir y hGr;have inf:∀v,v∈f↔v=a\/v∈g\/v=b\/v∈i\/v=c\/v∈j:=fun v=>by rw[cy.perm.mem_iff];simp
 have z:∀v,v∈[a,b,c]->v∈E x/\v∈E y:=fun v l=>by grind
 let st:Nat->Nat->Prop:=fun v w=>(v=x/\(w∈[a,b,c]\/w=y))\/(v=y/\w∈[a,b,c]);let S:Nat->Nat->Prop:=fun v w=>Ei f v w\/st v w\/st w v;have A:∀v w,st v w->w∈E v:=fun v w h=>by grind
 have sub:∀v w,S v w->w∈E v:=fun v w h=>by
  rcases h with(⟨h,rfl⟩|⟨h,rfl⟩)|h|h
  .grind
  .exact C.Rl.sy _ _ (ring w h)
  .grind
  .exact C.Rl.sy _ _ (A _ _ h)
 have sy:∀v w,S v w->S w v:=fun v w h=>by
  rcases h with h|h|h
  .exact .inl h.symm
  .exact .inr (.inr h)
  .exact .inr (.inl h)
 have B:=cy.perm.nodup_iff.1 nd;have xo:=mt (inf x).2 T;have yo:=mt (inf y).2 U;have o:(g++(i++j)).Nodup/\(∀v∈[a,b,c],v∉g++(i++j))/\[a,b,c].Nodup:=by simp[ZT]at B ⊢;grind
 have⟨o,k,F⟩:=o;have X:=F;simp only[eR,HV,fj,or_false,not_or]at X;have no:¬aae n S:=fun P=>by
  have c1:chn (Ei f) a g b:=agW nd (Q:=i++(c::j)) hGr;have aa:=cy.shift;have c2:chn (Ei f) b i c:=agW nd (Q:=j++(a::g)) hGr;have ae:Cyc f ((c::j)++((a::g)++(b::i))):=by grind[Cyc.shift]
  have c3:chn (Ei f) c j a:=agW nd (Q:=g++(b::i)) hGr;have up:∀{a b:Nat}{P:II},chn (Ei f) a P b->chn S a P b:=fun{a b P} h=>ais (Z:=[]) (fun _ _ _ _ q=>.inl q) Ma Ma Ma h;have fl:([(a,g,b),(b,i,c),(c,j,a)].flatMap fun t=>t.2.1)=g++(i++j):=by simp
  have oa:=k a Ma;have ob:=k b Ma;have oc:=k c Ma;have ox:x∉g++(i++j):=by simp;grind
  have K:y∉g++(i++j):=by simp;grind
  have⟨D,L,G,kD⟩:=ahK [(a,g,b),(b,i,c),(c,j,a)] P hGr (fun t M=>by
   rw[fl];simp only[HV,fj,or_false]at M;rcases M with rfl|rfl|rfl
   .grind
   .grind
   grind)
  rw[fl]at kD;have ai:D a b:=G (a,g,b) Ma;have aj:D b c:=G (b,i,c) Ma;have aq:D c a:=G (c,j,a) Ma;have dx:∀w,w∈[a,b,c]->D x w:=fun w h=>kD _ _ ox (k w h) (.inr (.inl (.inl ⟨rfl,.inl h⟩)));have m:∀w,w∈[a,b,c]->D y w:=fun w h=>kD _ _ K (k w h) (.inr (.inl (.inr ⟨rfl,h⟩)));have ar:D x y:=kD _ _ ox K (.inr (.inl (.inl ⟨rfl,.inr rfl⟩)));have ds:∀{v w},D v w->D w v:=L.sy;refine no5 L (a:=x) (b:=y) (c:=a) (d:=b) (e:=c) (by simp;grind) fun v l w hw ne=>?_;simp only[HV,fj,or_false]at l hw dx m;rcases l with rfl|rfl|rfl|rfl|rfl<;>rcases hw with rfl|rfl|rfl|rfl|rfl<;>
   first|exact absurd rfl ne|assumption|exact ds (by assumption)|exact dx _ Ma|exact m _ Ma|exact ds (dx _ Ma)|exact ds (m _ Ma)
 have all:∀v w,w∈E v->S v w:=fun v w h=>C.all sub sy no h;have H:∀v,v∈g++(i++j)->False:=fun v l=>by
  have p:v∈f:=(inf v).2 hGr;have av:v≠x/\v≠y:=by constructor<;>(grind)
  refine C.inner nd p (ring v p) fun w hw=>?_;grind
 have N:g++(i++j)=[]:=jz.2 H;simp only[qL139]at N;obtain⟨rfl,rfl,rfl⟩:=N;have I:nx f a=b/\nx f b=c/\nx f c=a:=by rw[cy.nx nd ((inf a).2 Ma),cy.nx nd ((inf b).2 Ma),cy.nx nd ((inf c).2 Ma)];refine⟨?_,?_,?_⟩<;>simp[nx,nxF]<;>grind
 have r:∀v,v∈f↔v∈[a,b,c]:=fun v=>by rw[inf];simp
 refine⟨x,y,a,b,c,hGr,fun v w=>⟨fun h=>?_,fun h=>?_⟩⟩
 .have ne:v≠w:=fun e=>C.Rl.ir v hGr;have on:∀v w,w∈E v->v∈[x,y,a,b,c]:=fun v w h=>by
   by_cases k1:v=x
   .simp[k1]
   by_cases k2:v=y
   .simp[k2]
   rcases all v w h with(s|s)|s|s
   .grind
   .have h2:=C.Rl.sy _ _ h;have:v∈f:=s.2▸ZP s.1;have:=(r v).1 this;simp at this ⊢;grind
   .grind
   grind
  exact⟨on v w h,on w v (C.Rl.sy _ _ h),ne⟩
 .obtain⟨l,hw,ne⟩:=h;have r1:=ring a ((inf a).2 Ma);have r2:=ring b ((inf b).2 Ma);have O:=ring c ((inf c).2 Ma);rw[I.1]at r1;rw[I.2.1]at r2;rw[I.2.2]at O;have yx:=C.Rl.sy _ _ R;have q1:=C.Rl.sy _ _ r1;have q2:=C.Rl.sy _ _ r2;have q3:=C.Rl.sy _ _ O;have dx:∀w,w∈[a,b,c]->w∈E x/\x∈E w:=fun w h=>⟨(z w h).1,C.Rl.sy _ _ (z w h).1⟩;have m:∀w,w∈[a,b,c]->w∈E y/\y∈E w:=fun w h=>⟨(z w h).2,C.Rl.sy _ _ (z w h).2⟩;simp only[HV,fj,or_false]at l hw;rcases l with rfl|rfl|rfl|rfl|rfl<;>rcases hw with rfl|rfl|rfl|rfl|rfl<;>
   first|exact absurd rfl ne|assumption|exact(dx _ Ma).1|exact(m _ Ma).1|exact(dx _ Ma).2|exact(m _ Ma).2
theorem aga.tw(C:aga n E){x0 y0:Nat}(h0:y0∈E x0):(Five fun v w=>w∈E v)\/Six fun v w=>w∈E v:=by
 have⟨x,y,r,hT⟩:=C.UQ h0;have S:=C.Rl.sy _ _ r;have i:=C.Rl.sy;have ae:x≠y:=fun e=>C.Rl.ir y hGr;have⟨R,hr,fl,m⟩:=C.bp x y r;have s:∀v w,w∈exL R [x] v↔w∈E v/\v∉[x,y]/\w∉[x,y]:=fun v w=>by rw[ae2,m];unfold aik;have:=C.Rl.ir v;grind
 have T:∀u,u∈R x↔(u∈E x/\u≠y)\/(u∈E y/\u≠x):=fun u=>by rw[m];unfold aik;have H:=C.Rl.ir x;have h2:=C.Rl.ir y;grind
 have out:∀{v},exL R [x] v≠[]->v∉[x,y]/\E v≠[]:=fun{v} h=>by have⟨w,hw⟩:=akp _ h;grind
 have D:QG (exL R [x]):=by
  refine⟨fun v w g hw=>?_,fun c v w vc wc g hw=>?_⟩
  .obtain⟨v1,U⟩:=out g;have⟨w1,w2⟩:=out hw;exact(C.three x y v1 w1 U w2).mono fun p q h=>(s p q).2 (by grind[ae2])
  .obtain⟨v1,U⟩:=out g;have⟨w1,w2⟩:=out hw;refine(hT c v w hGr hGr U w2).mono fun p q h=>?_;grind[ae2,EM]
 have d:∀u t,t∈E u->∃w,w∈E u/\w≠x/\w≠y:=fun u t I=>by
  by_cases k1:t≠x/\t≠y
  .grind
  have⟨b,c,hb,hc,nb,nc,J⟩:=C.deg u t I;grind
 have on:∀u∈R x,exL R [x] u≠[]:=fun u hu=>by
  have k:u∉[x,y]:=by have H:=C.Rl.ir x;have h2:=C.Rl.ir y;grind
  have I:∃t,t∈E u:=hGr;have⟨t,I⟩:=I;have⟨w,hw,w1,w2⟩:=d u t I;grind
 have⟨b0,c0,j,z,A,B,l⟩:=C.deg y x S;have⟨b1,c1,K,L,M,N,P⟩:=C.deg x y r;have two:∃u v,u∈R x/\v∈R x/\u≠v:=⟨b0,c0,(T _).2 (.inr ⟨j,A⟩),(T _).2 (.inr ⟨z,B⟩),l⟩;have ald:∃a b c,b∈exL R [x] a/\c∈exL R [x] a/\b≠c:=by
  refine j9 fun no=>?_;have one:∀a b c,b∈exL R [x] a->c∈exL R [x] a->b=c:=fun a b c H h2=>j9 fun k=>no ⟨a,b,c,H,h2,k⟩;have ai:b0≠y:=fun e=>C.Rl.ir y hGr;have⟨b,hb,bx,bY⟩:=d b0 y (i _ _ j);have H:b∈exL R [x] b0:=(s _ _).2 ⟨hb,hGr,by simp[bx,bY]⟩;have h2:b0∈exL R [x] b:=(aio hr _).sy _ _ H;have nb:b≠b0:=fun e=>C.Rl.ir b0 hGr;have cl:∀q,Cr (exL E [x,y]) b0 q->q=b0\/q=b:=fun q k=>by
   induction k with
   |refl=>grind
   |@step p q _ e ih=>
    have e':=(s p q).2 (ae2.1 e);rcases ih with rfl|rfl
    all_goals grind
  have V:E b0≠[]:=JR hb;have o:∀v w,w∈E v->v∈[x,y,b0,b]:=fun v w h=>by
   by_cases k:v∈[x,y]
   .simp at k ⊢;grind
   .have:=cl v (C.three x y hGr k V (JR h));simp;grind
  have W:[x,y,b0,b].Nodup:=by simp;grind
  refine C.no ((k4_plan (n:=n) W fun v g=>?_).less (fun v w h=>⟨o v w h,o w v (i _ _ h),fun e=>C.Rl.ir v hGr⟩) fun _ _ h=>i _ _ h);simp only[HV,fj,or_false]at g;rcases g with rfl|rfl|rfl|rfl
  .exact C.Rl.lt _ _ r
  .exact C.Rl.lt _ _ S
  .exact C.Rl.lt _ _ hb
  .exact C.Rl.lt _ _ (i _ _ hb)
 have⟨a,b,c,hb,hc,J⟩:=ald;have⟨F,G,f,hf,aa⟩:=star hr fl D hb hc J on two;have Q:=G.O.nd f hf;have bz:=G.O.bz f hf;have ring:∀v∈f,nx f v∈E v:=fun v g=>((s _ _).1 (bz v g)).1;have off:∀v∈f,v∉[x,y]:=fun v g=>((s _ _).1 (bz v g)).2.1;have xf:x∉f:=fun h=>off x h Ma;have yf:y∉f:=fun h=>off y h Ma;have inf:∀u,(u∈E x/\u≠y)\/(u∈E y/\u≠x)->u∈f:=fun u h=>aa u ((T u).2 h);rcases alz (f:=f) (X:=fun u=>u∈E x/\u≠y) (Y:=fun u=>u∈E y/\u≠x) ⟨b1,c1,inf _ (.inl ⟨K,M⟩),inf _ (.inl ⟨L,N⟩),P,⟨K,M⟩,⟨L,N⟩⟩ ⟨b0,c0,inf _ (.inr ⟨j,A⟩),inf _ (.inr ⟨z,B⟩),l,⟨j,A⟩,⟨z,B⟩⟩with h|h|h|h
 .exact(C.apart r G s hf inf h).elim
 .refine(C.apart S G (fun v w=>?_) hf (fun u h=>inf u h.symm) h).elim;rw[s];simp;grind
 .exact .inr (C.turns r Q xf yf ring h)
 .exact .inl (C.threes r Q xf yf ring inf h)
end
def upR(A:Nat->Nat->Prop)(a b v x y:Nat):Prop:=(A x y/\¬(x=a/\y=b)/\¬(x=b/\y=a))\/(x=v/\(y=a\/y=b))\/(y=v/\(x=a\/x=b))
inductive Tw:(Nat->Nat->Prop)->Prop
 |five {A:Nat->Nat->Prop} (h:Five A):Tw A
 |six {A:Nat->Nat->Prop} (h:Six A):Tw A
 |up {A B:Nat->Nat->Prop} {a b v:Nat} (T:Tw A) (ab:A a b) (iso:∀w,¬A v w) (h:∀x y,B x y↔upR A a b v x y):Tw B
noncomputable def lst(n:Nat)(A:Nat->Nat->Prop)(v:Nat):II:=(rG n).filter fun w=>decide (A v w)
theorem aaD{n:Nat}{A:Nat->Nat->Prop}(lt:∀v w,A v w->w<n){v w:Nat}:w∈lst n A v↔A v w:=by grind[lst]
def aej{n:Nat}{A:Nat->Nat->Prop}(lt:∀v w,A v w->w<n)(sy:∀v w,A v w->A w v)(ir:∀v,¬A v v):V7 n (lst n A):=⟨fun v=>Hs.filter _,fun v w h=>lt w v (sy v w ((aaD lt).1 h)),fun v w h=>(aaD lt).2 (sy v w ((aaD lt).1 h)),fun v h=>ir v ((aaD lt).1 h)⟩
section
variable{n:Nat}{A:Nat->Nat->Prop}
theorem aae.aac(P:aae n A){v a:Nat}(iso:∀w,¬A v w)(o:v<n)(an:a<n)(ne:v≠a):aae n fun x y=>A x y\/(x=v/\y=a)\/(x=a/\y=v):=by
 have sy:=fun v w=>P.sy (v:=v) (w:=w);have⟨R,r,f,m⟩:=P;have i:R v=[]:=jz.2 fun w h=>iso w ((m v w).1 h);have nv:∀x,v∉R x:=fun x h=>iso x (sy _ _ ((m x v).1 h))
 let q:Nat->II:=fun x=>if x=v then[a]else if x=a then R a++[v]else R x
 have j:q v=[a]:=Sb rfl;have k:q a=R a++[v]:=hGr;have l:∀x,x≠v->x≠a->q x=R x:=fun x b h2=>by grind
 have mem:∀x y,y∈q x↔y∈R x\/(x=v/\y=a)\/(x=a/\y=v):=fun x y=>by grind
 have Q:V7 n q:=by
  refine⟨fun x=>?_,fun x y h=>?_,fun x y h=>?_,fun x h=>?_⟩
  .by_cases b:x=v
   .grind
   by_cases h2:x=a
   .subst h2;rw[k];have:=r.nd x;grind
   .rw[l x b h2];exact r.nd x
  .rcases(mem x y).1 h with h|⟨h,-⟩|⟨h,-⟩
   .exact r.lt x y h
   all_goals grind
  all_goals grind[V7.ir]
 have d:a∈q v:=by rw[j];simp
 have dl:del q v a=R:=by grind[OE,u9,ab1]
 have e:¬Cr (del q v a) v a:=fun c=>ne (cr_iso (fun t g=>by rw[dl,i]at g;simp at g) c);refine⟨q,Q,abG Q d hGr ⟨fun _=>e,fun _=>jh Q d e⟩,fun x y=>?_⟩;rw[mem,m]
theorem aae.up(P:aae n A){v a b:Nat}(ab:A a b)(iso:∀w,¬A v w)(c:v<n):aae n (upR A a b v):=by have⟨R,r,f,m⟩:=P;have S:aan n R a b v:=⟨r,(m _ _).2 ab,jz.2 fun w h=>iso w ((m v w).1 h),c⟩;exact⟨aap R a b v,S.aff,S.flat.2 f,fun x y=>by rw[S.mem,m];rfl⟩
theorem aae.ear(P:aae n A){v a b:Nat}(ab:A a b)(iso:∀w,¬A v w)(d:v<n):aae n fun x y=>A x y\/(x=v/\(y=a\/y=b))\/(y=v/\(x=a\/x=b)):=by
 have sy:=fun v w=>P.sy (v:=v) (w:=w);have ir:=P.ir;have nab:a≠b:=fun e=>ir b (e▸ab:A b b);have nva:v≠a:=fun e=>iso b (e▸ab);have nvb:v≠b:=fun e=>iso a (e▸sy _ _ ab);have⟨q,Q,F,i⟩:=P.up ab iso d;have c:∀y,y∈q v↔y=a\/y=b:=fun y=>by grind[upR]
 have f:nx (q v) a=b:=by
  have g:=ZP ((c a).2 (.inl rfl));rcases(c _).1 g with h|h
  .have:=(Bk (Q.nd v) ((c a).2 (.inl rfl))).1 h;have h2:=(c b).2 (.inr rfl);grind
  .exact h
 have nb:b∉q a:=fun h=>by grind[upR]
 have⟨s,T,G,ms⟩:=ab3 Q F ((c a).2 (.inl rfl)) f nab nb;refine⟨s,T,G,fun x y=>?_⟩;grind[upR]
theorem agx(h3:3<=n)(h:∀v w,¬A v w):aae n A:=by have G:=dP (n:=n) (l:=[0,1,2]) Ma Ma (by simp;omega);exact aae.less (A:=fun v w=>w∈gH [0,1,2] v) ⟨_,G.Rl,G.flat,fun _ _=>Iff.rfl⟩ (fun v w q=>absurd q (h v w)) fun v w q=>absurd q (h v w)
theorem min_sub:∀(k:Nat){B:Nat->Nat->Prop},(∀v w,B v w->w<n)->(∀v w,B v w->B w v)->(∀v,¬B v v)->¬aae n B->(dl n (lst n B)).length=k->
  ∃E,V7 n E/\(∀v w,w∈E v->B v w)/\¬aae n (fun v w=>w∈E v)/\∀a b,b∈E a->aae n fun v w=>w∈E v/\¬(v=a/\w=b)/\¬(v=b/\w=a):=by
 intro k
 induction k using Nat.strongRecOn with
 |_ k q=>
  intro B lt sy ir no t;have p:=aej lt sy ir;by_cases c:∀a b,B a b->aae n fun v w=>B v w/\¬(v=a/\w=b)/\¬(v=b/\w=a)
  .refine⟨lst n B,p,fun v w h=>(aaD lt).1 h,fun P=>no (P.congr fun v w=>aaD lt),fun a b h=>(c a b ((aaD lt).1 h)).congr fun v w=>by rw[aaD lt]⟩
  .obtain⟨a,ha⟩:=MY.1 c;have⟨b,hb⟩:=MY.1 ha;have⟨ab,l⟩:=oZ.1 hb;obtain⟨e,g⟩:∃e:Nat->Nat->Prop,e=fun v w=>B v w/\¬(v=a/\w=b)/\¬(v=b/\w=a):=⟨_,rfl⟩;have j:∀v w,e v w↔B v w/\¬(v=a/\w=b)/\¬(v=b/\w=a):=fun v w=>by rw[g]
   rw[<-g]at l;clear g;have f:∀v w,e v w->w<n:=fun v w h=>lt v w ((j v w).1 h).1;have m:∀v w,e v w->e w v:=fun v w h=>(j w v).2 (by have:=(j v w).1 h;have:=sy _ _ this.1;grind);have o:∀v,¬e v v:=fun v h=>ir v ((j v v).1 h).1;have i:=aej f m o;have less:(dl n (lst n e)).length<(dl n (lst n B)).length:=by
    have:=tf (A:=(a,b)::dl n (lst n e)) (B:=dl n (lst n B)) (eR.2 ⟨fun h=>by
     have h:=(aaD f).1 ((IP i).1 h);grind,J8 i⟩) fun d hd=>by
     rcases HV.1 hd with rfl|hd
     .exact(IP p).2 ((aaD lt).2 ab)
     .exact(IP p).2 ((aaD lt).2 ((j _ _).1 ((aaD f).1 ((IP i).1 hd))).1)
    grind
   have⟨E,r,h2,h3,s⟩:=q _ NH f m o l rfl;exact⟨E,r,fun v w h=>((j v w).1 (h2 v w h)).1,h3,s⟩
end
noncomputable def alA(n:Nat)(E:Nat->II):II:=(rG n).filter fun v=>decide (E v≠[])
theorem amb{n:Nat}{E:Nat->II}(a:V7 n E){v:Nat}:v∈alA n E↔∃w,w∈E v:=by grind[alA,exists_mem_of_ne_nil,V7.lt]
theorem ale{n:Nat}{E E':Nat->II}(b:V7 n E)(a:V7 n E')(sub:∀v w,w∈E' v->∃u,u∈E v){y t:Nat}(c:t∈E y)(ny:∀w,w∉E' y):(alA n E').length<(alA n E).length:=by
 have:=tf (A:=y::alA n E') (B:=alA n E) (eR.2 ⟨fun h=>by grind[amb],Hs.filter _⟩) fun v d=>by grind[amb]
 grind
theorem six_deg{A:Nat->Nat->Prop}(h:Six A){x p q r s:Nat}(nd:[p,q,r,s].Nodup)(hA:∀v∈[p,q,r,s],A x v):False:=by
 have⟨a,b,c,d,e,f,i,h⟩:=h;have two:∀L:II,L.length=3->(∀v∈[p,q,r,s],v∈L)->False:=fun L j g=>by have:=tf nd g;grind
 have key:∀v∈[p,q,r,s],(x∈[a,b,c]/\v∈[d,e,f])\/(x∈[d,e,f]/\v∈[a,b,c]):=fun v g=>(h x v).1 (hA v g);have ap:∀v,v∈[a,b,c]->v∈[d,e,f]->False:=fun v l h2=>by grind
 by_cases k:x∈[a,b,c]
 .exact two [d,e,f] rfl fun v g=>(key v g).elim (fun q=>q.2) fun q=>(ap x k q.1).elim
 .exact two [a,b,c] rfl fun v g=>(key v g).elim (fun q=>absurd q.1 k) fun q=>q.2
section
variable{n:Nat}
theorem alB(n3:3<=n):∀(k:Nat)(E:Nat->II),(alA n E).length=k->V7 n E->(∃m,m<n/\E m=[])->¬aae n (fun v w=>w∈E v)->
  (∀a b,b∈E a->aae n fun v w=>w∈E v/\¬(v=a/\w=b)/\¬(v=b/\w=a))->Tw fun v w=>w∈E v:=by
 intro k
 induction k using Nat.strongRecOn with
 |_ k ih=>
  intro E hk Rl sp no i;have g:=Rl.sy;have L:=Rl.ir;have sub:∀{B:Nat->Nat->Prop},(∀v w,B v w->w∈E v)->(∀v w,B v w->B w v)->∀{a b:Nat},b∈E a->¬B a b->aae n B:=fun{B} sb sy {a b} h nb=>(i a b h).less (fun v w q=>⟨sb v w q,fun e=>nb hGr,fun e=>nb hGr⟩) sy;by_cases deg:∀v a,a∈E v->∃b c,b∈E v/\c∈E v/\b≠a/\c≠a/\b≠c
  rotate_left
  .obtain⟨v,F⟩:=MY.1 deg;have⟨a,ha⟩:=MY.1 F;have⟨M,aL⟩:=oZ.1 ha;have va:=g _ _ M;have nva:v≠a:=fun e=>L a hGr;by_cases one:∀b,b∈E v->b=a
   .have P:=(i v a M).aac (v:=v) (a:=a) (fun w h=>h.2.1 ⟨rfl,one w h.1⟩) (Rl.lt _ _ M) (Rl.lt _ _ va) nva;refine(no (P.congr fun x y=>?_)).elim;grind
   have⟨b,hb⟩:=MY.1 one;have⟨bv,O⟩:=oZ.1 hb;have vb:=g _ _ bv;have nvb:v≠b:=fun e=>L b hGr;have two:∀w,w∈E v->w=a\/w=b:=fun w hw=>j9 fun q=>aL ⟨b,w,bv,hw,O,fun e=>q (.inl e),fun e=>q (.inr e.symm)⟩;by_cases ab:b∈E a
   .have P0:aae n fun x y=>y∈E x/\x≠v/\y≠v:=sub (fun _ _ h=>h.1) (fun _ _ h=>⟨g _ _ h.1,h.2.2,h.2.1⟩) M fun h=>h.2.1 rfl;have P:=P0.ear (v:=v) (a:=a) (b:=b) ⟨ab,wI nva,wI nvb⟩ (fun w h=>h.2.1 rfl) (Rl.lt _ _ M);refine(no (P.congr fun x y=>?_)).elim;constructor
    .rintro(h|⟨rfl,rfl|rfl⟩|⟨rfl,rfl|rfl⟩)
     .exact h.1
     all_goals assumption
    .intro h;by_cases k1:x=v
     .grind
     by_cases k2:y=v
     .subst k2;exact .inr (.inr ⟨rfl,two x (g _ _ h)⟩)
     grind
   obtain⟨j,aa⟩:∃j:Nat->Nat->Prop,j=fun x y=>(y∈E x/\x≠v/\y≠v)\/(x=a/\y=b)\/(x=b/\y=a):=⟨_,rfl⟩;have m0:∀x y,j x y↔(y∈E x/\x≠v/\y≠v)\/(x=a/\y=b)\/(x=b/\y=a):=fun x y=>by rw[aa]
   clear aa;have ae:∀x y,j x y->y<n:=fun x y h=>by
    rcases(m0 x y).1 h with h|h|h
    .exact Rl.lt _ _ (g _ _ h.1)
    .rw[h.2];exact Rl.lt _ _ vb
    .rw[h.2];exact Rl.lt _ _ va
   have ai:∀x y,j x y->j y x:=fun x y h=>by
    rw[m0]at h ⊢;rcases h with h|h|h
    .grind
    all_goals grind
   have aN:∀x,¬j x x:=fun x h=>by
    rcases(m0 x x).1 h with h|h|h
    .grind
    all_goals grind
   have r0:=aej ae ai aN;have mm:∀x y,y∈lst n j x↔j x y:=fun x y=>aaD ae;have G:∀w,¬j v w:=fun w h=>by grind
   have aj:j a b:=(m0 a b).2 (.inr (.inl ⟨rfl,rfl⟩));have aq:∀x y,y∈E x↔upR j a b v x y:=fun x y=>by
    unfold upR;rw[m0];constructor
    .intro h;by_cases k1:x=v
     .grind
     by_cases k2:y=v
     .subst k2;exact .inr (.inr ⟨rfl,two x (g _ _ h)⟩)
     .refine .inl ⟨.inl ⟨h,k1,k2⟩,?_,?_⟩
      all_goals grind
    .rintro(⟨h|h|h,n1,n2⟩|⟨rfl,rfl|rfl⟩|⟨rfl,rfl|rfl⟩)
     .exact h.1
     .grind
     .grind
     all_goals assumption
   have T:Tw fun x y=>y∈lst n j x:=by
    refine ih _ ?_ (lst n j) rfl r0 ⟨v,Rl.lt _ _ M,jz.2 fun w h=>G w ((mm v w).1 h)⟩ (fun P=>?_) fun p q Q=>?_
    .rw[<-hk];refine ale Rl r0 (fun x y h=>?_) M fun w h=>G w ((mm v w).1 h);rcases(m0 x y).1 ((mm x y).1 h)with h|h|h
     .grind
     .grind
     grind
    .have P':aae n j:=P.congr mm;exact no ((P'.up aj G (Rl.lt _ _ M)).congr fun x y=>(aq x y).symm)
    .have Q:=(mm p q).1 Q;have key:∀{B:Nat->Nat->Prop},aae n B->(∀x y,j x y->¬(x=p/\y=q)->¬(x=q/\y=p)->B x y)->aae n fun x y=>y∈lst n j x/\¬(x=p/\y=q)/\¬(x=q/\y=p):=fun P h=>
      P.less (fun x y k=>h x y ((mm x y).1 k.1) k.2.1 k.2.2) fun x y k=>⟨(mm y x).2 (ai _ _ ((mm x y).1 k.1)),fun e=>k.2.2 ⟨e.2,e.1⟩,fun e=>k.2.1 ⟨e.2,e.1⟩⟩
     by_cases kk:(p=a/\q=b)\/(p=b/\q=a)
     .refine key (i v a M) fun x y h n1 n2=>?_;rcases(m0 x y).1 h with h|h|h
      .grind
      .rcases kk with kk|kk
       all_goals grind
      .rcases kk with kk|kk
       all_goals grind
     .have ar:q∈E p/\p≠v/\q≠v:=by
       rcases(m0 p q).1 Q with h|h|h
       .exact h
       all_goals grind
      have⟨I,s,q3⟩:=ar;have Pc:=(i p q I).bp (x:=a) (y:=v) ⟨va,fun e=>q3 e.2.symm,fun e=>s e.2.symm⟩;refine key Pc fun x y h n1 n2=>?_;have sZ:b∈E v/\¬(v=p/\b=q)/\¬(v=q/\b=p):=⟨bv,fun e=>s e.1.symm,fun e=>q3 e.1.symm⟩;rcases(m0 x y).1 h with h|⟨rfl,rfl⟩|⟨rfl,rfl⟩
      .exact⟨h.2.1,h.2.2,fun e=>L x hGr,.inl ⟨h.1,n1,n2⟩⟩
      .exact⟨wI nva,wI nvb,wI O,.inr (.inl ⟨rfl,sZ⟩)⟩
      .exact⟨wI nvb,wI nva,O,.inr (.inr ⟨rfl,vb,fun e=>q3 e.2.symm,fun e=>s e.2.symm⟩)⟩
   have T':Tw j:=by
    have e:(fun x y=>y∈lst n j x)=j:=by funext x y;grind
    grind
   exact .up T' aj G aq
  by_cases cons:∀a b,b∈E a->aae n (aik (fun v w=>w∈E v) a b)
  .have C:aga n E:=⟨Rl,no,i,cons,deg,sp,n3⟩;by_cases emp:∀a b,b∉E a
   .grind[agx]
   .obtain⟨a,ha⟩:=MY.1 emp;have⟨b,hb⟩:=MY.1 ha;exact(C.tw (Classical.not_not.1 hb)).elim .five .six
  exfalso;have⟨x,hx⟩:=MY.1 cons;have⟨y,hy⟩:=MY.1 hx;have⟨xy,aP⟩:=oZ.1 hy;have yx:=g _ _ xy;have bb:x≠y:=fun e=>L y hGr;have⟨H,N,l,ay,az⟩:=min_sub (n:=n) _ (B:=aik (fun v w=>w∈E v) x y) (fun v w h=>by
   obtain⟨-,-,-,h|⟨-,h⟩|⟨rfl,-⟩⟩:=h
   .exact Rl.lt _ _ (g _ _ h)
   .exact Rl.lt _ _ (g _ _ h)
   .exact Rl.lt _ _ xy) (al7 (fun _ _ h=>g _ _ h) x y) (fun v h=>h.2.2.1 rfl) aP rfl
  have K:∀{v w},w∈H v->v≠y/\w≠y:=fun h=>⟨(l _ _ h).1,(l _ _ h).2.1⟩;have T:Tw fun v w=>w∈H v:=by
   refine ih _ ?_ H rfl N ⟨y,Rl.lt _ _ yx,jz.2 fun w h=>(K h).1 rfl⟩ ay az;rw[<-hk];refine ale Rl N (fun v w h=>?_) yx fun w h=>(K h).1 rfl;obtain⟨-,-,-,h|⟨rfl,-⟩|⟨-,h⟩⟩:=l v w h
   .grind
   .grind
   grind
  have R:∀v w,w∈H v->v≠x->w≠x->w∈E v:=fun v w h S h2=>by
   obtain⟨-,-,-,h|⟨h,-⟩|⟨h,-⟩⟩:=l v w h
   all_goals grind
  have a8:∀w,w∈H x->w∉E x->w∈E y:=fun w h hn=>by
   obtain⟨-,-,k,h|⟨-,h⟩|⟨h,-⟩⟩:=l x w h
   all_goals grind
  let D:Nat->Nat->Prop:=fun v w=>(v=x/\w=y)\/(v≠x/\v≠y/\w≠x/\w≠y/\w∈H v)\/(v=x/\w≠y/\w∈H x/\w∈E x)\/(v=y/\w≠x/\w∈H x/\w∉E x);have DE:∀v w,D v w->w∈E v:=fun v w h=>by
   rcases h with⟨rfl,rfl⟩|⟨S,-,h3,-,h⟩|⟨rfl,-,-,h⟩|⟨rfl,-,h,hn⟩
   .exact xy
   .grind
   all_goals grind
  have all:∀v w,w∈E v->D v w\/D w v:=fun v w h=>j9 fun q=>by
   have P:=sub (B:=fun v w=>D v w\/D w v) (fun v w h=>h.elim (DE v w) fun h=>g _ _ (DE w v h)) (fun _ _ h=>h.symm) h q;refine ay ((P.bp (x:=x) (y:=y) (.inl (.inl ⟨rfl,rfl⟩))).less (fun v w h=>?_) fun _ _ h=>N.sy _ _ h);have⟨S,h2⟩:=K h;have h3:v≠w:=fun e=>N.ir v hGr;refine⟨S,h2,h3,?_⟩;by_cases k1:v=x
   .grind
   by_cases k2:w=x
   .subst k2;have h':=N.sy _ _ h;grind
   grind
  have aT:∀w,w∈E x->w≠y->w∈H x:=fun w h hn=>by grind
  have U:∀w,w∈E y->w≠x->w∈H x/\w∉E x:=fun w h hn=>by grind
  have aW:∀v w,w∈E v->v≠x->v≠y->w≠x->w≠y->w∈H v:=fun v w h S h2 h3 h4=>by
   rcases all v w h with(⟨h,-⟩|⟨-,-,-,-,h⟩|⟨h,-⟩|⟨h,-⟩)|(⟨h,-⟩|⟨-,-,-,-,h⟩|⟨h,-⟩|⟨h,-⟩)
   .grind
   .exact h
   .grind
   .grind
   .grind
   .grind[V7.sy]
   all_goals grind
  have⟨z,J,V,W,bg,bh,np⟩:=deg x y xy;have⟨I,s,aC,aD,aF,aH,nq⟩:=deg y x yx;have ap:∀{p q},p∈E x->q∈E y->q≠x->p≠q:=fun{p q} S h2 h3 e=>(U q h2 h3).2 (e▸S);have X:[z,J,I,s].Nodup:=by have:=ap V aC aF;have:=ap V aD aH;have:=ap W aC aF;have:=ap W aD aH;simp;grind
  have four:∀v∈[z,J,I,s],v∈H x:=fun v F=>by
   simp only[HV,fj,or_false]at F;rcases F with rfl|rfl|rfl|rfl
   .grind
   .grind
   .grind
   grind
  have deg3:∀v w,w∈H v->∀a b,∃u,u∈H v/\u≠a/\u≠b:=fun v w h a b=>by
   by_cases kx:v=x
   .subst kx;refine j9 fun q=>?_;have:=tf (A:=[z,J,I,s]) (B:=[a,b]) X fun u r=>by
     have:=four u r;by_cases k1:u=a
     .simp[k1]
     by_cases k2:u=b
     .simp[k2]
     .exact(q ⟨u,this,k1,k2⟩).elim
    simp at this
   .have ky:=(K h).1;have:∃t,t∈E v:=by
     obtain⟨-,-,-,h|⟨h,-⟩|⟨-,h⟩⟩:=l v w h
     .exact⟨_,h⟩
     .grind
     .exact⟨_,h⟩
    have⟨t,ht⟩:=this;have⟨c,d,hc,hd,nc,nd,aX⟩:=deg v t ht
    let φ:Nat->Nat:=fun u=>if u=y then x else u
    have φH:∀u,u∈E v->φ u∈H v:=fun u r=>by
     show(if u=y then x else u)∈H v
     split
     .rename_i e;exact N.sy _ _ (U v (g _ _ hGr) kx).1
     .rename_i e;by_cases k:u=x
      .rw[k]at r ⊢;exact N.sy _ _ (aT v (g _ _ r) ky)
      .exact aW v u r kx ky k e
    have φi:∀u u',u∈E v->u'∈E v->φ u=φ u'->u=u':=fun u u' r bk e=>by
     have n1:¬(x∈E v/\y∈E v):=fun h=>(U v (g _ _ h.2) kx).2 (g _ _ h.1)
     have e:(if u=y then x else u)=if u'=y then x else u':=e
     by_cases k1:u=y
     .grind
     .by_cases k2:u'=y
      .grind
      grind
    refine j9 fun q=>?_;have a6:[φ t,φ c,φ d].Nodup:=by have S:=mt (φi t c ht hc) (wI nc);have h2:=mt (φi t d ht hd) (wI nd);have h3:=mt (φi c d hc hd) aX;simp;grind
    have:=tf (A:=[φ t,φ c,φ d]) (B:=[a,b]) a6 fun u r=>by
     have:u∈H v:=by
      simp only[HV,fj,or_false]at r;rcases r with rfl|rfl|rfl
      .exact φH _ ht
      .exact φH _ hc
      .exact φH _ hd
     by_cases k1:u=a
     .simp[k1]
     by_cases k2:u=b
     .simp[k2]
     .exact(q ⟨u,this,k1,k2⟩).elim
    simp at this
  cases T with
  |@up A _ a b v T ab iso h=>
   have F:a∈H v:=(h v a).2 (.inr (.inl ⟨rfl,.inl rfl⟩));have⟨u,r,n1,n2⟩:=deg3 v a F a b;have nva:v≠a:=fun e=>iso b (e▸ab);rcases(h v u).1 r with h|⟨-,h⟩|⟨rfl,h⟩
   .exact iso u h.1
   .grind
   grind
  |six h=>exact six_deg h X four
  |five h=>
   have⟨a,b,c,d,e,bm,h5⟩:=h;have bo:x∈[a,b,c,d,e]:=((h5 x z).1 (four z Ma)).1;have aJ:∀v∈[z,J,I,s],v∈[a,b,c,d,e]:=fun v F=>((h5 x v).1 (four v F)).2.1;have aK:∀u∈[z,J,I,s],∀w∈[z,J,I,s],u≠w->w∈H u:=fun u r w hw ne=>(h5 u w).2 ⟨aJ u r,aJ w hw,ne⟩;have nx4:∀v∈[z,J,I,s],v≠x/\v≠y:=fun v F=>⟨fun e=>N.ir x (by have:=four v F;grind),(K (four v F)).2⟩;have o:∀u∈[z,J,I,s],∀w∈[z,J,I,s],u≠w->w∈E u:=fun u r w hw ne=>R u w (aK u r w hw ne) (nx4 u r).1 (nx4 w hw).1;have a7:=o z Ma J Ma np;have P:=i z J a7;have a1:=nx4 z Ma;have a2:=nx4 J Ma;have a3:=nx4 I Ma;have a4:=nx4 s Ma;have n4:=X;simp only[eR,HV,fj,or_false,not_or]at n4;refine no33 P (a:=x) (b:=I) (c:=s) (d:=y) (e:=z) (f:=J) (by simp;grind) fun v F w hw=>?_;simp only[HV,fj,or_false]at F hw;have hE:w∈E v:=by
    rcases F with rfl|rfl|rfl<;>rcases hw with rfl|rfl|rfl
    .exact xy
    .exact V
    .exact W
    .grind
    .exact o _ Ma _ Ma hGr
    .exact o _ Ma _ Ma hGr
    .grind
    .exact o _ Ma _ Ma hGr
    .exact o _ Ma _ Ma hGr
   refine⟨hE,?_,?_⟩<;>grind
end
end
end Go.Fw
namespace Go.Fw
inductive Trie (α:Type) where
 |leaf
 |node (v:Option α) (l r:Trie α)
def Trie.get{α:Type}:Trie α->Nat->Option α
 |.leaf,_=>Y
 |.node v l r,n=>bif n==0 then v else bif n%2==1 then l.get (n / 2)else r.get (n / 2-1)
def Trie.put{α:Type}:Nat->Trie α->Nat->Option α->Trie α
 |0,t,_,_=>t
 |f+1,.leaf,n,x=>bif n==0 then .node x .leaf .leaf else bif n%2==1 then .node Y (Trie.put f .leaf (n / 2) x) .leaf else .node Y .leaf (Trie.put f .leaf (n / 2-1) x)
 |f+1,.node v l r,n,x=>bif n==0 then .node x l r else bif n%2==1 then .node v (Trie.put f l (n / 2) x) r else .node v l (Trie.put f r (n / 2-1) x)
def Trie.set{α:Type}(t:Trie α)(n:Nat)(x:α):Trie α:=Trie.put (n+1) t n (Z x)
def Trie.del{α:Type}(t:Trie α)(n:Nat):Trie α:=Trie.put (n+1) t n Y
theorem Trie.Tl{α:Type}:∀(f:Nat)(t:Trie α)(n j:Nat)(x:Option α),n<f->(Trie.put f t n x).get j=if j=n then x else t.get j
 |0,_,n,_,_,h=>absurd h NH
 |f+1,t,n,j,x,h=>by
  by_cases a:n=0
  .subst a;cases t<;>grind[Trie.put,Trie.get]
  .by_cases c:n%2=1
   .have b:=fun t j=>Trie.Tl f t (n / 2) j x NH;cases t<;>grind[Trie.put,Trie.get]
   .have b:=fun t j=>Trie.Tl f t (n / 2-1) j x NH;cases t<;>grind[Trie.put,Trie.get]
theorem Trie.YO{α:Type}(t:Trie α)(n j:Nat)(x:α):(t.set n x).get j=if j=n then Z x else t.get j:=Trie.Tl _ t n j _ NH
theorem Trie.Xw{α:Type}(t:Trie α)(n:Nat)(x:α):(t.set n x).get n=Z x:=by grind[Trie.YO]
theorem Trie.bR{α:Type}(t:Trie α)(n j:Nat)(x:α)(h:j≠n):(t.set n x).get j=t.get j:=by grind[Trie.YO]
theorem Trie.Ik{α:Type}(t:Trie α)(n j:Nat):(t.del n).get j=if j=n then Y else t.get j:=Trie.Tl _ t n j _ NH
theorem Trie.jd{α:Type}(t:Trie α)(n:Nat):(t.del n).get n=Y:=by grind[Trie.Ik]
theorem Trie.ajv{α:Type}(t:Trie α)(n j:Nat)(h:j≠n):(t.del n).get j=t.get j:=by grind[Trie.Ik]
inductive fK where
 |cells (c:List vV)
 |map (es:List (vV×vV))
def UNK:Nat:=2^100
structure aai where
 ext:Nat->Nat->Option vV
 next:Nat
 t:Trie fK
namespace aai
def own(h:aai)(i:Nat):Option fK:=h.t.get i
def put(h:aai)(i:Nat)(o:fK):aai:={h with t:=h.t.set i o}
def kill(h:aai)(i:Nat):aai:={h with t:=h.t.del i}
def alloc(h:aai)(o:fK):aai:={h with next:=h.next+1,t:=h.t.set h.next o}
def read(h:aai)(a:Addr):Option vV:=
  match a.spot with
  |none=>match h.own a.block with
    |some (.cells c)=>c[a.off]?
    |_=>Y
  |some _=>h.ext a.block a.off
theorem Y3(h:aai)(i:Nat)(o:fK):(h.put i o).own i=Z o:=Trie.Xw _ _ _
theorem By(h:aai)(i j:Nat)(o:fK)(n:j≠i):(h.put i o).own j=h.own j:=Trie.bR _ _ _ _ n
theorem Dg(h:aai)(i:Nat):(h.kill i).own i=Y:=Trie.jd _ _
theorem xJ(h:aai)(i j:Nat)(n:j≠i):(h.kill i).own j=h.own j:=Trie.ajv _ _ _ n
theorem zT(h:aai)(o:fK):(h.alloc o).own h.next=Z o:=Trie.Xw _ _ _
theorem Ve(h:aai)(j:Nat)(o:fK)(n:j≠h.next):(h.alloc o).own j=h.own j:=Trie.bR _ _ _ _ n
end aai
structure Loc where
 blk:Nat
 base:Nat
 lim:Nat
abbrev abd:=Nat->Loc
def flat:vV->Bool
 |.bool _|.int _ _|.string _|.pointer Y|.map Y|.nilFunc|.nilIface=>tT
 |.slice Y l c=>l==0&&c==0
 |_=>fF
inductive VR (n:Nat) (m:abd):vV->vV->Prop
  |flat {v:vV} (h:flat v=tT):VR n m v v
  |ptr {id off:Nat} (h:id<n):VR n m (pT (Z ⟨id,off,Y⟩)) (pT (Z ⟨(m id).blk,(m id).base+off,Y⟩))
  |aeK {b off:Nat}:VR n m (pT (Z ⟨b,off,Z 0⟩)) (pT (Z ⟨b,off,Y⟩))
  |slice {id off len cap:Nat} (h:id<n) (hc:cap<UNK):VR n m (sL (Z ⟨id,off,Y⟩) len cap) (sL (Z ⟨(m id).blk,(m id).base+off,Y⟩) len cap)
  |buf {id off len k cap':Nat} {a':Addr} (h:id<n) (hl:len<=cap') (ha:(a'=⟨(m id).blk,(m id).base+off,Y⟩/\(m id).base+off+cap'*k<=(m id).lim/\cap'<UNK)\/cap'=0):
      VR n m (sL (Z ⟨id,off,Y⟩) len (UNK+k)) (sL (Z a') len cap')
  |esl {b off len cap:Nat} (hc:cap<UNK):VR n m (sL (Z ⟨b,off,Z 0⟩) len cap) (sL (Z ⟨b,off,Y⟩) len cap)
  |empty {a a':Addr}:VR n m (sL (Z a) 0 0) (sL (Z a') 0 0)
  |map {id:Nat} (h:id<n):VR n m (.map (Z id)) (.map (Z (m id).blk))
  |func {f:Fn} {a a' b b':Array vV} (ha:a.size=a'.size) (hb:b.size=b'.size)
      (h1:∀(i:Nat)(v v':vV),a[i]?=Z v->a'[i]?=Z v'->VR n m v v') (h2:∀(i:Nat)(v v':vV),b[i]?=Z v->b'[i]?=Z v'->VR n m v v'):
      VR n m (.func f a b) (.func f a' b')
  |iface {t:TypeId} {v v':vV} (h:VR n m v v'):VR n m (.iface t v) (.iface t v')
  |agg {a a':Array vV} (ha:a.size=a'.size) (h:∀(i:Nat)(v v':vV),a[i]?=Z v->a'[i]?=Z v'->VR n m v v'):VR n m (.agg a) (.agg a')
  |tuple {a a':Array vV} (ha:a.size=a'.size) (h:∀(i:Nat)(v v':vV),a[i]?=Z v->a'[i]?=Z v'->VR n m v v'):VR n m (.tuple a) (.tuple a')
def ZK(n:Nat)(m a:abd):Prop:=∀i,i<n->a i=m i
theorem ZK.refl(n:Nat)(m:abd):ZK n m m:=fun _ _=>rfl
theorem ZK.trans{n n':Nat}{m b a:abd}(h:ZK n m b)(h':ZK n' b a)(c:n<=n'):ZK n m a:=fun i hi=>(h' i NH).trans (h i hi)
theorem VR.mono{n n':Nat}{m d:abd}{v v':vV}(h:VR n m v v')(k:n<=n')(b:ZK n m d):VR n' d v v':=by
 induction h with
 |flat h=>exact .flat h
 |ptr h=>rw[<-b _ h];exact .ptr NH
 |aeK=>exact .aeK
 |slice h c=>rw[<-b _ h];exact .slice NH c
 |buf h f ha=>exact .buf NH f (by rw[b _ h];exact ha)
 |esl c=>exact .esl c
 |empty=>exact .empty
 |map h=>rw[<-b _ h];exact .map NH
 |func ha hb l h2 g j=>exact .func ha hb (fun i v v' e e'=>g i v v' e e') (fun i v v' e e'=>j i v v' e e')
 |iface _ a=>exact .iface a
 |agg ha h a=>exact .agg ha (fun i v v' e e'=>a i v v' e e')
 |tuple ha h a=>exact .tuple ha (fun i v v' e e'=>a i v v' e e')
def tag:vV->Option vV
 |.pointer (Z ⟨b,off,Y⟩)=>Z (pT (Z ⟨b,off,Z 0⟩))
 |.slice (Z ⟨b,off,Y⟩) len cap=>if cap<UNK then Z (sL (Z ⟨b,off,Z 0⟩) len cap)else Y
 |.slice (Z ⟨b,off,Z _⟩) 0 0=>Z (sL (Z ⟨b,off,Z 0⟩) 0 0)
 |v=>if flat v then Z v else Y
theorem VR.akj{n:Nat}{m:abd}{v v':vV}(h:tag v'=Z v):VR n m v v':=by
 unfold tag at h;split at h
 .injection h with h;subst h;exact .aeK
 .split at h
  .injection h with h;subst h;exact .esl (by assumption)
  .cases h
 .injection h with h;subst h;exact .empty
 .split at h
  .injection h with h;subst h;exact .flat (by assumption)
  .cases h
def AK(n:Nat)(m:abd)(l l':List vV):Prop:=l.length=l'.length/\∀(i:Nat)(v v':vV),l[i]?=Z v->l'[i]?=Z v'->VR n m v v'
theorem AK.mono{n n':Nat}{m b:abd}{v v':List vV}(h:AK n m v v')(c:n<=n')(d:ZK n m b):AK n' b v v':=⟨h.1,fun i a a' e e'=>(h.2 i a a' e e').mono c d⟩
theorem AK.nil(n:Nat)(m:abd):AK n m [] []:=⟨rfl,fun i v v' h=>by simp at h⟩
theorem AK.cons{n:Nat}{m:abd}{v v':vV}{l l':List vV}(h:VR n m v v')(b:AK n m l l'):AK n m (v::l) (v'::l'):=by
 refine⟨by simp[b.1],fun i a a' e e'=>?_⟩;cases i with
 |zero=>grind
 |succ i=>exact b.2 i a a' (by simpa using e) hGr
theorem AK.append{n:Nat}{m:abd}{a a' b c:List vV}(h:AK n m a a')(h2:AK n m b c):AK n m (a++b) (a'++c):=by
 refine⟨by simp[h.1,h2.1],fun i v v' e e'=>?_⟩;by_cases hi:i<a.length
 .rw[EP hi]at e;rw[EP (by rw[<-h.1];exact hi)]at e';exact h.2 i v v' e e'
 .rw[jf NH]at e;rw[jf (by have:=h.1;omega)]at e';exact h2.2 (i-a.length) v v' e (by rw[h.1];exact e')
theorem AK.take{n:Nat}{m:abd}{a a':List vV}(h:AK n m a a')(k:Nat):AK n m (a.take k) (a'.take k):=by
 refine⟨by simp[h.1],fun i v v' e e'=>?_⟩;rw[Dj]at e e';split at e
 .rename_i b;rw[Sb b]at e';exact h.2 i v v' e e'
 .cases e
theorem AK.drop{n:Nat}{m:abd}{a a':List vV}(h:AK n m a a')(k:Nat):AK n m (a.drop k) (a'.drop k):=by refine⟨by simp[h.1],fun i v v' e e'=>?_⟩;rw[Ki]at e e';exact h.2 (k+i) v v' e e'
theorem AK.set{n:Nat}{m:abd}{a a':List vV}(h:AK n m a a')(k:Nat){x x':vV}(c:VR n m x x'):AK n m (a.set k x) (a'.set k x'):=by
 refine⟨by simp[h.1],fun i v v' e e'=>?_⟩;rw[K4]at e e';by_cases b:k=i
 .grind
 .rw[WA b]at e e';exact h.2 i v v' e e'
theorem AK.get{n:Nat}{m:abd}{a a':List vV}(h:AK n m a a'){i:Nat}{v:vV}(e:a[i]?=Z v):∃v',a'[i]?=Z v'/\VR n m v v':=by
 have hi:i<a.length:=(Ny.1 e).1;have b:i<a'.length:=by rw[<-h.1];exact hi
 exact⟨a'[i],Gc b,h.2 i v _ e (Gc b)⟩
theorem VR.uk{n:Nat}{m:abd}{a a':Array vV}(h:AK n m a.toList a'.toList):VR n m (.agg a) (.agg a'):=
 .agg (by simpa using h.1) (fun i v v' e e'=>h.2 i v v' (by simpa using e) hGr)
theorem VR.qY{n:Nat}{m:abd}{a a':Array vV}(h:AK n m a.toList a'.toList):VR n m (.tuple a) (.tuple a'):=
 .tuple (by simpa using h.1) (fun i v v' e e'=>h.2 i v v' (by simpa using e) hGr)
def aek(E:Array MapEntry)(clock:Nat):Prop:=clock=E.size/\∀(i:Nat)(a:MapEntry),E[i]?=Z a->a.born=i
def ORel(n:Nat)(m:abd)(w:World)(loc:Loc):fK->Prop
  |.cells c=>∃(C:Array vV)(e:TypeId)(lo hi:Nat),w.heap[loc.blk]?=Z (.cells C e (lo,hi))/\C.size=loc.lim/\loc.base+c.length<=C.size/\
      AK n m c ((C.toList.drop loc.base).take c.length)/\(∀v∈C.toList,v.oneCell'=tT)/\∀i,i<C.size->((lo<=i&&i<hi)=fF/\lo<=hi)
  |.map es=>∃(E:Array MapEntry)(clock:Nat),w.heap[loc.blk]?=Z (.map E clock)/\
      AK n m (es.map (·.1)) (E.toList.map (·.key))/\AK n m (es.map (·.2)) (E.toList.map (·.val))/\aek E clock
structure LA extends World where
 rw:List (Nat×Obj)
 n0:Nat
 m0:abd
def LA.add(a:LA)(ex:List (Nat×Obj)):LA:={a with rw:=ex++a.rw}
def LA.of(W:World):LA:={W with rw:=[],n0:=0,m0:=fun _=>⟨0,0,0⟩}
structure Prot (W0:LA) (m:abd) (h:aai) (w:World):Prop where
 agree:ZK W0.n0 W0.m0 m
 next:W0.n0<=h.next
 VM:(W0.rw.map (·.1)).Nodup
 hi:∀b o,(b,o)∈W0.rw->W0.heap.size<=b
 held:∀b o,(b,o)∈W0.rw->w.heap[b]?=Z o
 apart:∀b o i,(b,o)∈W0.rw->h.own i≠Y->(m i).blk≠b
theorem Prot.put{a:LA}{m:abd}{h h':aai}{w w':World}(p:Prot a m h w)(hs:∀i,h'.own i≠Y->h.own i≠Y)(hw:∀b,b<w.heap.size->(∀i,h.own i≠Y->(m i).blk≠b)->w'.heap[b]?=w.heap[b]?)(c:h.next<=h'.next:=by exact qL0 _):Prot a m h' w':=⟨p.agree,ff p.next c,p.VM,p.hi,fun b o hb=>(hw b (Fu.1 (p.held b o hb)).1 (fun i hi=>p.apart b o i hb hi)).trans (p.held b o hb),fun b o i hb hi=>p.apart b o i hb (hs i hi)⟩
theorem Prot.lt{a:LA}{m:abd}{h:aai}{w:World}(p:Prot a m h w){b:Nat}{o:Obj}(hb:(b,o)∈a.rw):b<w.heap.size:=(Fu.1 (p.held b o hb)).1
structure Rel (W0:LA) (m:abd) (h:aai) (w:World):Prop where
 size:W0.heap.size<=w.heap.size
 qi:∀b,b<W0.heap.size->w.heap[b]?=W0.heap[b]?
 ext:∀b off,h.ext b off=(W0.cell? ⟨b,off,Y⟩).bind tag
 lt:∀i,h.own i≠Y->i<h.next
 new:∀i,h.own i≠Y->W0.heap.size<=(m i).blk
 own:∀i o,h.own i=Z o->ORel h.next m w (m i) o
 inj:∀i j,h.own i≠Y->h.own j≠Y->(m i).blk=(m j).blk->i=j
 os:w.os=W0.os
 output:w.output=W0.output
 tape:w.tape=W0.tape/\W0.drawn<=w.drawn
 aah:Prot W0 m h w
end Go.Fw
