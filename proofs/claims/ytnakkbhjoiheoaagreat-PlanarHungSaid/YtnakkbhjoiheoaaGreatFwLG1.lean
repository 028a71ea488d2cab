/- A text. -/
import Derived.Shelf.Sort.Plain
import Derived.Shelf.Slices.In.SortNone
import Derived.Shelf.Slices.CompactI
import Derived.Test.YtnakkbhjoiheoaaGreatFwZD
set_option linter.all false
set_option maxRecDepth 99999
set_option maxHeartbeats 9999999
open Go.Proofs
open Option renaming some→Z,none→Y
open Bool renaming true→tT,false→fF
open List renaming replicate→rP,range→rG
open Go.Value renaming slice→sL,pointer→pT
open Go renaming Value→vV
open Go.Proofs.Tryz renaming prog→pG
open Go.Proofs.Tryz
open List
namespace Go.Fw
variable {X id k:Nat} {es ps:List Pr} {ev:Value} {h:aai} {n:Int}
def Wj{v:vV}(a:xO v k):acB pG 24 [(0,n),(1,v)]=Z (.agg #[n,v]):=by obtain⟨_,_,rfl,_⟩:=a;kernel_rfl
theorem Lo(h:aai):abO pG h 24=Z (pT (Z h.next),h.alloc (.cells [.int .i64 0,.slice Y 0 0])):=rfl
def newG(hw:WF h)(r:PR h ev es):∃b h2,abO pG h 24=Z (pT (Z ⟨h.next,0,Y⟩),b)/\aaK pG b 24 (pT (Z ⟨h.next,0,Y⟩)) (.agg #[.int .i64 n,ev])=Z h2/\Le h h2/\WF h2/\
  ∀g,Le h2 g->aaC pG g 24 ⟨h.next,0,Y⟩=Z (.agg #[.int .i64 n,ev])/\aaC pG g 3 ⟨h.next,0,Y⟩=Z (.int .i64 n)/\aaC pG g 22 ⟨h.next,1,Y⟩=Z ev:=by
 obtain⟨b,f,l1,w1,d⟩:=Tt hw [.int .i64 0,.slice Y 0 0]
 have i:h.own h.next=Y:=(Le.refl h).next hw (qL0 _)
 have one:=r.sl.one;have a:UA pG 24=2:=Ji;have j:(vV.agg #[.int .i64 n,ev]).cells=#[.int .i64 n,ev]:=rfl;have k:(vV.int IntKind.i64 n).oneCell'=tT:=rfl
 have c:(b.put h.next (.cells [.int .i64 n,ev])).own h.next=Z (.cells [.int .i64 n,ev]):=aai.Y3 _ _ _
 refine⟨b,b.put h.next (.cells [.int .i64 n,ev]),by rw[Lo,f],?_,l1.put _ i,w1.put _ (w1.lt d),fun g e=>⟨?_,Fq Ac rfl (e.own _ _ c),Fq eY rfl (e.own _ _ c)⟩⟩
 .simp[aaK,d,j,a,putCells,qS8,one,k]
 .rw[Wx qS8 rfl a (e.own _ _ c) Ma];rfl
theorem PR.made(a:h.own id=Z (.cells (Iu ps)))(b:ps.length=k):PR h (sL (Z id) k k) ps:=by have:=CS.own (k:=2) (off:=0) (n:=k) (cap:=k) a (by grind[Ta]);grind[Ta,PR.eq_1]
structure GX (h:aai) (X:Nat) (n:Int) (ev:vV) (ps:xLP):Prop where
 ox:h.own X=Z (.cells [n,ev])
 gp:GP h ev ps
 ne:blk ev≠Z X
def ait(n:Int):acB pG 24 [(0,n)]=Z (.agg #[n,.slice Y 0 0]):=Ji
theorem GX.new(hw:WF h)(n:Int):∃a h2,abO pG h 24=Z (pT (Z ⟨h.next,0,Y⟩),a)/\aaK pG a 24 (pT (Z ⟨h.next,0,Y⟩)) (.agg #[.int .i64 n,.slice Y 0 0])=Z h2/\Le h h2/\WF h2/\h.own h.next=Y/\GX h2 h.next n (.slice Y 0 0) []:=by
 obtain⟨a,j,l1,w1,d⟩:=Tt hw [.int .i64 0,.slice Y 0 0]
 have e:h.own h.next=Y:=(Le.refl h).next hw (qL0 _)
 have b:UA pG 24=2:=Ji;have f:(vV.agg #[.int .i64 n,.slice Y 0 0]).cells=#[.int .i64 n,.slice Y 0 0]:=rfl;have g:(vV.int IntKind.i64 n).oneCell'=tT:=rfl;have c:(vV.slice Y 0 0).oneCell'=tT:=rfl
 have i:(a.put h.next (.cells [.int .i64 n,.slice Y 0 0])).own h.next=Z (.cells [.int .i64 n,.slice Y 0 0]):=aai.Y3 _ _ _
 refine⟨a,a.put h.next (.cells [.int .i64 n,.slice Y 0 0]),by grind[Lo],?_,l1.put _ e,w1.put _ (w1.lt d),e,⟨i,GP.nil _,by simp[blk]⟩⟩
 simp[aaK,d,f,b,putCells,qS8,g,c]
theorem GX.le{h h':aai}{X:Nat}{n:Int}{ev:vV}{ps:xLP}(g:GX h X n ev ps)(e:Le h h'):GX h' X n ev ps:=⟨e.own _ _ g.ox,g.gp.le e,g.ne⟩
def GX.ld(g:GX h X n ev ps):aaC pG h 24 ⟨X,0,Y⟩=Z (.agg #[n,ev])/\aaC pG h 3 ⟨X,0,Y⟩=Z (.int .i64 n)/\aaC pG h 22 ⟨X,1,Y⟩=Z ev:=by refine⟨?_,Fq Ac rfl g.ox,Fq eY rfl g.ox⟩;rw[Wx qS8 rfl (by kernel_rfl:UA pG 24=2) g.ox Ma];rfl
theorem GX.push'(g:GX h X n ev ps)(hw:WF h)(p:Pr)(l:ps.length+1<=100000):
  ∃v' a i c,aas pG h 22 1 [(0,UI p)]=Z (sL (Z h.next) 1 1,a)/\aaR pG a 22 22 ev (sL (Z h.next) 1 1)=Z (v',i)/\aaK pG i 22 (pT (Z ⟨X,1,Y⟩)) v'=Z c/\
   GX c X n v' (ps++[p])/\WF c/\Le h a/\(∀f,Le f h->f.own X=Y->Z2 f ev->Le f c/\Z2 f v')/\(∀b o,h.own b=Z o->b≠X->blk ev≠Z b->c.own b=Z o/\blk v'≠Z b):=by
 have⟨v',a,i,e4,m,j,k,l4,hf,q⟩:=g.gp.push hw p l;have⟨d,e⟩:=q X _ g.ox g.ne;have one:=j.pr.sl.one;have r:v'.cells=#[v']:=by obtain⟨_,_,rfl,_⟩:=j.pr.sl;rfl
 have st:=QB (P:=pG) (t:=22) (x:=v') eY Ji d (off:=1) Ma r one;refine⟨v',a,i,_,e4,m,st,⟨aai.Y3 _ _ _,GS.put j _ e,e⟩,k.put _ (k.lt d),l4,fun f s u af=>?_,fun b o hb v w=>?_⟩
 all_goals grind[Le.put,aai.By]
section
attribute [local irreducible] Kp MQ lU KO1 KO KN KX KE VK Kl ZJ TC aab
theorem Back_any(b:LA)(v:vV)(xs:RZ)(h:aai)(c:RL RP h v xs):AC pG b 85 [v] h fun x h'=>∃B,x=.func (.func 123) #[] #[pT (Z ⟨B,0,Y⟩)]/\h.next<=B/\h'.own B=Z (.cells [v])/\Le h h':=by
 refine AC.vF func85 ntmps85 results85 fun a=>?_;have⟨d,e,l1,w1,g⟩:=Tt a [v]
 have f:zF h v=Z (pT (Z h.next),d):=by rw[<-e];obtain⟨_,_,rfl,_⟩:=c.sl;rfl
 refine Sk f ?_;grind
theorem Back1_any(o:LA)(e B:Nat)(v:vV)(xs:RZ)(I:Nat->aai->Prop)(h:aai)(u:xs.length<1000000)(d:∀i g,I i g->g.own B=Z (.cells [v])/\RL RP g v xs)(f:I xs.length h)(p:∀i g (hi:i<xs.length),WF g->h.next<=g.next->I (i+1) g->AY pG o e [.int .i64 i,.int .i64 xs[i]] g fun x l=>x=.bool tT/\h.next<=l.next/\I i l):
  AC pG o 123 [Yg e,pT (Z B)] h fun _ h'=>I 0 h':=by
 have ld:∀i g,I i g->aaC pG g 28 ⟨B,0,Y⟩=Z v:=fun i g hi=>by rw[Fq Mb rfl (d i g hi).1];rfl
 refine AC.vF func123 ntmps123 results123 fun q=>?_;have w1:aaY .i64 ((xs.length:Int)-1)=(xs.length:Int)-1:=ie _ NH NH;simp only[HO,seval,ld _ _ f,(d _ _ f).2.len Mb,w1]
 refine lIn (fun k fr g=>∃i:Nat,k=i/\i<=xs.length/\fr=mkF [(0,Yg e),(1,pT (Z B)),(3,.int .i64 ((i:Int)-1))]/\h.next<=g.next/\I i g) ⟨xs.length,rfl,qL0 _,rfl,qL0 _,f⟩ ?_
 rintro k fr g r ⟨i,rfl,hi,rfl,hle,a⟩;refine Uy ?_;refine Kl.intro (fun w=>?_) (fun hf=>?_)
 .have b:1<=k:=hGr;obtain⟨j,rfl⟩:∃j,k=j+1:=⟨k-1,NH⟩;have m:j<xs.length:=NH;have s:((j+1:Nat):Int)-1=(j:Int):=NH;have ad:=(d _ _ a).2.addr (k:=.i64) Mb Ac rfl j m;have le:=(d _ _ a).2.Uc j m;simp only[HO,seval,s,ld _ _ a,ad,le];refine TC.yield (by simp only[HO,seval,yieldOf]<;>rfl) (p j g m r hle a) ?_;rintro x l t ⟨rfl,c,n⟩;have w2:aaY .i64 ((j:Int)-1)=(j:Int)-1:=ie _ NH NH;refine Sk w2 ?_;exact lgA NH ⟨j,rfl,NH,rfl,c,n⟩
 .have b:k=0:=hGr;subst b;refine Uy ?_;exact a
variable {n s v w:Nat} {o:II} {up:RZ}
instance adjDec (es:xLP) (u w:Nat):Decidable (Jp es u w):=by unfold Jp;infer_instance
def nxtF(n:Nat)(es:xLP)(o:II)(v:Nat):Option Nat:=(rG n).find? fun w=>decide (Jp es v w)&&!o.contains w
def af5(n:Nat)(es:xLP)(o:II):II->Option (Nat×Nat)
  |[]=>Y
  |v::r=>match nxtF n es o v with
    |some w=>Z (v,w)
    |none=>af5 n es o r
def walkS(n:Nat)(es:xLP)(st:II×RZ):II×RZ:=
 match af5 n es st.1 st.1.reverse with
 |some (v,w)=>(st.1++[w],st.2.set w (v:Int))
 |none=>st
def afG(n:Nat)(es:xLP):Nat->II×RZ->II×RZ
 |0,st=>st
 |k+1,st=>afG n es k (walkS n es st)
def K9(n:Nat)(es:xLP)(s:Nat):II×RZ:=afG n es n ([s],rP n (-1))
theorem nxtF_some(a:aV n es)(h:nxtF n es o v=Z w):Jp es v w/\w∉o/\∀y,Jp es v y->y∉o->w<=y:=by grind[nxtF,List.find?_range_eq_some]
theorem Yf(a:aV n es)(h:nxtF n es o v=Y):Full es o v:=by intro y b;unfold nxtF at h;rw[List.find?_eq_none]at h;have:=h y (abV.2 (b.lt a).2);grind
theorem ac8{n:Nat}{es:xLP}{o:II}(b:aV n es):∀{l:II},af5 n es o l=Y->∀x∈l,Full es o x
 |[],_,x,a=>by simp at a
 |v::r,h,x,a=>by
  simp only[af5]at h;split at h
  .cases h
  .rcases qL7.1 a with rfl|a
   .grind[Yf]
   .exact ac8 b h x a
theorem O6{n:Nat}{es:xLP}{o:II}(b:aV n es):∀{l:II}{v w:Nat},af5 n es o l=Z (v,w)->∃i,l[i]?=Z v/\nxtF n es o v=Z w/\∀(j x:Nat),j<i->l[j]?=Z x->Full es o x
 |[],v,w,h=>by cases h
 |u::r,v,w,h=>by
  simp only[af5]at h;split at h
  .rename_i w' c;injection h with h;injection h with a h2;subst a h2;exact⟨0,rfl,c,NH⟩
  .obtain⟨i,a,h2,h3⟩:=O6 b h;refine⟨i+1,hGr,h2,fun j x d e=>?_⟩;cases j<;>grind[Yf]
theorem du.ndlt(b:aV n es)(hs:s<n)(d:du n es s o up):o.Nodup/\∀x∈o,x<n:=by
 induction d with
 |start=>simp[hs]
 |@step o up k v w d c ha hw e hf f=>
  refine⟨?_,fun x a=>?_⟩
  .grind
  .rw[yM,Gw]at a;rcases a with a|rfl
   .grind
   .exact(ha.lt b).2
theorem du.boundF(a:aV n es)(hs:s<n)(d:du n es s o up):o.length<=n:=by have:=(d.ndlt a hs).1.length_le_of_subset (l₂:=rG n) fun v b=>abV.2 ((d.ndlt a hs).2 v b);grind
theorem jM{n:Nat}{es:xLP}{s:Nat}(a:aV n es)(hs:s<n):∀(k:Nat){o:II}{up:RZ},du n es s o up->n<o.length+k->Oc n es s (afG n es k (o,up)).1 (afG n es k (o,up)).2
 |0,o,up,d,h=>by have:=d.boundF a hs;omega
 |k+1,o,up,d,h=>by
  simp only[afG,walkS];split
  .rename_i v w b;have⟨i,m,h2,h3⟩:=O6 a b;have⟨c,e,f⟩:=nxtF_some a h2;refine jM a hs k (.step (k:=o.length-1-i) d ?_ c e f fun j x p g=>?_) (by simp;omega)
   .grind
   .have l:=(Ny.1 g).1;refine h3 (o.length-1-j) x NH ?_;grind
  .rename_i b;have hf:∀x∈o,Full es o x:=by grind[ac8]
   have:∀k,afG n es k (o,up)=(o,up):=by
    intro k
    induction k<;>grind[afG,walkS]
   rw[this];exact⟨d,hf⟩
def Te(a:aV n es)(hs:s<n):Oc n es s (K9 n es s).1 (K9 n es s).2:=jM a hs n .start Ma
theorem Oc.eq(a:aV n es)(hs:s<n)(d:Oc n es s o up):o=(K9 n es s).1/\up=(K9 n es s).2:=d.uniq (Te a hs)
variable {a b:Nat}
def GW(a b:Nat):Pr:=(min (a:Int) (b:Int),max (a:Int) (b:Int))
theorem so(a b:Nat):GW a b=GW b a:=by grind[GW]
theorem bj:GW a b=(((min a b:Nat):Int),((max a b:Nat):Int)):=by grind[GW]
theorem H4(c:aV n es)(h:Jp es a b):GW a b∈es:=by
 unfold GW;rcases h with h|h
 .have:=c _ h;grind
 .have:=c _ h;grind
theorem ahq(h:GW v a=GW v b):a=b:=by rw[bj,bj,abW]at h;omega
theorem T0(c:aV n es)(h:Jp es a b):GW a b∈es:=H4 c h
theorem Xa(b:aV n es)(h:Jp es a a):False:=by
 rcases h with h|h<;>have:=(b _ h).2.1<;>simp at this
def goS(rows:AM)(d:Nat×Nat):Nat×Nat:=(d.2,(if(rows.getD d.2 []).getD 0 0=(d.1:Int)then(rows.getD d.2 []).getD 1 0 else(rows.getD d.2 []).getD 0 0).toNat)
def goF(rows:AM):Nat->Nat×Nat->Nat->Nat×Nat
 |0,d,k=>(d.2,k)
 |f+1,d,k=>if(rows.getD d.2 []).length=2 then goF rows f (goS rows d) (k+1)else(d.2,k)
theorem alE(rows:AM):∀(K f:Nat)(d:Nat×Nat)(k:Nat),K<f->(∀i,i<K->(rows.getD (it (goS rows) i d).2 []).length=2)->(rows.getD (it (goS rows) K d).2 []).length≠2->goF rows f d k=((it (goS rows) K d).2,k+K)
 |0,f+1,d,k,_,_,h=>by have h':(rows.getD d.2 []).length≠2:=h;rw[goF,IE h'];rfl
 |K+1,f+1,d,k,hf,a,h2=>by have b:(rows.getD d.2 []).length=2:=a 0 (Nat.succ_pos _);rw[goF,WA b,alE rows K f (goS rows d) (k+1) NH (by grind[aaS]) (by rw[<-aaS];exact h2),<-aaS];congr 1;omega
section
variable{n:Nat}{es:List Pr}(hR:aV n es)(hA:D3 es)
include hR hA
theorem abg{v:Nat}(h:((Zh n es).getD v []).length=2):∃a b:Nat,(Zh n es).getD v []=[(a:Int),(b:Int)]/\a≠b/\Jp es v a/\Jp es v b/\∀w,Jp es v w->w=a\/w=b:=by
 have f:=KW es hR hA v;have d:=fun w=>EW hR v w;have c:=fun x=>Ru hR (u:=v) (x:=x);generalize (Zh n es).getD v []=r at*
 match r,h with
 |[x,y],_=>
  obtain⟨a,rfl,-⟩:=c x Ma;obtain⟨b,rfl,-⟩:=c y Ma;have e:(a:Int)<(b:Int):=by grind[mem_singleton]
  refine⟨a,b,rfl,NH,hGr,hGr,fun w hw=>?_⟩;have:=(d w).2 hw;simp at this;omega
def goS_adj{d:Nat×Nat}(h2:((Zh n es).getD d.2 []).length=2):Jp es (goS (Zh n es) d).1 (goS (Zh n es) d).2:=by have⟨a,b,e,ne,h3,c,f⟩:=abg hR hA h2;unfold goS;rw[e];split<;>simpa using by assumption
theorem amd{d c:Nat×Nat}(v:Jp es d.2 d.1)(v':Jp es c.2 c.1)(h2:((Zh n es).getD d.2 []).length=2)(e:goS (Zh n es) d=goS (Zh n es) c):d=c:=by have⟨l,x⟩:=d;have⟨l',x'⟩:=c;have ex:x=x':=congrArg Prod.fst e;subst ex;have f:=congrArg Prod.snd e;have⟨a,b,h,ne,h3,i,g⟩:=abg hR hA h2;unfold goS at f;rw[h]at f;simp only[alv,alC]at f;have:=g l v;have:=g l' v';grind
theorem aa7{d:Nat×Nat}(v:Jp es d.1 d.2):∀k,(∀i,i<k->((Zh n es).getD (it (goS (Zh n es)) i d).2 []).length=2)->Jp es (it (goS (Zh n es)) k d).1 (it (goS (Zh n es)) k d).2
 |0,_=>v
 |k+1,h=>goS_adj hR hA hGr
def af6{d:Nat×Nat}(v:Jp es d.1 d.2){K:Nat}(h:∀i,i<K->((Zh n es).getD (it (goS (Zh n es)) i d).2 []).length=2):∀i j,i<j->j<=K->it (goS (Zh n es)) i d=it (goS (Zh n es)) j d->d=it (goS (Zh n es)) (j-i) d
 |0,j,_,_,e=>e
 |i+1,j+1,a,c,e=>by have a1:=aa7 hR hA v i fun q b=>h q NH;have a2:=aa7 hR hA v j fun q b=>h q NH;have:=af6 v h i j NH NH (amd hR hA a1.symm a2.symm (h i NH) e);rwa[show j+1-(i+1)=j-i by omega]
theorem go_ends{c v:Nat}(b:Jp es c v)(p:((Zh n es).getD c []).length≠2):∃K,K<=n*n/\(∀i,i<K->((Zh n es).getD (it (goS (Zh n es)) i (c,v)).2 []).length=2)/\((Zh n es).getD (it (goS (Zh n es)) K (c,v)).2 []).length≠2:=by
 by_cases H:∀K,K<=n*n->(∀i,i<K->((Zh n es).getD (it (goS (Zh n es)) i (c,v)).2 []).length=2)->((Zh n es).getD (it (goS (Zh n es)) K (c,v)).2 []).length=2
 rotate_left
 .simp only[bC]at H;have⟨K,d,h2,h3⟩:=H;exact hGr
 have all:∀K,K<=n*n+1->∀i,i<K->((Zh n es).getD (it (goS (Zh n es)) i (c,v)).2 []).length=2:=by
  intro K
  induction K with
  |zero=>omega
  |succ K g=>
   intro q i hi;rcases Nat.lt_succ_iff_lt_or_eq.1 hi with h|rfl
   .exact g NH i h
   .exact hGr
 have all:=all _ (qL0 _);let code:Nat->Nat:=fun i=>(it (goS (Zh n es)) i (c,v)).1*n+(it (goS (Zh n es)) i (c,v)).2;have lt:∀i,i<=n*n->(it (goS (Zh n es)) i (c,v)).1<n/\(it (goS (Zh n es)) i (c,v)).2<n:=fun i hi=>(aa7 hR hA b i hGr).lt hR;have nd:((rG (n*n+1)).map code).Nodup:=by
  have key:∀i j,i<j->j<=n*n->code i≠code j:=fun i j a k e=>by
   have⟨a1,a2⟩:=lt i NH;have⟨r,l⟩:=lt j k;have e':(it (goS (Zh n es)) i (c,v)).1*n+(it (goS (Zh n es)) i (c,v)).2=(it (goS (Zh n es)) j (c,v)).1*n+(it (goS (Zh n es)) j (c,v)).2:=e;have s:0<n:=NH;have m2:(it (goS (Zh n es)) i (c,v)).2=(it (goS (Zh n es)) j (c,v)).2:=by have:=congrArg (·%n) e';simp only[Nat.mul_add_mod_self_right]at this;rwa[PN a2,PN l]at this
   have m1:(it (goS (Zh n es)) i (c,v)).1=(it (goS (Zh n es)) j (c,v)).1:=by exact(by grind[Nat.eq_of_mul_eq_mul_right])
   have f:=af6 hR hA b (K:=n*n+1) all i j a NH (alP m1 m2);obtain⟨t,m⟩:∃t,j-i=t+1:=⟨j-i-1,NH⟩;rw[m]at f;have:c=(it (goS (Zh n es)) t (c,v)).2:=congrArg Prod.fst f;exact hGr
  rw[j9,Uz];exact Qn hGr b7
 have:=tf nd (B:=rG (n*n)) fun x o=>by obtain⟨i,hi,rfl⟩:=aev.1 o;have hi:=abV.1 hi;have⟨a1,a2⟩:=lt i NH;rw[abV];have d:((it (goS (Zh n es)) i (c,v)).1+1)*n<=n*n:=WZ n a1;rw[kS,Nat.one_mul]at d;show(it (goS (Zh n es)) i (c,v)).1*n+(it (goS (Zh n es)) i (c,v)).2<n*n;omega
 simp only[wI,y5]at this;omega
end
def aaA(rows:AM)(v:Nat):Bool:=(rows.getD v []).length==3||(rows.getD v []).length==4
def aad(rows:AM):II:=(rG rows.length).filter fun v=>aaA rows v
def aaj(rows:AM)(cs:II):List (Nat×Nat):=cs.flatMap fun c=>(rows.getD c []).map fun x=>(c,x.toNat)
def aal(rows:AM)(d:Nat×Nat):Nat×Nat:=goF rows 40001 d 0
def aaH(rows:AM)(d:Nat×Nat):Pr:=(min (d.1:Int) ((aal rows d).1:Int),max (d.1:Int) ((aal rows d).1:Int))
def aaI(rows:AM)(cs:II)(p:Pr):Nat:=((aaj rows cs).map (aaH rows)).count p
def aaU(rows:AM)(cs:II):Nat:=((aaj rows cs).map fun d=>(aal rows d).2+1).sum
def abh(W:Pr->Nat)(A B:II):Bool:=A.all fun c=>B.all fun d=>c==d||W (min (c:Int) (d:Int),max (c:Int) (d:Int))==2
def aa1(W:Pr->Nat)(cs:II):Bool:=
 let f:=cs.headD 0;let A:=cs.filter fun(c:Nat)=>W ((f:Int),((c:Nat):Int))==0;let B:=cs.filter fun(c:Nat)=>W ((f:Int),((c:Nat):Int))!=0
 A.length==3&&!B.contains f&&abh W A B
def aaN(es:xLP):Int:=
 let rows:=Zh 200 es
 if rows.any (fun r=>!(r.length==0||r.length==2||r.length==3||r.length==4))then 0 else
 let cs:=aad rows
 if cs.length=5 then
  if cs.any (fun c=>(rows.getD c []).length !=4)then 0
  else if aaU rows cs≠2*es.length then 0
  else if abh (aaI rows cs) cs cs then 5 else 0
 else if cs.length=6 then
  if cs.any (fun c=>(rows.getD c []).length !=3)then 0
  else if aaU rows cs≠2*es.length then 0
  else if aa1 (aaI rows cs) cs then 33 else 0
 else 0
attribute [local instance] Classical.propDecidable in
noncomputable def aaz(es:xLP):Int:=if bX ⟨200,es⟩then aaN es else 0
def ahL{n:Nat}{es:xLP}(hR:aV n es)(hA:D3 es)(a:n<=200){c v:Nat}(b:Jp es c v)(d:((Zh n es).getD c []).length≠2):
  ∃K,K<=40000/\(∀i,i<K->((Zh n es).getD (it (goS (Zh n es)) i (c,v)).2 []).length=2)/\((Zh n es).getD (it (goS (Zh n es)) K (c,v)).2 []).length≠2/\aal (Zh n es) (c,v)=((it (goS (Zh n es)) K (c,v)).2,K):=by
 have⟨K,e,h2,h3⟩:=go_ends hR hA b d;have f:K<=40000:=ff e (WS a a);refine⟨K,f,h2,h3,?_⟩;rw[aal,alE _ K 40001 _ _ NH h2 h3,BS]
variable {α:Type}
theorem RL.loadS{R:aai->vV->α->Prop}{v:vV}{xs:List α}(a:RL R h v xs){e:TypeId}{d:TypeDesc}(c:pG.underlying e=Z d)(hd:ab8 d=fF)(i:Nat)(hi:i<xs.length):∃u,R h u xs[i]/\∀g,Le h g->aaC pG g e (aaq v i)=Z u:=by have⟨vs,r,f,b⟩:=a;exact⟨_,b i _ _ (Gc hi) (Gc NH),(by grind[RS.le,RS.load])⟩
variable{P:Program}{W0:LA}{m:abd}{h:aai}{w:World}
def acO(l:RZ):xLV:=l.map (vV.int .i64)
theorem mN(l:RZ):(acO l).length=l.length:=by simp[acO]
theorem vr_int{n:Nat}{m:abd}{k:IntKind}{x:Int}{v:vV}(h:VR n m (.int k x) v):v=.int k x:=by cases h;rfl
theorem Rel.row(R:Rel W0 m h w){id:Nat}{c:xLV}{ys:RZ}(G:h.own id=Z (.cells c))(X:ys.length<=c.length)(q:Nat)(os:Array Obj):
  Rel W0 m (h.put id (.cells (acO ys++c.drop ys.length))) (Sort.grow (Sort.putRow (vV.int .i64) (Sort.ahead w q) (m id).blk (m id).base ys.toArray) os):=by
 have s:h.own id≠Y:=by rw[G];simp
 have⟨C,e,lo,hi,hb,hs,L,M,H,hf⟩:=R.own id _ G;have N:(m id).blk<w.heap.size:=(gK.1 hb).1;generalize t:acO ys++c.drop ys.length=I;have J:I.length=c.length:=by grind[mN]
 have a:∀i,(h.put id (.cells I)).own i≠Y->h.own i≠Y:=by grind[aai.By]
 have p:∀i,h.own i≠Y->i≠id->(m i).blk≠(m id).blk:=fun i f n A=>n (R.inj i id f s A);have heq:∀b,b<w.heap.size->b≠(m id).blk->(Sort.grow (Sort.putRow (vV.int .i64) (Sort.ahead w q) (m id).blk (m id).base ys.toArray) os).heap[b]?=w.heap[b]?:=fun b O Q=>by simp only[Sort.grow,Sort.putRow,Sort.mapBlock,Sort.ahead];grind
 have y:(Sort.grow (Sort.putRow (vV.int .i64) (Sort.ahead w q) (m id).blk (m id).base ys.toArray) os).heap[(m id).blk]?=Z (.cells (Sort.putCells (vV.int .i64) (m id).base ys.toArray C) e (lo,hi)):=by simp only[Sort.grow,Sort.putRow,Sort.mapBlock,Sort.ahead];rw[qL173 hGr,aj8,WA rfl,hb];rfl
 have B:(Sort.grow (Sort.putRow (vV.int .i64) (Sort.ahead w q) (m id).blk (m id).base ys.toArray) os).heap.size=w.heap.size+os.size:=by simp[Sort.grow,Sort.putRow,Sort.mapBlock,Sort.ahead]
 refine⟨by rw[B];have:=R.size;omega,fun b sZ=>?_,R.ext,fun i f=>R.lt i (a i f),fun i f=>R.new i (a i f),fun i o g=>?_,fun i j f D=>R.inj i j (a i f) (a j D),R.os,R.output,⟨R.tape.1,ff R.tape.2 (qL223 _ _)⟩,R.aah.put a (fun b hb S=>heq b hb (fun e=>S id s e.symm))⟩
 .grind[Rel.new,Rel.qi]
 .by_cases n:i=id
  .subst n;rw[aai.Y3]at g;injection g with g;subst g;have T:(Sort.putCells (vV.int .i64) (m i).base ys.toArray C).size=C.size:=by simp[Sort.putCells]
   have r:∀k,(Sort.putCells (vV.int .i64) (m i).base ys.toArray C)[k]?=(C[k]?).map fun x=>if(m i).base<=k/\k<(m i).base+ys.length then vV.int .i64 ys.toArray[k-(m i).base]!else x:=fun k=>by simp[Sort.putCells]
   refine⟨_,e,lo,hi,y,hGr,hGr,⟨hGr,fun k v v' l d=>?_⟩,fun u U=>?_,fun j hj=>hf j hGr⟩
   .rw[afC]at d;split at d
    .rename_i V;rw[zx,Gg,r]at d;by_cases E:k<ys.length
     .have F:(m i).base+k<C.size:=NH;rw[aex F,ahD,WA ⟨NH,NH⟩]at d;rw[<-t,eR hGr]at l;simp only[acO,Q4,Gc E,ahD,ah1]at l d;subst l d;have:(m i).base+k-(m i).base=k:=NH;rw[this,getElem!_pos _ k hGr];exact .flat rfl
     .rw[<-t,jf hGr,mN,zx]at l;have W:ys.length+(k-ys.length)=k:=NH;rw[W]at l;refine M.2 k v v' l ?_;rw[afC,WA NH,zx,Gg,<-d];cases K:C[(m i).base+k]? with
      |none=>rfl
      |some x=>grind
    .cases d
   .obtain⟨k,l⟩:=aax.1 U;rw[Gg,r]at l;cases K:C[k]? with
    |none=>grind
    |some x=>
     rw[K,ahD]at l;injection l with l;split at l
     .subst l;rfl
     grind
  .rw[aai.By _ _ _ _ n]at g;have z:h.own i≠Y:=hGr;exact Rel.JP (R.own i o g) (qL0 _) (ZK.refl _ _) (heq _ (R.Hc z) (p i z n))
theorem Rel.holds(R:Rel W0 m h w){id:Nat}{c:xLV}{xs:RZ}(d:h.own id=Z (.cells c))(a:c.take xs.length=acO xs):Sort.Holds (vV.int .i64) w (m id).blk (m id).base xs.toArray:=by
 intro j e;have b:j<xs.length:=hGr;have hg:c[j]?=Z (.int .i64 xs[j]):=by have:=congrArg (·[j]?) a;grind[acO]
 grind[Rel.UL,vr_int,Rel.frozen]
theorem IA{n:Nat}{m:abd}{id len cap:Nat}{v':vV}(b:len<=cap)(d:0<len)(h:VR n m (sL (Z id) len cap) v'):
  ∃cap',v'=sL (Z ⟨(m id).blk,(m id).base,Y⟩) len cap'/\len<=cap'/\∀k,k<=len->VR n m (sL (Z id) k cap) (sL (Z ⟨(m id).blk,(m id).base,Y⟩) k cap'):=by
 cases h with
 |flat h=>grind[flat]
 |slice h c=>exact⟨cap,Ma,b,fun k _=>by simpa using VR.slice (m:=m) (off:=0) (len:=k) h c⟩
 |@buf _ _ _ k cap' a' h a ha=>
  rcases ha with⟨rfl,ha⟩|ha
  .exact⟨cap',Ma,a,fun j e=>by simpa using VR.buf (m:=m) (off:=0) (len:=j) (k:=k) (cap':=cap') h NH (.inl ⟨rfl,hGr⟩)⟩
  .omega
 |empty=>omega
theorem WT{n:Nat}{m:abd}{a:Option Addr}{cap:Nat}{v':vV}(h:VR n m (.slice a 0 cap) v'):∃a' cap',v'=.slice a' 0 cap':=by
 cases h<;>grind
theorem AC.ofRow{f:FuncId}{id len cap k:Nat}{c:xLV}{xs ys:RZ}{out:vV}(g:h.own id=Z (.cells c))(G:c.take len=acO xs)(u:xs.length=len)(j:ys.length=len)(y:len<=c.length)(z:len<=cap)(A:0<len)(B:k<=len)(d:out=.tuple #[]\/out=sL (Z id) k cap)(C:∀(blk off cap':Nat)(w:World),Sort.Holds (vV.int .i64) w blk off xs.toArray->blk<w.heap.size->len<=cap'->
   Calls P f #[sL (Z ⟨blk,off,Y⟩) len cap'] w fun e w'=>(∃v,e=.returned v/\(out=.tuple #[]/\v=.tuple #[]\/out≠.tuple #[]/\v=sL (Z ⟨blk,off,Y⟩) k cap'))/\∃q os,w'=Sort.grow (Sort.putRow (vV.int .i64) (Sort.ahead w q) blk off ys.toArray) os):
  AC P W0 f [sL (Z id) len cap] h fun x h'=>x=out/\h'=h.put id (.cells (acO ys++c.drop len)):=by
 intro ex m w a R s;have⟨D,E,l⟩:=s.get (i:=0) rfl;have b:a=[D]:=by
  have n:=s.1
  match a,n with
  |[x],_=>grind
 obtain⟨cap',rfl,o,p⟩:=IA z A l;rw[b];have r:h.own id≠Y:=by rw[g];simp
 refine(C (m id).blk (m id).base cap' w (R.holds g hGr) (R.Hc r) o).mono ?_;rintro e w' ⟨⟨v,rfl,F⟩,q,os,rfl⟩;have R':=R.row (ys:=ys) g NH q os;rw[j]at R';refine⟨out,v,m,_,rfl,R',ZK.refl _ _,qL0 _,?_,rfl,rfl⟩;rcases F with⟨t,rfl⟩|⟨t,rfl⟩
 .rw[t];exact .tuple rfl (fun i v v' e=>by simp at e)
 .rcases d with h2|h2
  .grind
  .rw[h2];exact p k B
end
section
variable{P:Program}{W0:LA}{h:aai}
theorem AC.frame{f:FuncId}{args:xLV}{R:Nat}{o:fK}{Q:vV->aai->Prop}(D:h.own R=Z o)(H:AC P W0 f args (h.kill R) Q):
  AC P W0 f args h fun x h'=>∃g,Q x g/\g.own R=Y/\h'=g.put R o:=by
 intro ex m w p r I;have q:h.own R≠Y:=by rw[D];simp
 have u:R<h.next:=r.lt R q
 have A:=r.own R o D;obtain⟨O,hb⟩:∃O,w.heap[(m R).blk]?=Z O:=by
  cases o with
  |cells c=>have⟨C,e,lo,hi,J,_⟩:=A;grind
  |map es=>have⟨E,clock,J,_⟩:=A;grind
 have K:∀b a,(b,a)∈(W0.add ex).rw->(m R).blk≠b:=fun b a sZ=>r.aah.apart b a R sZ q;have t:∀i,(h.kill R).own i≠Y->h.own i≠Y/\i≠R:=fun i hi=>by grind[aai.Dg,aai.xJ]
 have L:Rel (W0.add (((m R).blk,O)::ex)) m (h.kill R) w:={
  size:=r.size
  qi:=r.qi
  ext:=r.ext
  lt:=fun i hi=>r.lt i (t i hi).1
  new:=fun i hi=>r.new i (t i hi).1
  own:=fun i a hi=>by have:=t i (by rw[hi];simp);rw[aai.xJ _ _ _ this.2]at hi;exact r.own i a hi
  inj:=fun i j hi F e=>r.inj i j (t i hi).1 (t j F).1 e
  os:=r.os
  output:=r.output
  tape:=r.tape
  aah:={
   agree:=r.aah.agree
   next:=r.aah.next
   VM:=by show(((m R).blk,O)::(W0.add ex).rw|>.map (·.1)).Nodup;rw[QD,xD];refine⟨fun d=>?_,r.aah.VM⟩;grind
   hi:=fun b a d=>by
    rcases qL7.1 d with e|d
    .injection e with M T;subst M;exact r.new R q
    .exact r.aah.hi b a d
   held:=fun b a d=>by
    rcases qL7.1 d with e|d
    .grind
    .exact r.aah.held b a d
   apart:=fun b a i d hi=>by
    rcases qL7.1 d with e|d
    .grind[Rel.inj]
    .exact r.aah.apart b a i d (t i hi).1}}
 refine(H (((m R).blk,O)::ex) m w p L I).mono ?_;rintro e w' ⟨v,v',z,g,N,rg,k,l,S,hQ⟩
 have k:ZK h.next m z:=k
 have l:h.next<=g.next:=l
 have y:z R=m R:=k R u;have n:((m R).blk,O)∈(W0.add (((m R).blk,O)::ex)).rw:=afb ..;have B:=rg.aah.held _ _ n;have s:g.own R=Y:=by
  cases hg:g.own R with
  |none=>rfl
  |some a=>exact absurd (by rw[y]) (rg.aah.apart _ _ R n (by rw[hg];simp))
 have hs:∀i,(g.put R o).own i≠Y->i=R\/(i≠R/\g.own i≠Y):=fun i hi=>by grind[aai.By]
 have G:∀i,g.own i≠Y->(z i).blk≠(m R).blk:=fun i hi=>rg.aah.apart _ _ i n hi;refine⟨v,v',z,g.put R o,N,?_,k,l,S,g,hQ,s,rfl⟩;exact{
  size:=rg.size
  qi:=rg.qi
  ext:=rg.ext
  lt:=fun i hi=>by
   rcases hs i hi with rfl|⟨_,hi⟩
   .exact aiq u l
   .exact rg.lt i hi
  new:=fun i hi=>by
   rcases hs i hi with rfl|⟨_,hi⟩
   .grind[Rel.new]
   .exact rg.new i hi
  own:=fun i a hi=>by
   by_cases e:i=R
   .subst e;rw[aai.Y3]at hi;injection hi with hi;subst hi;rw[y];exact Rel.JP A l k (by rw[B,hb])
   .rw[aai.By _ _ _ _ e]at hi;exact rg.own i a hi
  inj:=fun i j hi F e=>by grind[Rel.inj]
  os:=rg.os
  output:=rg.output
  tape:=rg.tape
  aah:={
   agree:=rg.aah.agree
   next:=rg.aah.next
   VM:=r.aah.VM
   hi:=r.aah.hi
   held:=fun b a d=>rg.aah.held b a (EP _ d)
   apart:=fun b a i d hi=>by
    rcases hs i hi with rfl|⟨_,hi⟩
    .grind
    .exact rg.aah.apart b a i (EP _ d) hi}}
theorem Le.Y5{g:aai}{R:Nat}(a:g.own R=Option.none)(o:fK):Le g (g.put R o):=(Le.refl g).put o a
theorem Le.aiY{f:aai}{R:Nat}(l:Le f h)(a:f.own R=Option.none):Le f (h.kill R):=⟨l.ext,fun i o hi=>by grind[aai.xJ,Le.own]⟩
theorem AC.exact{f:FuncId}{id n k:Nat}{rest:xLV}{Q:Nat->aai->Prop}(E:0<n)(H:∀cap,n<=cap->cap<UNK->AC P W0 f (sL (Z id) n cap::rest) h fun x h'=>∃n',n'<=cap/\x=sL (Z id) n' cap/\Q n' h'):
  AC P W0 f (sL (Z id) n (UNK+k)::rest) h fun x h'=>∃n',x=sL (Z id) n' (UNK+k)/\Q n' h':=by
 intro ex m w d r j;obtain⟨l,c,rfl⟩:∃l c,d=l::c:=by
  cases d with
  |nil=>have:=j.1;simp at this
  |cons a b=>grind
 have q:VR h.next m (sL (Z id) n (UNK+k)) l:=j.2 0 _ _ rfl rfl
 have u:AK h.next m rest c:=by simpa using j.drop 1
 generalize F:UNK+k=C at q;cases q with
 |flat hf=>grind[flat]
 |slice _ G=>omega
 |@buf _ _ _ k1 cap' a' g y ha=>
  rcases ha with⟨rfl,s,t⟩|I
  .refine(H cap' y t ex m w _ r (.cons (.slice g t) u)).mono ?_;rintro e w' ⟨v,v',z,h',A,rg,i,o,B,n',p,rfl,hQ⟩;refine⟨_,v',z,h',A,rg,i,o,?_,n',rfl,hQ⟩;have J:=i id g;cases B with
   |flat hf=>grind[flat]
   |slice D h2=>exact .buf D p hGr
   |buf _ _ _=>omega
   |empty=>omega
  .omega
 |empty=>grind
end
end Go.Fw
namespace Go.Proofs
open Go.Shelf
def Tryz.lays189_ren:Go.Shelf.Ren:=⟨fun | 189=>54 | 125=>79 | 257=>83 | 128=>110 | 129=>111 | 294=>114 | 295=>115 | 296=>116 | 297=>117 | 298=>118 | 299=>119 | 216=>120 | 300=>121 | 301=>122 | 328=>154 | 329=>148 | 330=>149 | 331=>155 | 332=>156 | 215=>112 | 343=>175 | n=>n,fun | 28=>28 | 3=>3 | 46=>114 | 0=>0 | 51=>148 | 53=>150 | 4=>4 | 183=>142 | 182=>141 | 131=>79 | 5=>5 | 9=>9 | 218=>181 | 222=>185 | 228=>204 | 229=>205 | n=>n,fun | n=>n⟩
theorem Tryz.lays189:Go.Proofs.Lays.n189 Tryz.prog Tryz.lays189_ren:={
 mixed:=by kernel_rfl
 f125:=Tryz.func79.trans (congrArg some (by kernel_rfl))
 f128:=Tryz.func110.trans (congrArg some (by kernel_rfl))
 f129:=Tryz.func111.trans (congrArg some (by kernel_rfl))
 f189:=Tryz.func54.trans (congrArg some (by kernel_rfl))
 f215:=Tryz.func112.trans (congrArg some (by kernel_rfl))
 f216:=Tryz.func120.trans (congrArg some (by kernel_rfl))
 f257:=Tryz.func83.trans (congrArg some (by kernel_rfl))
 f294:=Tryz.func114.trans (congrArg some (by kernel_rfl))
 f295:=Tryz.func115.trans (congrArg some (by kernel_rfl))
 f296:=Tryz.func116.trans (congrArg some (by kernel_rfl))
 f297:=Tryz.func117.trans (congrArg some (by kernel_rfl))
 f298:=Tryz.func118.trans (congrArg some (by kernel_rfl))
 f299:=Tryz.func119.trans (congrArg some (by kernel_rfl))
 f300:=Tryz.func121.trans (congrArg some (by kernel_rfl))
 f301:=Tryz.func122.trans (congrArg some (by kernel_rfl))
 f328:=Tryz.func154.trans (congrArg some (by kernel_rfl))
 f329:=Tryz.func148.trans (congrArg some (by kernel_rfl))
 f330:=Tryz.func149.trans (congrArg some (by kernel_rfl))
 f331:=Tryz.func155.trans (congrArg some (by kernel_rfl))
 f332:=Tryz.func156.trans (congrArg some (by kernel_rfl))
 f343:=Tryz.func175.trans (congrArg some (by kernel_rfl))
 t0:=Tryz.underlying0
 a0:=Tryz.isAgg0
 z0:=Tryz.sizeOf0
 v0:=Tryz.zeroValue0
 t3:=Tryz.underlying3
 a3:=Tryz.isAgg3
 z3:=Tryz.sizeOf3
 v3:=Tryz.zeroValue3
 t4:=Tryz.underlying4
 a4:=Tryz.isAgg4
 z4:=Tryz.sizeOf4
 v4:=Tryz.zeroValue4
 t5:=Tryz.underlying5
 a5:=Tryz.isAgg5
 z5:=Tryz.sizeOf5
 v5:=Tryz.zeroValue5
 t9:=Tryz.underlying9
 a9:=Tryz.isAgg9
 z9:=Tryz.sizeOf9
 v9:=Tryz.zeroValue9
 t28:=Tryz.underlying28
 a28:=Tryz.isAgg28
 z28:=Tryz.sizeOf28
 v28:=Tryz.zeroValue28
 t46:=Tryz.underlying114
 a46:=Tryz.isAgg114
 z46:=Tryz.sizeOf114
 v46:=Tryz.zeroValue114
 t51:=Tryz.underlying148
 a51:=Tryz.isAgg148
 z51:=Tryz.sizeOf148
 v51:=Tryz.zeroValue148
 t53:=Tryz.underlying150
 a53:=Tryz.isAgg150
 z53:=Tryz.sizeOf150
 v53:=Tryz.zeroValue150
 t131:=Tryz.underlying79
 a131:=Tryz.isAgg79
 z131:=Tryz.sizeOf79
 v131:=Tryz.zeroValue79
 t182:=Tryz.underlying141
 a182:=Tryz.isAgg141
 z182:=Tryz.sizeOf141
 v182:=Tryz.zeroValue141
 t183:=Tryz.underlying142
 a183:=Tryz.isAgg142
 z183:=Tryz.sizeOf142
 v183:=Tryz.zeroValue142
 t218:=Tryz.underlying181
 a218:=Tryz.isAgg181
 z218:=Tryz.sizeOf181
 v218:=Tryz.zeroValue181
 t222:=Tryz.underlying185
 a222:=Tryz.isAgg185
 z222:=Tryz.sizeOf185
 v222:=Tryz.zeroValue185
 t228:=Tryz.underlying204
 a228:=Tryz.isAgg204
 z228:=Tryz.sizeOf204
 v228:=Tryz.zeroValue204
 t229:=Tryz.underlying205
 a229:=Tryz.isAgg205
 z229:=Tryz.sizeOf205
 v229:=Tryz.zeroValue205 }
def Tryz.laysNm220_ren:Go.Shelf.Ren:=⟨fun | 20=>58 | n=>n,fun | 22=>28 | 3=>3 | 4=>4 | 0=>0 | n=>n,fun | n=>n⟩
theorem Tryz.laysNm220:Go.Proofs.Lays2.n20 Tryz.prog Tryz.laysNm220_ren:={
 mixed:=by kernel_rfl
 f20:=Tryz.func58.trans (congrArg some (by kernel_rfl))
 t0:=Tryz.underlying0
 a0:=Tryz.isAgg0
 z0:=Tryz.sizeOf0
 v0:=Tryz.zeroValue0
 t3:=Tryz.underlying3
 a3:=Tryz.isAgg3
 z3:=Tryz.sizeOf3
 v3:=Tryz.zeroValue3
 t4:=Tryz.underlying4
 a4:=Tryz.isAgg4
 z4:=Tryz.sizeOf4
 v4:=Tryz.zeroValue4
 t22:=Tryz.underlying28
 a22:=Tryz.isAgg28
 z22:=Tryz.sizeOf28
 v22:=Tryz.zeroValue28
 i3:=by kernel_rfl }
end Go.Proofs
namespace Go.Fw
open Go.Proofs
set_option maxHeartbeats 1000000
set_option maxRecDepth 10000
def qC(l:RZ):RZ:=l.mergeSort fun x y=>decide (x<=y)
theorem GI.cases{h:aai}{v:vV}{xs:RZ}(g:GI h v xs)(k:xs.length<=100000):(∃a cap,v=.slice a 0 cap/\xs=[])\/∃id c cap,v=sL (Z ⟨id,0,Y⟩) xs.length cap/\h.own id=Z (.cells c)/\c.take xs.length=acO xs/\(cap=UNK+1\/cap=xs.length/\xs.length<1000000000000)/\0<xs.length/\xs.length<=cap/\xs.length<=c.length:=by
 obtain⟨e,⟨rfl,f⟩|⟨id,c,cap,rfl,i,d,j⟩⟩:=g
 .grind
 .by_cases f:xs.length=0
  .grind
  .rw[ajX]at d e;have b:xs.length<=c.length:=hGr;refine .inr ⟨id,c,cap,rfl,i,d,j,NH,?_,b⟩;grind[UNK]
theorem AC.ofNone{P:Program}{n:LA}{h:aai}{f:FuncId}{a:Option Addr}{cap:Nat}{out:vV}(j:out=.tuple #[]\/out=.slice a 0 cap)(o:∀(a':Option Addr)(cap':Nat)(w:World),Calls P f #[.slice a' 0 cap'] w fun e w'=>(∃v,e=.returned v/\(out=.tuple #[]/\v=.tuple #[]\/out≠.tuple #[]/\v=.slice a' 0 cap'))/\w'=w):
  AC P n f [.slice a 0 cap] h fun x h'=>x=out/\h'=h:=by
 intro ex m w b R k;have⟨p,q,d⟩:=k.get (i:=0) rfl;have c:b=[p]:=by
  have g:=k.1
  match b,g with
  |[x],_=>grind
 obtain⟨a',cap',rfl⟩:=WT d;rw[c];refine(o a' cap' w).mono ?_;rintro e w' ⟨⟨v,rfl,r⟩,rfl⟩;refine⟨out,v,m,_,rfl,R,ZK.refl _ _,qL0 _,?_,rfl,rfl⟩;rcases r with⟨l,rfl⟩|⟨l,rfl⟩
 .rw[l];exact .tuple rfl (fun i v v' e=>by simp at e)
 grind
theorem OX(l:RZ):(qC l).length=l.length:=by simp[qC]
theorem VQ(l:LA){h:aai}{v:vV}{xs:RZ}(g:GI h v xs)(m:xs.length<=100000):AC pG l 54 [v] h fun x h'=>x=.tuple #[]/\GI h' v (qC xs)/\∀f,Le f h->Z2 f v->Le f h':=by
 rcases g.cases m with⟨a,cap,rfl,rfl⟩|⟨id,c,cap,rfl,n,o,s,p,b,d⟩
 .refine(AC.ofNone (out:=.tuple #[]) (.inl rfl) fun a' cap' w=>(Any.slices_Sort_int_none Tryz.lays189 a' cap' w).mono ?_).mono ?_
  .grind
  .rintro x h' ⟨rfl,rfl⟩;exact⟨rfl,by simpa[qC]using g,fun f i _=>i⟩
 .refine(AC.ofRow (xs:=xs) (ys:=qC xs) (out:=.tuple #[]) (k:=0) n o rfl (OX xs) d b p (Og _) (.inl rfl) fun blk off cap' w r hb j=>(Any.slices_Sort_int Tryz.lays189 blk off cap' xs w r hb NH).mono ?_).mono ?_
  .rintro e w' ⟨rfl,q,os,rfl⟩;exact⟨⟨_,rfl,.inl ⟨rfl,rfl⟩⟩,q,os,rfl⟩
  .rintro x h' ⟨rfl,rfl⟩;refine⟨rfl,⟨by grind[Bp],.inr ⟨id,_,cap,by rw[OX],aai.Y3 _ _ _,?_,by grind[OX]⟩⟩,fun f i af=>i.put _ (af id rfl)⟩;rw[ajX,oZ (by simp[mN]),abe (by simp[mN])];rfl
def OV(xs:RZ):(Lib.compact xs).length<=xs.length:=by have:=OM (Lib.keeps xs.toArray) (rG xs.length);simpa[Lib.compact,Lib.compactUpTo]using this
theorem VY(l:LA){h:aai}{v:vV}{xs:RZ}(g:GI h v xs)(m:xs.length<=100000):AC pG l 58 [v] h fun x h'=>RL RP h' x (Lib.compact xs)/\blk x=blk v/\∀f,Le f h->Z2 f v->Le f h':=by
 rcases g.cases m with⟨a,cap,rfl,rfl⟩|⟨id,c,cap,rfl,o,p,u,r,d,i⟩
 .refine(AC.ofNone (out:=.slice a 0 cap) (.inr rfl) fun a' cap' w=>(Any.slices_Compact_int_empty Tryz.laysNm220 a' cap' w).mono ?_).mono ?_
  .grind
  .rintro x h' ⟨rfl,rfl⟩;refine⟨?_,rfl,fun f j _=>j⟩;have:Lib.compact ([]:RZ)=[]:=rfl;grind[GI.rl]
 .have s:=OV xs;refine(AC.ofRow (xs:=xs) (ys:=Lib.compact xs++rP (xs.length-(Lib.compact xs).length) 0) (out:=sL (Z id) (Lib.compact xs).length cap) (k:=(Lib.compact xs).length) o p rfl (by simp;omega) i d r s (.inr rfl)
   fun blk off cap' w t hb b=>(Any.slices_Compact_int Tryz.laysNm220 blk off cap' xs w t NH b).mono ?_).mono ?_
  .rintro e w' ⟨rfl,q,rfl⟩;exact⟨⟨_,rfl,.inr ⟨Ma,rfl⟩⟩,q,#[],by rw[Sort.grow_empty]⟩
  .rintro x h' ⟨rfl,rfl⟩;refine⟨RL.Wh ?_,rfl,fun f j af=>j.put _ (af id rfl)⟩;have:=RS.own (c:=cap) (n:=(Lib.compact xs).length) (aai.Y3 h id (.cells (acO (Lib.compact xs++rP (xs.length-(Lib.compact xs).length) 0)++c.drop xs.length))) (off:=0) (by grind[mN]);grind[acO]
end Go.Fw
namespace Go.Fw
section
attribute [local irreducible] Kp MQ lU KO1 KO KN KX KE VK Kl ZJ TC aab
def zR(p:Pr)(q:Nat):Int:=if q=0 then p.1 else p.2
def ix42(p:Pr)(q:Nat)(a:q<2):afh pG 49 (UI p) q=Z (.int .i64 (zR p q)):=by have:q=0\/q=1:=NH;rcases this with rfl|rfl<;>simp[afh,qS7,Ac,UI,zR,ts3]<;>rfl
def ftP(on:Nat->Bool)(p:Pr):RZ:=[p.1,p.2].filter fun x=>on x.toNat
def BY(on:Nat->Bool)(es:xLP):RZ:=es.flatMap (ftP on)
def YJ(on:Nat->Bool)(es:xLP):RZ:=Lib.compact (qC (BY on es))
theorem Dr(on:Nat->Bool)(es:xLP):(BY on es).length<=2*es.length:=by
 induction es<;>grind[BY,ftP]
def YB(on:Nat->Bool)(p:Pr)(q:Nat):RZ:=([p.1,p.2].take q).filter fun x=>on x.toNat
theorem BM(on:Nat->Bool)(p:Pr)(q:Nat)(a:q<2):YB on p (q+1)=YB on p q++if on (zR p q).toNat=tT then[zR p q]else[]:=by
 have:q=0\/q=1:=NH;rcases this with rfl|rfl
 all_goals grind[YB,zR]
theorem feet_any(G:LA)(ev r:vV)(n:Nat)(es:xLP)(bs:List Bool)(h:aai)(H:PR h ev es)(hb:RL sJ h r bs)(hR:aV n es)(aa:bs.length=n)(hn:es.length<=1000):
  AC pG G 162 [ev,r] h fun x h'=>RL RP h' x (YJ (fun u=>bs.getD u fF) es)/\Le h h'/\Z2 h x:=by
 refine AC.vF func162 ntmps162 results162 fun w=>?_;have⟨I,T,y,J,U⟩:=Tt w []
 have A:aas pG h 28 0 []=Z (sL (Z h.next) 0 0,I):=by rw[<-T];rfl
 have ll:=fun g=>H.len g;refine Sk (XC A ll) ?_
 have nB:h.own h.next=Y:=(Le.refl h).next w (qL0 _)
 generalize h.next=B at*
 let on:Nat->Bool:=fun u=>bs.getD u fF;have V:GI I (sL (Z B) 0 0) (BY on (es.take 0)):=GS.full U rfl WY;refine lIn (fun k fr hh=>∃(i:Nat)(a:vV),k=es.length-i/\i<=es.length/\fr=mkF [(1,r),(5,a),(11,ev),(12,es.length),(13,i)]/\GI hh a (BY on (es.take i))/\Le h hh/\Z2 h a) ⟨0,_,rfl,Og _,rfl,V,y,fun b hb=>by grind[blk]⟩ ?_;clear V U nB A J y T I B;rintro k fr hh s ⟨i,a,rfl,hi,rfl,g,f,ap⟩;refine Uy ?_;refine Kl.intro (fun W=>?_) (fun hf=>?_)
 rotate_left
 .have K:es.length<=i:=vp hf;rw[abe K]at g;have hl:=Dr on es;refine Uy ?_;refine kCi qS23 (VQ G g NH) ?_;rintro x h2 w2 ⟨rfl,g2,k2⟩;have L:=k2 h f ap;refine Uy ?_;refine kCi func58 (VY G g2 (by rw[OX];omega)) ?_;rintro x h3 w3 ⟨r3,bx,k3⟩;have d:=k3 h L ap;refine Uy ?_;exact⟨r3,d,fun b hb=>ap b hGr⟩
 have j:i<es.length:=acb W;clear W;have t:=CA j;have M:es.take (i+1)=es.take i++[es[i]]:=EL j;generalize es[i]=p at t M;have⟨p1,p2,p3⟩:=hR p (XJ t);have ad:=H.addr (k:=.i64) i j;have ld:=(H.le f).load t;have⟨ae,h3,X,e3,d,N,o3⟩:=Ut s p
 have nE:h.own hh.next=Y:=f.none ((Le.refl hh).next s (qL0 _))
 have O:∀b,blk a=Z b->b≠hh.next:=fun b hb e=>by subst e;have:=GS.Sy g hb;exact this ((Le.refl hh).next s (qL0 _))
 have P:=g.le d;have m:=f.trans d;have LP:=uM o3
 generalize hh.next=E at*
 simp only[HO,seval,ad,ld,X,e3,LP];have C:BY on (es.take i)=BY on (es.take i)++YB on p 0:=by simp[YB]
 rw[C]at P;refine lIn (fun k fr F=>∃(q:Nat)(a:vV),k=2-q/\q<=2/\fr=mkF [(1,r),(5,a),(11,ev),(12,es.length),(13,i),(17,UI p),(18,q)]/\GI F a (BY on (es.take i)++YB on p q)/\Le h F/\Z2 h a) ⟨0,_,rfl,Og _,rfl,P,m,ap⟩ ?_;clear C P O ap g a LP m nE o3 N d X e3;rintro k fr F Q ⟨q,a,rfl,ai,rfl,g,leq,ap⟩;have hlen:(BY on (es.take i)++YB on p q).length<=100000:=by grind[Dr,YB,Nat.min_le_right]
 by_cases c:q<2
 rotate_left
 .have z:((q:Int)<2)=False:=eq_false NH;obtain rfl:q=2:=NH;have D:BY on (es.take i)++YB on p 2=BY on (es.take (i+1)):=by grind[BY,YB,ftP]
  rw[D]at g;refine Sk (XC z (aaa i NH)) ?_;exact lgA NH ⟨i+1,a,rfl,j,rfl,g,leq,ap⟩
 have z:((q:Int)<2)=True:=eq_true NH;have ix:=ix42 p q c;have o:0<=zR p q/\zR p q<(n:Int):=by grind[zR]
 have l:=BM on p q c;generalize zR p q=x at ix o l;obtain⟨v,rfl⟩:=Sb o.1;have R:v<bs.length:=NH;have oa:aao pG 41 r v=Z (pT (Z (aaq r v))):=hb.LB v R;have ol:aaC pG F 4 (aaq r v)=Z (.bool (on v)):=by rw[(hb.le Nn.sJ leq).W7 v R];simp only[on];rw[D4 R]
 rw[vZ]at l;cases c2:on v with
 |false=>rw[c2]at ol l;have D:BY on (es.take i)++YB on p q=BY on (es.take i)++YB on p (q+1):=hGr;rw[D]at g;simp only[HO,seval,z,ix,oa,ol,aaa q NH];exact lgA NH ⟨q+1,a,rfl,c,rfl,g,leq,ap⟩
 |true=>rw[c2]at ol l;obtain⟨S,h4,h5,e4,e5,g5,w5,l4,hf,-⟩:=g.push Q (v:Int) hlen;have⟨l5,a5⟩:=hf h leq ap;have D:BY on (es.take i)++YB on p q++[(v:Int)]=BY on (es.take i)++YB on p (q+1):=hGr;rw[D]at g5;simp only[HO,seval,z,ix,oa,ol,e4,e5,aaa q NH];exact lgA NH ⟨q+1,S,rfl,c,rfl,g5,l5,a5⟩
def Zo(n:Nat)(on:Nat->Bool)(L:RZ)(p:Pr)(i:Nat):Int:=if on p.1.toNat=fF then L.getD p.1.toNat 0 else if on p.2.toNat=fF then L.getD p.2.toNat 0 else(n:Int)+i
theorem frag_any(y:LA)(ev g r:vV)(n:Nat)(es:xLP)(bs:List Bool)(L:RZ)(B O T:Nat)(i:Nat)(p:Pr)(h:aai)(s:PR h ev es)(hb:RL sJ h g bs)(t:RL RP h r L)(hR:aV n es)(A:bs.length=n)(C:L.length=n)(l0:aaC pG h 3 ⟨B,0,Y⟩=Z (.int .i64 n))(l1:aaC pG h 22 ⟨B,1,Y⟩=Z ev)(l2:aaC pG h 41 ⟨O,0,Y⟩=Z g)(l3:aaC pG h 28 ⟨T,0,Y⟩=Z r)(f:es[i]?=Z p)(K:n<=100000)(D:es.length<=100000):
  AC pG y 161 [i,pT (Z B),pT (Z O),pT (Z T)] h fun x h'=>x=.int .i64 (Zo n (fun u=>bs.getD u fF) L p i)/\h'=h:=by
 refine AC.vF func161 ntmps161 results161 fun E=>?_;have l:=(Ny.1 f).1;have⟨M,N,P⟩:=hR p (XJ f);have ad:=s.addr (k:=.i64) i l;have ld:=s.load f;simp only[HO,seval,Di,Ip,BS,l1,ad,ld];let on:Nat->Bool:=fun u=>bs.getD u fF;refine lIn (fun k fr m=>∃q:Nat,k=2-q/\q<=2/\m=h/\fr=mkF [(0,i),(1,pT (Z B)),(2,pT (Z O)),(3,pT (Z T)),(12,UI p),(13,q)]/\∀j,j<q->on (zR p j).toNat=tT) ⟨0,rfl,Og _,rfl,rfl,NH⟩ ?_;rintro k fr m-⟨q,rfl,F,rfl,rfl,d⟩;by_cases c:q<2
 rotate_left
 .have z:((q:Int)<2)=False:=eq_false NH;obtain rfl:q=2:=NH;have G:=d 0 NH;have c1:=d 1 NH;simp only[zR,if_true,qL235,if_false]at G c1;have hf:Zo n on L p i=(n:Int)+i:=by grind[Zo]
  have wr:aaY .i64 ((n:Int)+(i:Int))=(n:Int)+i:=cT _ NH NH;simp only[HO,seval,z,Ii,Ip,BS,l0,wr];grind
 have z:((q:Int)<2)=True:=eq_true NH;have ix:=ix42 p q c;have e:0<=zR p q/\zR p q<(n:Int):=by grind[zR]
 have b:on (zR p q).toNat=fF->Zo n on L p i=L.getD (zR p q).toNat 0:=fun H=>by have:q=0\/q=1:=NH;grind[zR,Zo]
 have a:on (zR p q).toNat=tT->∀j,j<q+1->on (zR p j).toNat=tT:=fun H j Q=>by grind
 generalize zR p q=x at ix e b a;obtain⟨v,rfl⟩:=Sb e.1;rw[vZ]at b a;have o:v<bs.length:=NH;have w:aao pG 41 g v=Z (pT (Z (aaq g v))):=hb.LB v o;have ol:aaC pG m 4 (aaq g v)=Z (.bool (on v)):=by rw[hb.W7 v o];simp only[on];rw[D4 o]
 have I:=t.TA v NH;have J:=t.Uc v NH;cases c2:on v with
 |true=>rw[c2]at ol;simp only[HO,seval,z,ix,l2,w,ol,aaa q NH];exact lgA NH ⟨q+1,rfl,c,rfl,rfl,a c2⟩
 |false=>rw[c2]at ol;have hf:=b c2;rw[D4 NH]at hf;simp only[HO,seval,z,ix,l2,w,ol,l3,I,J];grind
variable {M:Nat} {b0 h h':aai} {us:List Value}
abbrev Gr:=Int×xLP
def Ea(gs:List Gr):RZ:=gs.map (·.1)
def acU:List Gr->Int->xLP
 |[],_=>[]
 |(k,l)::r,f=>if k=f then l else acU r f
def ab4:List Gr->Int->Pr->List Gr
 |[],f,p=>[(f,[p])]
 |(k,l)::r,f,p=>if k=f then(k,l++[p])::r else(k,l)::ab4 r f p
def AO(gs:List Gr)(us:xLV):List (vV×vV):=(gs.zip us).map fun x=>(.int .i64 x.1.1,x.2)
theorem Ga(f:Int):∀(gs:List Gr)(us:xLV)(i:Nat),us.length=gs.length->
  (f∉Ea gs/\adA .i64 f (AO gs us) i=Z Y/\acU gs f=[]/\∀p,ab4 gs f p=gs++[(f,[p])])\/
  ∃(j:Nat)(l:xLP)(u:vV),gs[j]?=Z (f,l)/\us[j]?=Z u/\adA .i64 f (AO gs us) i=Z (Z (i+j,u))/\acU gs f=l/\∀p,ab4 gs f p=gs.set j (f,l++[p])
 |[],us,i,h=>.inl (by simp[Ea,AO,adA,acU,ab4])
 |(k,l)::gs,[],i,h=>by simp at h
 |(k,l)::gs,u::us,i,h=>by
  have e:AO ((k,l)::gs) (u::us)=(.int .i64 k,u)::AO gs us:=rfl;by_cases c:f=k
  .subst c;exact .inr ⟨0,l,u,rfl,rfl,by grind[adA.eq_2],by simp[acU],fun p=>by simp[ab4]⟩
  .have c':¬k=f:=fun h=>c h.symm;rcases Ga f gs us (i+1) (by simpa using h)with⟨a,h2,h3,b⟩|⟨j,l',u',a,h2,h3,b,d⟩
   .grind[Ea,adA.eq_2,acU.eq_2,ab4.eq_2]
   .exact .inr ⟨j+1,l',u',hGr,hGr,by grind[adA.eq_2],by grind[acU.eq_2],fun p=>by grind[ab4.eq_2]⟩
def dK{f:Int}{l l':xLP}{u':vV}:∀(gs:List Gr)(us:xLV)(j:Nat),us.length=gs.length->gs[j]?=Z (f,l)->AO (gs.set j (f,l')) (us.set j u')=(AO gs us).set j (.int .i64 f,u')
 |[],us,j,h,e=>by simp at e
 |g::gs,[],j,h,e=>by simp at h
 |g::gs,u::us,0,h,e=>by simp at e;subst e;rfl
 |g::gs,u::us,j+1,h,e=>by have:=dK (l':=l') (u':=u') gs us j (by simpa using h) (by simpa using e);show(.int .i64 g.1,u)::AO (gs.set j (f,l')) (us.set j u')=(.int .i64 g.1,u)::(AO gs us).set j (.int .i64 f,u');rw[this]
def mapG_snoc{gs:List Gr}(a:us.length=gs.length)(g:Gr)(u:vV):AO (gs++[g]) (us++[u])=AO gs us++[(.int .i64 g.1,u)]:=by rw[AO,zip_append a.symm];simp[AO]
structure aaE (b0 h:aai) (M:Nat) (us:xLV) (gs:List Gr):Prop where
 oM:h.own M=Z (.map (AO gs us))
 len:us.length=gs.length
 gp:∀(j:Nat) u g,us[j]?=Z u->gs[j]?=Z g->GP h u g.2
 nM:∀(j:Nat) u,us[j]?=Z u->blk u≠Z M
 TE:∀(j k:Nat) u u' b,j≠k->us[j]?=Z u->us[k]?=Z u'->blk u=Z b->blk u'≠Z b
 ap:∀(j:Nat) u,us[j]?=Z u->Z2 b0 u
 le:Le b0 h
 bM:b0.own M=Y
theorem aaE.keep{gs:List Gr}(R:aaE b0 h M us gs)(le:Le b0 h')(a:∀b o,h.own b=Z o->(b=M\/∃(j:Nat)(u:vV),us[j]?=Z u/\blk u=Z b)->h'.own b=Z o):aaE b0 h' M us gs:=⟨a _ _ R.oM (.inl rfl),R.len,fun j u g c hg=>GS.kept (R.gp j u g c hg) fun b o hb d=>a b o d (.inr ⟨j,u,c,hb⟩),R.nM,R.TE,R.ap,le,R.bM⟩
theorem aaE.up{b0 h h':aai}{M:Nat}{us:xLV}{gs:List Gr}(R:aaE b0 h M us gs)(e:Le h h'):aaE b0 h' M us gs:=R.keep (R.le.trans e) fun b o a _=>e.own _ _ a
def B9:acd pG 22=Z (.slice Y 0 0):=Ji
theorem aaE.look{gs:List Gr}(R:aaE b0 h M us gs)(f:Int):∃u,acR pG h 96 (.map (Z M)) f fF=Z u/\GP h u (acU gs f):=by
 rcases Ga f gs us 0 R.len with⟨a,h2,h3,b⟩|⟨j,l,u,a,h2,h3,b,c⟩
 .refine⟨.slice Y 0 0,?_,by grind[GP.nil]⟩;simp[acR,UP,Ac,R.oM,B9,h2,Fw.flat]
 .refine⟨u,?_,by grind[aaE.gp]⟩;simp[acR,UP,Ac,R.oM,B9,h3,Fw.flat]
theorem aaE.push{b0 h:aai}{M:Nat}{us:xLV}{gs:List Gr}(R:aaE b0 h M us gs)(z:WF h)(f:Int)(p:Pr)(L:(acU gs f).length+1<=100000):
  ∃u u' w A E B,acR pG h 96 (.map (Z M)) (.int .i64 f) fF=Z u/\aas pG h 22 1 [(0,UI p)]=Z (sL (Z ⟨h.next,0,Y⟩) 1 1,w)/\aaR pG w 22 22 u (sL (Z ⟨h.next,0,Y⟩) 1 1)=Z (u',A)/\
   acM pG A 96 (.map (Z M)) (.int .i64 f) u'=Z E/\aaE b0 E M B (ab4 gs f p)/\WF E/\Le h w/\
   (∀b o,h.own b=Z o->b≠M->(∀(j:Nat) a,us[j]?=Z a->blk a≠Z b)->A.own b=Z o/\E.own b=Z o/\∀(j:Nat) a,B[j]?=Z a->blk a≠Z b):=by
 rcases Ga f gs us 0 R.len with⟨F,h2,h3,w⟩|⟨j,l,u,F,h2,h3,w,A⟩
 .obtain⟨u',G,x,e4,H,s,C,l4,hf,y⟩:=(GP.nil h).push z p Ma;have c:∀b o,h.own b=Z o->x.own b=Z o/\blk u'≠Z b:=fun b o d=>y b o d (by simp[blk]);obtain⟨l5,N⟩:=hf b0 R.le (fun b hb=>by grind[blk]);have m:=(c _ _ R.oM).1;refine⟨.slice Y 0 0,u',G,x,x.put M (.map (AO gs us++[(.int .i64 f,u')])),us++[u'],by simp[acR,UP,Ac,R.oM,B9,h2,Fw.flat],e4,H,by simp only[acM,UP,Ac,m,h2],?_,C.put _ (C.lt m),l4,fun b o d hb I=>⟨(c b o d).1,by rw[aai.By _ _ _ _ hb];exact(c b o d).1,fun k a ha=>?_⟩⟩
  .rw[w];have O:=mapG_snoc R.len (f,[p]) u';have t:∀(k:Nat) a,(us++[u'])[k]?=Z a->(us[k]?=Z a)\/(k=us.length/\a=u'):=fun k a ha=>by grind
   refine⟨by grind[aai.Y3],by simp[R.len],fun k a g ha hg=>?_,fun k a ha=>?_,fun k v a a' b J ha mi hb=>?_,fun k a ha=>?_,l5.put _ R.bM,R.bM⟩
   .rcases t k a ha with xa|⟨rfl,rfl⟩
    .have P:=(Ny.1 xa).1;rw[eR (by grind[aaE.len])]at hg;exact GS.put (GS.kept (R.gp k a g xa hg) fun b o hb d=>(c b o d).1) _ (R.nM k a xa)
    .rw[jf (by grind[aaE.len]),R.len]at hg;simp at hg;subst hg;have:([]++[p]:xLP)=[p]:=rfl;rw[this]at s;exact GS.put s _ (c _ _ R.oM).2
   .grind[aaE.nM,aaE.oM]
   .rcases t k a ha with xa|⟨rfl,rfl⟩
    .rcases t v a' mi with n|⟨rfl,rfl⟩
     .grind[aaE.TE]
     .have r:∃q,gs[k]?=Z q:=⟨_,CA (by grind[aaE.len])⟩;obtain⟨q,D⟩:=r;obtain⟨o,d⟩:=jz.1 (GS.Sy (R.gp k a q xa D) hb);grind
    .rcases t v a' mi with n|⟨rfl,rfl⟩
     .intro sZ;have r:∃q,gs[v]?=Z q:=⟨_,CA (by grind[aaE.len])⟩;obtain⟨q,D⟩:=r;obtain⟨o,d⟩:=jz.1 (GS.Sy (R.gp v a' q n D) sZ);grind
     grind
   grind[aaE.ap]
  grind
 .rw[w]at L;have Q:=R.gp j u _ h2 F;obtain⟨u',G,x,e4,H,s,C,l4,hf,y⟩:=GP.push Q z p L;obtain⟨l5,N⟩:=hf b0 R.le (R.ap j u h2);have m:=y _ _ R.oM (R.nM j u h2);have S:=(Ny.1 h2).1;have i:∀(k:Nat) a,(us.set j u')[k]?=Z a->(k≠j/\us[k]?=Z a)\/(k=j/\a=u'):=fun k a ha=>by grind
  have own:∀(k:Nat) a b,us[k]?=Z a->blk a=Z b->∃o,h.own b=Z o:=fun k a b ha hb=>by have r:∃q,gs[k]?=Z q:=⟨_,CA (by grind[aaE.len])⟩;obtain⟨q,D⟩:=r;exact jz.1 (GS.Sy (R.gp k a q ha D) hb)
  refine⟨u,u',G,x,x.put M (.map ((AO gs us).set (0+j) (.int .i64 f,u'))),us.set j u',by simp[acR,UP,Ac,R.oM,B9,h3,Fw.flat],e4,H,by simp only[acM,UP,Ac,m.1,h3],?_,C.put _ (C.lt m.1),l4,fun b o d hb I=>⟨(y b o d (I j u h2)).1,by rw[aai.By _ _ _ _ hb];exact(y b o d (I j u h2)).1,fun k a ha=>?_⟩⟩
  .rw[A];have O:=dK (l':=l++[p]) (u':=u') gs us j R.len F;have K:=(Ny.1 F).1;refine⟨by grind[aai.Y3],by simp[R.len],fun k a g ha hg=>?_,fun k a ha=>?_,fun k v a a' b J ha mi hb=>?_,fun k a ha=>?_,l5.put _ R.bM,R.bM⟩
   .rcases i k a ha with⟨e,xa⟩|⟨rfl,rfl⟩
    .rw[j3,IE (Hs e)]at hg;exact GS.put (GS.kept (R.gp k a g xa hg) fun b o hb d=>(y b o d (fun sZ=>R.TE k j a u b e xa h2 hb sZ)).1) _ (R.nM k a xa)
    .rw[j3,WA rfl,WA K]at hg;injection hg with hg;subst hg;exact GS.put s _ m.2
   .grind[aaE.nM]
   .rcases i k a ha with⟨e,xa⟩|⟨rfl,rfl⟩
    .rcases i v a' mi with⟨e',n⟩|⟨rfl,rfl⟩
     .grind[aaE.TE]
     .obtain⟨o,d⟩:=own k a b xa hb;grind[aaE.TE]
    .rcases i v a' mi with⟨e',n⟩|⟨rfl,rfl⟩
     .intro sZ;obtain⟨o,d⟩:=own v a' b n sZ;grind[aaE.TE]
     grind
   grind[aaE.ap]
  grind
end
end Go.Fw
