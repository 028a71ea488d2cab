/- A text. -/
import Derived.TacticsIn
import Derived.RangeFuncRecord
import Derived.Test.YtnakkbhjoiheoaaGreatFwOps8
set_option linter.all false
set_option maxRecDepth 99999
set_option maxHeartbeats 9999999
open Option renaming some→Z,none→Y
open Bool renaming true→tT,false→fF
open Go.Value renaming pointer→pT
open Go renaming Value→vV
namespace Go.Fw
structure Cx where
 ex:List (Nat×Obj)
 ds:List Deferred
 ro:Option Nat
def mkOf(b:Nat):Deferred:={target:=.collected b,args:=#[]}
def X0(b:Nat):Nat×Obj:=(b,.deferred (Z []))
def ae8:Option Nat->II->II
 |none,l=>l
 |some _,_=>[]
def keepN_app(r:Option Nat)(a b:II):ae8 r (a++b)=ae8 r a++ae8 r b:=by cases r<;>rfl
def keepN_nil(r:Option Nat):ae8 r []=[]:=by cases r<;>rfl
def Cx.more(c:Cx)(new:II):Cx:={ex:=(ae8 c.ro new).map X0++c.ex,ds:=(ae8 c.ro new).map mkOf++c.ds,ro:=c.ro}
theorem Cx.YS(c:Cx):c.more []=c:=by simp[Cx.more,keepN_nil]
def Cx.C7(c:Cx)(n n':II):(c.more n).more n'=c.more (n'++n):=by simp[Cx.more,keepN_app]
structure St (W0:LA) (cx:Cx) (N:Nat) (m:abd) (fr:aam) (h:aai) (a:Act) (w:World):Prop where
 rel:Rel (W0.add cx.ex) m h w
 frame:FR h.next m fr a.tmps
 defers:a.defers=cx.ds
 size:a.tmps.size=N
 round:∀l,cx.ro=Z l->∃r,(l,Obj.loop r)∈cx.ex++W0.rw
theorem St.nil{W0:LA}{b:Cx}{N:Nat}{m:abd}{fr:aam}{h:aai}{a:Act}{w:World}(s:St W0 b N m fr h a w):St W0 (b.more []) N m fr h a w:=by grind[Cx.YS]
def Xc(ro:Option Nat):Fence:={Fence.wide with round:=ro}
def qN{ro:Option Nat}{n:Nat}{P:Program}{f:FuncId}{args:Array vV}{w:World}{R:Ending->World->Prop}(a:Calls P f args w R):CallsIn (Xc ro) n P f args w R:=callsIn_wide.2 a
theorem ph{ro:Option Nat}{n:Nat}{P:Program}{o:Oper}{a:Act}{w:World}{K:Act->World->Prop}{Q:Exit->Act->World->Prop}(hd:∀c,o.op≠.defer c)(b:o.uponIn (Xc ro) n P a K Q ((execOp a.eval o).run P w)):o.wpIn (Xc ro) n P a w K Q:=⟨fun _ _=>trivial,by grind[Go.Oper.semAt_eq]⟩
def Nw{P:Program}{fr:aam}{h:aai}{o:Oper}{x:vV×aai}(e:abr P fr h o=Z x):∀c,o.op≠.defer c:=by intro c a;unfold abr at e;rw[a]at e;cases e
def ML(P:Program)(W0:LA)(N:Nat)(ops:Array Oper)(l:List Oper)(fr:aam)(h:aai)(Q:aam->aai->Prop):Prop:=
 ∀(b:Cx) nn m a w,St W0 b N m fr h a w->∀K:Exit->Act->World->Prop,
  (∀c fr' h' a' w',ZK h.next m c->h.next<=h'.next->St W0 b N c fr' h' a' w'->Q fr' h'->K .normal a' w')->wpListIn (Xc b.ro) nn P ops K l a w
def ud(P:Program)(W0:LA)(N:Nat)(c:Code)(fr:aam)(h:aai)(Q:Exit->aam->aai->Prop):Prop:=
 ∀(b:Cx) nn m a w,St W0 b N m fr h a w->∀K:Exit->Act->World->Prop,
  (∀new e d fr' h' a' w',ZK h.next m d->h.next<=h'.next->St W0 (b.more new) N d fr' h' a' w'->Q e fr' h'->K e a' w')->c.wpIn (Xc b.ro) nn P K a w
def AC(P:Program)(W0:LA)(f:FuncId)(args:xLV)(h:aai)(R:vV->aai->Prop):Prop:=
 ∀ex m w a,Rel (W0.add ex) m h w->AK h.next m args a->
  Calls P f a.toArray w (fun e w'=>∃v v' b h',e=.returned v'/\Rel (W0.add ex) b h' w'/\ZK h.next m b/\h.next<=h'.next/\VR h'.next b v v'/\R v h')
variable{P:Program}{W0:LA}{N:Nat}{ops:Array Oper}{l:List Oper}{fr:aam}{h:aai}
theorem ud.mono{c:Code}{Q b:Exit->aam->aai->Prop}(d:ud P W0 N c fr h Q)(f:∀e fr h,Q e fr h->b e fr h):ud P W0 N c fr h b:=fun g nn m a w s K i=>d g nn m a w s K fun new e j fr' h' a' w' k h2 h3 n=>i new e j fr' h' a' w' k h2 h3 (f _ _ _ n)
theorem AC.mono{f:FuncId}{args:xLV}{R R':vV->aai->Prop}(b:AC P W0 f args h R)(c:∀v h,R v h->R' v h):AC P W0 f args h R':=fun ex m w a r d=>(b ex m w a r d).mono fun _ _ ⟨v,v',e,h',g,h2,h3,i,j,k⟩=>⟨v,v',e,h',g,h2,h3,i,j,c _ _ k⟩
def putDst(N:Nat)(fr:aam)(d:Option Tmp)(v:vV):Option aam:=
 match d with
 |none=>Z fr
 |some d=>if d<N then Z (fr.set d v)else Y
theorem St.put{f:Cx}{m e:abd}{a:Act}{w w':World}(s:St W0 f N m fr h a w){h':aai}(R':Rel (W0.add f.ex) e h' w')(g:ZK h.next m e)(j:h.next<=h'.next){d:Option Tmp}{v v':vV}(n:VR h'.next e v v'){fr':aam}(b:putDst N fr d v=Z fr'):St W0 f N e fr' h' (a.put d v') w':=by
 have F:=s.frame.mono j g;cases d with
 |none=>simp[putDst]at b;subst b;exact⟨R',F,s.defers,s.size,s.round⟩
 |some d=>
  simp only[putDst]at b;split at b
  case isFalse=>cases b
  rename_i Cl;simp at b;subst b;have hd:d<a.tmps.size:=by grind[St.size]
  refine⟨R',fun k u c=>?_,s.defers,by simpa[Act.put]using s.size,s.round⟩;rw[Trie.YO]at c;by_cases i:k=d
  .subst i;rw[IE rfl]at c;injection c with c;subst c;exact⟨v',by simp[Act.put,hd],n⟩
  .rw[yM i]at c;obtain⟨u',o,h2⟩:=F k u c;exact⟨u',by simp[Act.put,j3 i,o],h2⟩
def ab6(ops:Array Oper)(fr:aam)(o:Oper):Option Bool:=
  match o.guard with
  |none=>Z tT
  |some (j,want)=>match(ops[j]?).bind (·.dst)with
    |some d=>match fr.get d with
      |some (.bool b)=>Z (b==want)
      |some (.tuple _)=>Z fF
      |_=>Y
    |none=>Y
theorem tz{n:Nat}{m:abd}{a:Act}(F:FR n m fr a.tmps){o:Oper}{b:Bool}(e:ab6 ops fr o=Z b):Region.wanted o (yielded ops a.tmps)=b:=by
 unfold ab6 at e;unfold Region.wanted;cases hg:o.guard with
 |none=>grind
 |some p=>
  obtain⟨j,want⟩:=p;rw[hg]at e;simp only[]at e ⊢;split at e
  .rename_i d hd;split at e
   .rename_i t c;injection e with e;subst e;obtain⟨v',f,h2⟩:=F d _ c;have:=h2.YE;subst this;simp only[yielded,hd,TN,f];grind
   .rename_i vs c;injection e with e;subst e;obtain⟨v',f,h2⟩:=F d _ c;obtain⟨g,rfl,_⟩:=h2.Vh;simp[yielded,hd,f]
   .cases e
  .cases e
theorem ML.nil{Q:aam->aai->Prop}(b:Q fr h):ML P W0 N ops [] fr h Q:=fun d nn m a w s _K c=>wpListIn_nil (c m fr h a w (.refl _ _) (qL0 _) s b)
theorem ML.step{o:Oper}{Q:aam->aai->Prop}{v:vV}{h':aai}{fr':aam}(hw:ab6 ops fr o=Z tT)(hs:abr P fr h o=Z (v,h'))(g:putDst N fr o.dst v=Z fr')(i:ML P W0 N ops l fr' h' Q):ML P W0 N ops (o::l) fr h Q:=by
 intro j nn m a w s K k;obtain⟨n,v',w',b,R',d,e,p⟩:=ae4 (P:=P) (a:=a) s.rel s.frame hs;have q:=s.put R' d e p g;have c:=i j nn n (a.put o.dst v') w' q K fun m2 f h2 a2 w2 r t e3 e4=>k m2 f h2 a2 w2 (d.trans r e) (EP e t) e3 e4;unfold wpListIn;rw[IE (tz s.frame hw)];refine ph (Nw hs) ?_;rcases b with b|⟨b,rfl⟩<;>rw[b]
 .exact c
 .exact c
def ML.skip{o:Oper}{Q:aam->aai->Prop}{fr':aam}(hw:ab6 ops fr o=Z fF)(b:putDst N fr o.dst Yx=Z fr')(c:ML P W0 N ops l fr' h Q):ML P W0 N ops (o::l) fr h Q:=by
 intro d nn m a w s K e;have f:=s.put s.rel (.refl _ _) (qL0 _) (v:=Yx) (v':=undef) (.tuple rfl (fun i v v' h=>by simp at h)) b;unfold wpListIn;rw[yM (by rw[tz s.frame hw];simp)];exact⟨fun _ _=>trivial,c d nn m _ w f K e⟩
def abt(fr:aam)(o:Oper):Option (FuncId×xLV):=
  match o.op with
  |.call {callee:=.value f,args,..}=>match aa6 fr f,acZ fr args.toList with
    |some (.func (.func g) first cap),Z vs=>Z (g,first.toList++vs++cap.toList)
    |_,_=>Y
  |_=>Y
structure Good (P:Program) (f:FuncId) (fn:Func) (c:Code):Prop where
 func:P.funcs[f]?=some fn
 body:fn.body=some c
 name:(fn.name== "runtime.NumGoroutine")=false
theorem ML.call{o:Oper}{Q:aam->aai->Prop}{g:FuncId}{args:xLV}{fn:Func}{c:Code}(hw:ab6 ops fr o=Z tT)(d:abt fr o=Z (g,args))(hg:Good P g fn c)(G:AC P W0 g args h fun v h'=>∃fr',putDst N fr o.dst v=Z fr'/\ML P W0 N ops l fr' h' Q):ML P W0 N ops (o::l) fr h Q:=by
 intro E nn m a w s K H;unfold abt at d;split at d
 .rename_i f as ats r;split at d
  .rename_i F first cap vs hf t
   injection d with d;simp only[si]at d;obtain⟨rfl,rfl⟩:=d;have n:=Ns s.frame hf;have u:=PZ s.frame t;unfold wpListIn;rw[IE (tz s.frame hw)];refine ph (fun c e=>by grind) ?_
   have key:∃b cap',a.eval f=.func (.func F) b cap'/\AK h.next m first.toList b.toList/\AK h.next m cap.toList cap'.toList:=by
    generalize a.eval f=x at n;cases n with
    |flat hf=>grind[flat]
    |func S h2 h3 I=>exact⟨_,_,rfl,⟨hGr,fun i v v' e e'=>h3 i v v' (by simpa using e) hGr⟩,⟨hGr,fun i v v' e e'=>I i v v' (by simpa using e) hGr⟩⟩
   obtain⟨b,cap',y,z,A⟩:=key
   have p:(execOp a.eval o).run P w=.ok (.enter F ((b.toList++as.toList.map a.eval++cap'.toList).toArray)) w:=by
    have B:(b++as.map a.eval++cap')=(b.toList++as.toList.map a.eval++cap'.toList).toArray:=by apply adP.1;simp
    simp only[execOp,r,resolve,y,Deferred.ofValue,Sem.run_bind,Sem.run_pure,Result.andThen_ok,invoke,callFunc,run_program,hg.func,hg.name,KV,if_false,hg.body,WL,B]
   rw[p]
   have j:=G E.ex m w (b.toList++as.toList.map a.eval++cap'.toList) s.rel ((z.append u).append A)
   refine⟨(fun J=>by cases J),qN (j.mono ?_)⟩;rintro e w' ⟨v,v',L,h',rfl,R',q,C,M,fr',O,k⟩;exact k E nn L _ w' (s.put R' q C M O) K fun m2 D h2 a2 w2 B R e3 e4=>H m2 D h2 a2 w2 (q.trans B C) (EP C R) e3 e4
  .cases d
 .cases d
def ud.skip{Q:Exit->aam->aai->Prop}(b:Q .normal fr h):ud P W0 N .skip fr h Q:=fun d nn m a w s _K c=>wpIn_skip (c [] .normal m fr h a w (.refl _ _) (qL0 _) s.nil b)
def ud.label{i:Nat}{Q:Exit->aam->aai->Prop}(b:Q .normal fr h):ud P W0 N (.label i) fr h Q:=fun d nn m a w s _K c=>wpIn_label (c [] .normal m fr h a w (.refl _ _) (qL0 _) s.nil b)
def ud.exit{i:Nat}{Q:Exit->aam->aai->Prop}(b:Q (.exit i) fr h):ud P W0 N (.exit i) fr h Q:=fun d nn m a w s _K c=>wpIn_exit (c [] (.exit i) m fr h a w (.refl _ _) (qL0 _) s.nil b)
def ud.ret{Q:Exit->aam->aai->Prop}(b:Q .ret fr h):ud P W0 N .ret fr h Q:=fun d nn m a w s _K c=>wpIn_ret (c [] .ret m fr h a w (.refl _ _) (qL0 _) s.nil b)
def seqQ(P:Program)(W0:LA)(N:Nat)(y:Code)(Q:Exit->aam->aai->Prop):Exit->aam->aai->Prop
 |.normal,fr,h=>ud P W0 N y fr h Q
 |e,fr,h=>Q e fr h
def ud.seq{x y:Code}{Q:Exit->aam->aai->Prop}(p:ud P W0 N x fr h (seqQ P W0 N y Q)):ud P W0 N (.seq x y) fr h Q:=by
 intro d nn m a w s K j;refine wpIn_seq (p d nn m a w s _ fun new e k fr' h' a' w' c f n o=>?_);cases e with
 |normal=>exact o (d.more new) nn k a' w' n K fun b q m2 g h2 a2 w2 r i e3 e4=>j (b++new) q m2 g h2 a2 w2 (c.trans r f) (EP f i) (d.C7 new b▸e3) e4
 |_=>exact j new _ k fr' h' a' w' c f n o
def ud.cond{c:Operand}{x y:Code}{t:Bool}{Q:Exit->aam->aai->Prop}(e:aa6 fr c=Z (.bool t))(f:t=tT->ud P W0 N x fr h Q)(hf:t=fF->ud P W0 N y fr h Q):
  ud P W0 N (.cond c x y) fr h Q:=by
 intro b nn m a w s K d;refine wpIn_cond (t:=t) (Ns s.frame e).YE ?_;cases t with
 |true=>exact f rfl b nn m a w s K d
 |false=>exact hf rfl b nn m a w s K d
def agj(i:Nat)(Q:Exit->aam->aai->Prop):Exit->aam->aai->Prop
 |.exit j,fr,h=>if j=i then Q .normal fr h else Q (.exit j) fr h
 |e,fr,h=>Q e fr h
theorem ud.block{i:Nat}{c:Code}{Q:Exit->aam->aai->Prop}(f:ud P W0 N c fr h (agj i Q)):ud P W0 N (.block i c) fr h Q:=by
 intro g nn m a w s K k;refine wpIn_block (f g nn m a w s _ fun new e n fr' h' a' w' b o p d=>?_);cases e with
 |exit j=>simp only[agj]at d;simp only[Exit.inBlock];grind
 |_=>exact k _ _ n fr' h' a' w' b o p d
def ud.region{i:Nat}{os:List Oper}{Q:Exit->aam->aai->Prop}(c:ML P W0 N os.toArray os fr h (Q .normal)):ud P W0 N (.region i os.toArray fF) fr h Q:=by intro d nn m a w s K e;exact wpIn_region_lit (c d nn m a w s K fun f fr' h' a' w' b g j k=>e [] .normal f fr' h' a' w' b g j.nil k)
def Sub(fr fr':aam):Prop:=∀k v,fr.get k=Z v->fr'.get k=Z v
theorem exists_least(p:Nat->Prop)(a:∃k,p k):∃k,p k/\∀j,p j->k<=j:=by
 obtain⟨k,b⟩:=a
 induction k using Nat.strongRecOn<;>grind
def aeM(I:Nat->aam->aai->Prop)(k:Nat)(Q:Exit->aam->aai->Prop):Exit->aam->aai->Prop
 |.normal,fr,h=>∃a,a<k/\∃fr',Sub fr' fr/\I a fr' h
 |e,fr,h=>Q e fr h
def ud.loop{c:Code}{Q:Exit->aam->aai->Prop}(I:Nat->aam->aai->Prop)(k0:Nat)(i:aam)(o:Sub i fr)(G:I k0 i h)(H:∀k fr h,I k fr h->ud P W0 N c fr h (aeM I k Q)):ud P W0 N (.loop c) fr h Q:=by
 intro t nn m a w s K L
 let J:Nat->Act->World->Prop:=fun k a' w'=>∃new C fr' h',ZK h.next m C/\h.next<=h'.next/\St W0 (t.more new) N C fr' h' a' w'/\I k fr' h'
 let μ:Act->World->Nat:=fun a' w'=>@dite _ (∃k,J k a' w') (Classical.propDecidable _) (fun d=>Classical.choose (exists_least _ d)) (fun _=>0);have D:∀a' w',(d:∃k,J k a' w')->J (μ a' w') a' w'/\∀j,J j a' w'->μ a' w'<=j:=by
  intro a' w' d;have:μ a' w'=Classical.choose (exists_least _ d):=by simp only[μ];rw[dif_pos d]
  rw[this];exact Classical.choose_spec (exists_least _ d)
 refine wpIn_loop (fun a' w'=>∃k,J k a' w') μ ⟨k0,[],m,i,h,.refl _ _,qL0 _,St.nil ⟨s.rel,fun k v e=>s.frame k v (o k v e),s.defers,s.size,s.round⟩,G⟩ ?_;intro a1 w1 d;obtain⟨⟨p,m1,u,M,f,b,s1,O⟩,_⟩:=D a1 w1 d;refine H _ u M O (t.more p) nn m1 a1 w1 s1 _ fun E e m2 x h2 a2 w2 g q s2 F=>?_;rw[t.C7]at s2;cases e with
 |normal=>obtain⟨r,y,z,n,A⟩:=F;have B:J r a2 w2:=⟨_,m2,z,h2,f.trans g b,EP b q,⟨s2.rel,fun k v e=>s2.frame k v (n k v e),s2.defers,s2.size,s2.round⟩,A⟩;exact⟨⟨r,B⟩,JR ((D a2 w2 ⟨r,B⟩).2 r B) y⟩
 |_=>exact L _ _ m2 x h2 a2 w2 (f.trans g b) (EP b q) s2 F
def ad7(P:Program)(fr:aam)(h:aai):ResultVar->Option vV
  |.tmp t=>fr.get t
  |.cell a t=>match fr.get a with
    |some (pT (Z ad))=>aaC P h t ad
    |_=>Y
def acf(P:Program)(fr:aam)(h:aai):List ResultVar->Option xLV
  |[]=>Z []
  |r::rs=>match ad7 P fr h r with
    |some v=>match acf P fr h rs with|some l=>Z (v::l)|none=>Y
    |none=>Y
def acD(P:Program)(fr:aam)(h:aai)(rs:List ResultVar):Option vV:=
 match acf P fr h rs with
 |some [v]=>Z v
 |some l=>Z (.tuple l.toArray)
 |none=>Y
def zc(tmps:Array vV):ResultVar->Sem vV
 |.tmp t=>Pure.pure (tmps.getD t undef)
 |.cell x t=>do loadVar t (<-asAddr (tmps.getD x undef))
def sR(fn:Func)(tmps:Array vV):results fn tmps=(fn.results.mapM (zc tmps) >>= fun vs=>Pure.pure (if h:vs.size=1 then vs[0]else .tuple vs)):=by unfold results;congr 2
def aeN{g:Cx}{m:abd}{a:Act}{w:World}(s:St W0 g N m fr h a w){r:ResultVar}{v:vV}(e:ad7 P fr h r=Z v):
  ∃v',(zc a.tmps r).run P w=.ok v' w/\VR h.next m v v':=by
 cases r with
 |tmp t=>obtain⟨v',b,h2⟩:=s.frame t v e;exact⟨v',by simp[zc,Cj,b],h2⟩
 |cell x t=>
  simp only[ad7]at e;split at e
  .rename_i ad c;obtain⟨v',b,h2⟩:=s.frame x _ c;obtain⟨a',rfl,d⟩:=h2.AP;obtain⟨f,h3,i⟩:=s.rel.loadVar (P:=P) d e;exact⟨f,by simp[zc,Cj,b,asAddr,h3],i⟩
  .cases e
def C6{b:Cx}{m:abd}{a:Act}{w:World}(s:St W0 b N m fr h a w):∀{rs:List ResultVar}{l:xLV},acf P fr h rs=Z l->
  ∃l',(rs.mapM (zc a.tmps)).run P w=.ok l' w/\AK h.next m l l'
 |[],l,e=>by simp[acf]at e;subst e;exact⟨[],Ma,.nil _ _⟩
 |r::rs,l,e=>by
  simp only[acf]at e;split at e
  .rename_i v c;split at e
   .rename_i l0 d;injection e with e;subst e;obtain⟨v',f,h2⟩:=aeN s c;obtain⟨l',h3,g⟩:=C6 s d;refine⟨v'::l',?_,.cons h2 g⟩;simp only[List.mapM_cons,Sem.run_bind,Sem.run_pure,f,h3,Result.andThen_ok]
   .cases e
  .cases e
theorem Hm{d:Cx}{m:abd}{a:Act}{w:World}(s:St W0 d N m fr h a w){fn:Func}{v:vV}(e:acD P fr h fn.results.toList=Z v):
  ∃v',(results fn a.tmps).run P w=.ok v' w/\VR h.next m v v':=by
 unfold acD at e
 have key:∀l,acf P fr h fn.results.toList=Z l->∃l',(results fn a.tmps).run P w=.ok (if f:l'.toArray.size=1 then l'.toArray[0]else .tuple l'.toArray) w/\AK h.next m l l':=by intro l b;obtain⟨l',c,h2⟩:=C6 s b;refine⟨l',?_,h2⟩;rw[sR,qL207,map_eq_pure_bind];simp only[Sem.run_bind];rw[c];rfl
 split at e
 .rename_i u b;injection e with e;subst e;obtain⟨l',c,h2⟩:=key _ b
  match l',h2 with
  |[v'],h2=>exact⟨v',c,h2.2 0 u v' rfl rfl⟩
  |[],h2|_::_::_,h2=>grind[AK]
 .rename_i l g b;injection e with e;subst e;obtain⟨l',c,h2⟩:=key _ b;refine⟨.tuple l'.toArray,?_,.qY hGr⟩;rw[c];have:¬(l'.toArray.size=1):=by
   intro f;have hlen:l.length=1:=by rw[h2.1];grind
   match l,hlen with
   |[u],_=>grind
  grind
 .cases e
def aeI(k:Nat)(fr:aam):xLV->aam
 |[]=>fr
 |v::r=>aeI (k+1) (fr.set k v) r
def me(args:xLV):aam:=aeI 0 .leaf args
theorem NZ:∀(args:xLV)(k:Nat)(fr:aam)(j:Nat)(v:vV),(aeI k fr args).get j=Z v->(fr.get j=Z v/\(j<k\/k+args.length<=j))\/(k<=j/\args[j-k]?=Z v)
 |[],k,fr,j,v,h=>by grind[aeI]
 |u::r,k,fr,j,v,h=>by
  simp only[aeI]at h;rcases NZ r (k+1) (fr.set k u) j v h with⟨a,h2⟩|⟨a,h2⟩
  all_goals grind[Trie.YO]
theorem Rel.turn{m:abd}{w:World}{W:World}{n0:Nat}{m0:abd}{A Z:List (Nat×Obj)}{b:Nat}{o:Obj}(e:Obj)(R:Rel ⟨W,A++(b,o)::Z,n0,m0⟩ m h w):Rel ⟨W,A++(b,e)::Z,n0,m0⟩ m h (w.putObj b e):=by
 have c:(b,o)∈A++(b,o)::Z:=by simp
 have hb:b<w.heap.size:=R.aah.lt c;have g:W.heap.size<=b:=R.aah.hi b o c;have hd:((A++(b,o)::Z).map (·.1)).Nodup:=R.aah.VM;have j:((A++(b,e)::Z).map (·.1)).Nodup:=hGr;have d:∀x y,(x,y)∈A++(b,e)::Z->(x=b/\y=e)\/(x≠b/\(x,y)∈A++(b,o)::Z):=hGr;have n:∀i,h.own i≠Y->(m i).blk≠b:=fun i hi=>R.aah.apart b o i c hi
 refine⟨by simpa using R.size,fun k q=>?_,R.ext,R.lt,R.new,fun i x hi=>?_,R.inj,R.os,R.output,R.tape,⟨R.aah.agree,R.aah.next,j,fun x y f=>?_,fun x y f=>?_,fun x y i f hi=>?_⟩⟩
 .rw[World.putObj_heap_other hGr];exact R.qi k q
 .exact Rel.JP (R.own i x hi) (qL0 _) (ZK.refl _ _) (World.putObj_heap_other (n i (by rw[hi];simp)))
 .rcases d x y f with⟨rfl,rfl⟩|⟨_,a⟩
  .exact g
  .exact R.aah.hi x y a
 .rcases d x y f with⟨rfl,rfl⟩|⟨p,a⟩
  .exact World.putObj_heap_same hb
  .rw[World.putObj_heap_other p];exact R.aah.held x y a
 .rcases d x y f with⟨rfl,rfl⟩|⟨_,a⟩
  .grind
  .exact R.aah.apart x y i a hi
theorem Rel.Ih{m:abd}{w:World}{W:World}{rw:List (Nat×Obj)}{n0 n1:Nat}{m0 m1:abd}(R:Rel ⟨W,rw,n0,m0⟩ m h w)(ha:ZK n1 m1 m)(a:n1<=h.next):Rel ⟨W,rw,n1,m1⟩ m h w:=⟨R.size,R.qi,R.ext,R.lt,R.new,R.own,R.inj,R.os,R.output,R.tape,⟨ha,a,R.aah.VM,R.aah.hi,R.aah.held,R.aah.apart⟩⟩
theorem Rel.less{m:abd}{w:World}{W:World}{n0:Nat}{m0:abd}{x:Nat×Obj}{Z:List (Nat×Obj)}(R:Rel ⟨W,x::Z,n0,m0⟩ m h w):Rel ⟨W,Z,n0,m0⟩ m h w:=⟨R.size,R.qi,R.ext,R.lt,R.new,R.own,R.inj,R.os,R.output,R.tape,⟨R.aah.agree,R.aah.next,by have:=R.aah.VM;grind,fun b o hb=>R.aah.hi b o (.tail _ hb),fun b o hb=>R.aah.held b o (.tail _ hb),fun b o i hb hi=>R.aah.apart b o i (.tail _ hb) hi⟩⟩
theorem Df{fn:Func}{tmps:Array vV}{m:abd}{R:Ending->World->Prop}{ex:List (Nat×Obj)}:∀(new:II){w:World},Rel (W0.add (new.map X0++ex)) m h w->
  (∀w',Rel (W0.add ex) m h w'->LeavesInM Fence.wide 0 P fn tmps R [] .returning w')->LeavesInM Fence.wide 0 P fn tmps R (new.map mkOf) .returning w
 |[],w,r,a=>a w r
 |b::new,w,r,a=>by
  refine⟨Ma,.inl ⟨b,_,rfl,run_takeDeferred (ds:=[]) (r.aah.held b _ (by simp[LA.add,X0])),Df new ?_ a⟩⟩;have r2:Rel ⟨W0.toWorld,[]++(b,.deferred (Z []))::((new.map X0++ex)++W0.rw),W0.n0,W0.m0⟩ m h w:=by grind[LA.add,X0]
  exact(r2.turn (.deferred Y)).less
theorem AC.body{f:FuncId}{args:xLV}{fn:Func}{c:Code}{R:vV->aai->Prop}(hg:Good P f fn c)(hlen:args.length<=fn.ntmps)(o:ud P W0 fn.ntmps c (me args) h fun e fr' h'=>(e=.normal\/e=.ret)/\∃v,acD P fr' h' fn.results.toList=Z v/\R v h'):AC P W0 f args h R:=by
 intro ex m w a r p;refine callsIn_wide.1 (callsIn_of_wp_marks (n:=0) hg.func hg.body trivial ?_);have s:St W0 ⟨ex,[],Y⟩ fn.ntmps m (me args) h {tmps:=a.toArray++Array.replicate (fn.ntmps-a.toArray.size) undef,defers:=[]} w:=by
  refine⟨r,fun k v g=>?_,rfl,?_,fun l e=>by cases e⟩
  .rcases NZ args 0 .leaf k v g with⟨j,_⟩|⟨_,h2⟩
   all_goals grind[Trie.get,AK.get]
  .have:=p.1;simp;omega
 refine o ⟨ex,[],Y⟩ 0 m _ w s _ fun new e b fr' h' a' w' i q d t=>?_;obtain⟨u,v,g,hR⟩:=t;have x:∀w2,Rel (W0.add ex) b h' w2->St W0 ⟨ex,[],Y⟩ fn.ntmps b fr' h' {tmps:=a'.tmps,defers:=[]} w2:=fun w2 r2=>⟨r2,d.frame,rfl,d.size,fun l e=>by cases e⟩
 have y:LeavesInM Fence.wide 0 P fn a'.tmps (fun e w'=>∃v v' b h',e=.returned v'/\Rel (W0.add ex) b h' w'/\ZK h.next m b/\h.next<=h'.next/\VR h'.next b v v'/\R v h') a'.defers .returning w':=by
  have hd:a'.defers=new.map mkOf:=by simpa[Cx.more,ae8]using d.defers
  have z:Rel (W0.add (new.map X0++ex)) b h' w':=by simpa[Cx.more,ae8]using d.rel
  rw[hd];refine Df new z fun w2 r2=>?_;obtain⟨v',j,h2⟩:=Hm (fn:=fn) (x w2 r2) g;exact⟨v',j,v,v',b,h',rfl,r2,i,q,h2,hR⟩
 rcases u with rfl|rfl<;>exact y
section
variable{P:Program}{W0:LA}{N:Nat}{ops:Array Oper}{l:List Oper}{fr:aam}{h:aai}
def Yg(l:Nat):vV:=.func (.yield l) #[] #[]
def AY(P:Program)(W0:LA)(b:Nat)(args:xLV)(h:aai)(R:vV->aai->Prop):Prop:=
 ∀ex ro nn m w a,Rel (W0.add ex) m h w->AK h.next m args a->
  ∃f tmps assign body,(Instr.yield b a.toArray).run P w=.ok (.round b f tmps assign body) w/\
   RoundIn (Xc ro) nn P b f tmps assign body w (fun e w'=>∃v v' c h',e=.returned v'/\Rel (W0.add ex) c h' w'/\ZK h.next m c/\h.next<=h'.next/\VR h'.next c v v'/\R v h')
theorem AY.mono{b:Nat}{args:xLV}{R R':vV->aai->Prop}(c:AY P W0 b args h R)(d:∀v h,R v h->R' v h):AY P W0 b args h R':=
 fun ex ro nn m w a r e=>let⟨f,tmps,assign,body,g,h2⟩:=c ex ro nn m w a r e
  ⟨f,tmps,assign,body,g,h2.mono fun _ _ ⟨v,v',i,h',a1,a2,j,k,n,o⟩=>⟨v,v',i,h',a1,a2,j,k,n,d _ _ o⟩⟩
def AY.post{b:Nat}{args:xLV}{R:vV->aai->Prop}(c:AY P W0 b args h R):AY P W0 b args h fun v h'=>(∀i,h'.own i≠Y->i<h'.next)/\R v h':=
 fun ex ro nn m w a r d=>let⟨f,tmps,assign,body,e,h2⟩:=c ex ro nn m w a r d
  ⟨f,tmps,assign,body,e,h2.mono fun _ _ ⟨v,v',g,h',a1,a2,j,k,n,o⟩=>⟨v,v',g,h',a1,a2,j,k,n,a2.lt,o⟩⟩
def yieldOf(fr:aam)(o:Oper):Option (Nat×xLV):=
  match o.op with
  |.call {callee:=.value f,args,..}=>match aa6 fr f,acZ fr args.toList with
    |some (.func (.yield g) first _),Z vs=>Z (g,first.toList++vs)
    |_,_=>Y
  |_=>Y
theorem ML.yield{o:Oper}{Q:aam->aai->Prop}{E:Nat}{args:xLV}(hw:ab6 ops fr o=Z tT)(d:yieldOf fr o=Z (E,args))(G:AY P W0 E args h fun v h'=>∃fr',putDst N fr o.dst v=Z fr'/\ML P W0 N ops l fr' h' Q):ML P W0 N ops (o::l) fr h Q:=by
 intro r nn m a w s K H;unfold yieldOf at d;split at d
 .rename_i f as ats t;split at d
  .rename_i F first cap vs hf u
   injection d with d;simp only[si]at d;obtain⟨rfl,rfl⟩:=d;have n:=Ns s.frame hf;have y:=PZ s.frame u;unfold wpListIn;rw[IE (tz s.frame hw)];refine ph (fun c e=>by grind) ?_
   have key:∃b cap',a.eval f=.func (.yield F) b cap'/\AK h.next m first.toList b.toList:=by
    generalize a.eval f=x at n;cases n with
    |flat hf=>grind[flat]
    |func S h2 h3 T=>exact⟨_,_,rfl,⟨hGr,fun i v v' e e'=>h3 i v v' (by simpa using e) hGr⟩⟩
   obtain⟨b,cap',z,A⟩:=key
   obtain⟨I,tmps,assign,body,j,g⟩:=G r.ex r.ro (nn-1) m w (b.toList++as.toList.map a.eval) s.rel (A.append y)
   have p:(execOp a.eval o).run P w=.ok (.round F I tmps assign body) w:=by
    have B:(b++as.map a.eval)=(b.toList++as.toList.map a.eval).toArray:=hGr
    simp only[execOp,t,resolve,z,Deferred.ofValue,Sem.run_bind,Sem.run_pure,Result.andThen_ok,invoke,B,j]
   rw[p];refine⟨(fun J=>by cases J),g.mono ?_⟩;rintro e w' ⟨v,v',L,h',rfl,R',q,C,M,fr',O,k⟩;exact k r nn L _ w' (s.put R' q C M O) K fun m2 D h2 a2 w2 B R e3 e4=>H m2 D h2 a2 w2 (q.trans B C) (EP C R) e3 e4
  .cases d
 .cases d
def aeJ:List Tmp->xLV->aam->aam
 |p::ps,v::vs,fr=>aeJ ps vs (fr.set p v)
 |_,_,fr=>fr
theorem FC{n:Nat}{m:abd}:∀{ps:List Tmp}{vs a:xLV}{fr:aam}{tmps:Array vV},FR n m fr tmps->AK n m vs a->(∀p∈ps,p<tmps.size)->
  FR n m (aeJ ps vs fr) ((ps.zip a).foldl (fun tmps x=>tmps.setIfInBounds x.1 x.2) tmps)/\((ps.zip a).foldl (fun tmps x=>tmps.setIfInBounds x.1 x.2) tmps).size=tmps.size
 |[],vs,a,fr,tmps,F,_,_=>⟨by simpa[aeJ]using F,rfl⟩
 |p::ps,[],a,fr,tmps,F,b,_=>by have:a=[]:=Yi (by rw[<-b.1];rfl);subst this;exact⟨by simpa[aeJ]using F,rfl⟩
 |p::ps,v::vs,[],fr,tmps,F,b,_=>by grind[AK]
 |p::ps,v::vs,v'::a,fr,tmps,F,b,d=>by
  have j:VR n m v v':=b.2 0 v v' rfl rfl;have e:AK n m vs a:=by simpa using b.drop 1
  have f:=d p Ma;have g:FR n m (fr.set p v) (tmps.setIfInBounds p v'):=fun k u c=>by
   rw[Trie.YO]at c;by_cases i:k=p
   .grind
   .rw[yM i]at c;obtain⟨u',o,r⟩:=F k u c;grind
  have:=FC (ps:=ps) g e (fun q s=>by grind);simpa[aeJ]using this
theorem Rel.push{m:abd}{w:World}{W:World}{n0:Nat}{m0:abd}{rw:List (Nat×Obj)}(R:Rel ⟨W,rw,n0,m0⟩ m h w)(o:Obj):Rel ⟨W,(w.heap.size,o)::rw,n0,m0⟩ m h (w.alloc o):=by
 have b:∀x y,(x,y)∈rw->x<w.heap.size:=fun x y a=>R.aah.lt a;have c:W.heap.size<=w.heap.size:=R.size
 refine⟨by have:=R.size;simp at this ⊢;omega,fun k d=>?_,R.ext,R.lt,R.new,fun i x hi=>?_,R.inj,R.os,R.output,R.tape,⟨R.aah.agree,R.aah.next,?_,fun x y a=>?_,fun x y a=>?_,fun x y i a hi=>?_⟩⟩
 .rw[heap_alloc_old w _ k hGr];exact R.qi k d
 .exact Rel.JP (R.own i x hi) (qL0 _) (ZK.refl _ _) (heap_alloc_old w _ _ (R.Hc (by rw[hi];simp)))
 .rw[Lm,jz];refine⟨fun a=>?_,R.aah.VM⟩;grind
 .rcases Og.1 a with a|a
  .grind
  .exact R.aah.hi x y a
 .rcases Og.1 a with a|a
  .grind[Go.heap_alloc_new]
  .rw[heap_alloc_old w _ x (b x y a)];exact R.aah.held x y a
 .rcases Og.1 a with a|a
  .grind[Rel.Hc]
  .exact R.aah.apart x y i a hi
def TW(st:LoopState)(f:FuncId)(tmps:Array vV)(ps:Array Tmp)(assign body:Code)(D:Nat):Loop:={state:=st,pending:=Y,fn:=f,tmps:=tmps,params:=ps,assign:=assign,body:=body,defers:=D}
theorem enter_rel{b:Cx}{m:abd}{a:Act}{w:World}(s:St W0 b N m fr h a w)(f:FuncId)(ps:Array Tmp)(assign body:Code):
  ∃e mark w1 D new,(Instr.enterLoop f a.tmps ps assign body b.ro).run P w=.ok (e,mark) w1/\Rel (W0.add ((e,.loop (TW .ready f a.tmps ps assign body D))::(b.more new).ex)) m h w1/\mark++b.ds=(b.more new).ds:=by
 cases d:b.ro with
 |none=>
  refine⟨_,_,_,w.heap.size,[w.heap.size],run_enterLoop_outer f a.tmps ps assign body,?_,?_⟩
  .have r1:Rel ⟨W0.toWorld,b.ex++W0.rw,W0.n0,W0.m0⟩ m h w:=s.rel;grind[Rel.push,TW,Go.World.size_alloc,LA.add,Cx.more,ae8,X0]
  grind[Cx.more,ae8,mkOf]
 |some l'=>
  obtain⟨r,g⟩:=s.round l' d;have c:w.heap[l']?=Z (.loop r):=s.rel.aah.held l' _ g;refine⟨w.heap.size,[],w.alloc (.loop (TW .ready f a.tmps ps assign body r.defers)),r.defers,[],?_,?_,?_⟩
  .unfold Instr.enterLoop;simp only[Sem.run_bind,run_getLoop c,Result.andThen,Sem.run_pure,run_newObj_alloc];rfl
  .have r1:Rel ⟨W0.toWorld,b.ex++W0.rw,W0.n0,W0.m0⟩ m h w:=s.rel;rw[Cx.YS];exact r1.push (.loop (TW .ready f a.tmps ps assign body r.defers))
  grind[Cx.YS]
def Rnd(P:Program)(W0:LA)(N:Nat)(ps:Array Tmp)(fr:aam)(assign body:Code)(args:xLV)(h:aai)(R:vV->aai->Prop):Prop:=ud P W0 N assign (aeJ ps.toList args fr) h fun e a h2=>e=.normal/\ud P W0 N body a h2 fun e _ h3=>e=.normal/\R (.bool tT) h3
theorem zip_fold(ps:Array Tmp)(vs:xLV)(tmps:Array vV):(ps.zip vs.toArray).foldl (fun tmps (x:Tmp×vV)=>tmps.setIfInBounds x.1 x.2) tmps=(ps.toList.zip vs).foldl (fun tmps x=>tmps.setIfInBounds x.1 x.2) tmps:=by grind[Array.toList_zip]
theorem AY.of_round{ps:Array Tmp}{assign body:Code}{m:abd}{tmps:Array vV}{ex:List (Nat×Obj)}{a D:Nat}{f:FuncId}{args:xLV}{t:aai}{R:vV->aai->Prop}(F:FR h.next m fr tmps)(M:tmps.size=N)(O:∀p∈ps.toList,p<N)(hlen:args.length=ps.size)(z:ZK W0.n0 W0.m0 m)(v:W0.n0<=h.next)(A:h.next<=t.next)(Q:Rnd P W0 N ps fr assign body args t R):
  AY P ⟨W0.toWorld,(a,.loop (TW .ready f tmps ps assign body D))::(ex++W0.rw),h.next,m⟩ a args t R:=by
 intro b ro nn m1 w1 g S I
 have B:Rel ⟨W0.toWorld,b++(a,.loop (TW .ready f tmps ps assign body D))::(ex++W0.rw),h.next,m⟩ m1 t w1:=S
 have w:ZK h.next m m1:=B.aah.agree
 have u:=B.aah.held a _ (by simp:(a,Obj.loop (TW .ready f tmps ps assign body D))∈b++(a,.loop (TW .ready f tmps ps assign body D))::(ex++W0.rw));have C:g.length=ps.size:=by rw[<-I.1];exact hlen
 refine⟨f,_,assign,body,run_yield u (by grind[TW]),?_⟩;have T:=F.mono A w;have q:=FC (ps:=ps.toList) T I (fun p X=>by grind);refine roundIn_of_wpIn trivial ?_
 have key:∀{st:LoopState}{m2:abd}{h2:aai}{w2:World},Rel ⟨W0.toWorld,b++(a,.loop (TW st f tmps ps assign body D))::(ex++W0.rw),h.next,m⟩ m2 h2 w2->
   Rel (W0.add (b++(a,.loop (TW st f tmps ps assign body D))::ex)) m2 h2 w2:=by
  intro st m2 h2 w2 r
  have:=r.Ih (n1:=W0.n0) (m1:=W0.m0) (z.trans r.aah.agree v) (EP v r.aah.next)
  grind[LA.add]
 have back:∀{st:LoopState}{m2:abd}{h2:aai}{w2:World},Rel (W0.add (b++(a,.loop (TW st f tmps ps assign body D))::ex)) m2 h2 w2->ZK t.next m1 m2->t.next<=h2.next->
   Rel ⟨W0.toWorld,b++(a,.loop (TW st f tmps ps assign body D))::(ex++W0.rw),h.next,m⟩ m2 h2 w2:=by grind[LA.add,Rel.Ih,ZK.trans]
 let c:LoopState->Cx:=fun st=>⟨b++(a,.loop (TW st f tmps ps assign body D))::ex,[],Z a⟩;have i:∀st new,(c st).more new=c st:=fun st new=>rfl;have d:∀st l,(c st).ro=Z l->∃r,(l,Obj.loop r)∈(c st).ex++W0.rw:=fun st l e=>by grind
 have s1:St W0 (c .ready) N m1 (aeJ ps.toList args fr) t {tmps:=(ps.zip g.toArray).foldl (fun tmps (x:Tmp×vV)=>tmps.setIfInBounds x.1 x.2) tmps,defers:=[]} w1:=by rw[zip_fold];exact⟨key B,q.1,rfl,q.2.trans M,d _⟩
 refine Q (c .ready) nn m1 _ w1 s1 _ fun new e m2 E h2 a2 w2 j k s2 G=>?_;obtain⟨rfl,G⟩:=G;rw[i]at s2;have J:=back s2.rel j k;have n:=J.aah.held a _ (by simp:(a,Obj.loop (TW .ready f tmps ps assign body D))∈b++(a,.loop (TW .ready f tmps ps assign body D))::(ex++W0.rw));refine⟨_,run_beginRound n rfl,?_⟩;have U:=J.turn (.loop (TW .busy f tmps ps assign body D));have V:St W0 (c .busy) N m2 E h2 a2 (w2.putObj a (.loop (TW .busy f tmps ps assign body D))):=⟨key U,s2.frame,s2.defers,s2.size,d _⟩;refine G (c .busy) nn m2 _ _ V _ fun new3 e3 m3 W h3 a3 w3 s y K H=>?_;obtain⟨rfl,hR⟩:=H;rw[i]at K;have L:=back K.rel (j.trans s k) (EP k y);have o:=L.aah.held a _ (by simp:(a,Obj.loop (TW .busy f tmps ps assign body D))∈b++(a,.loop (TW .busy f tmps ps assign body D))::(ex++W0.rw));refine⟨_,_,run_endRound Y o,.bool tT,.bool tT,m3,h3,rfl,?_,j.trans s k,EP k y,.flat rfl,hR⟩;exact L.turn (.loop (TW .ready f tmps ps assign body D))
theorem ud.rangeFunc{g:Operand}{ps:Array Tmp}{assign body:Code}{Q:Exit->aam->aai->Prop}{gf:FuncId}{fn:Func}{c:Code}{first cap:Array vV}(hg:aa6 fr g=Z (.func (.func gf) first cap))(f:Good P gf fn c)(B:ps.toList.all (fun p=>Nat.blt p N)=tT)(C:∀(M:LA)(d:Nat),(∀(args:xLV)(t:aai)(R:vV->aai->Prop),args.length=ps.size->h.next<=t.next->Rnd P W0 N ps fr assign body args t R->AY P M d args t R)->
   AC P M gf (first.toList++[Yg d]++cap.toList) h fun _ h'=>Q .normal fr h'):ud P W0 N (.rangeFunc g ps assign body) fr h Q:=by
 intro A nn m a w s K T;refine wpIn_rangeFunc fun j _=>?_;obtain⟨d,mark,w1,D,new,k,U,E⟩:=enter_rel s j ps assign body;have u:=Ns s.frame hg
 have key:∃b cap',a.eval g=.func (.func gf) b cap'/\AK h.next m first.toList b.toList/\AK h.next m cap.toList cap'.toList:=by
  generalize a.eval g=x at u;cases u with
  |flat hf=>grind[flat]
  |func t h2 h3 V=>exact⟨_,_,rfl,⟨hGr,fun i v v' e e'=>h3 i v v' (by simpa using e) hGr⟩,⟨hGr,fun i v v' e e'=>V i v v' (by simpa using e) hGr⟩⟩
 obtain⟨b,cap',F,G,H⟩:=key
 have y:∀p∈ps.toList,p<N:=fun p W=>by have:=DF.1 B p W;simpa using this
 have z:ZK W0.n0 W0.m0 m:=s.rel.aah.agree
 have n:W0.n0<=h.next:=s.rel.aah.next
 have I:=C ⟨W0.toWorld,(d,.loop (TW .ready j a.tmps ps assign body D))::((A.more new).ex++W0.rw),h.next,m⟩ d
  (fun args t R hlen J X=>AY.of_round s.frame s.size y hlen z n J X)
 have o:=I [] m w1 (b.toList++[Yg d]++cap'.toList) ?_ ((G.append (.cons (.func rfl rfl (fun i v v' e=>by simp at e) (fun i v v' e=>by simp at e)) (.nil _ _))).append H)
 .refine⟨d,mark,w1,{target:=.fn (.func gf) cap',args:=b++#[Yg d]},w1,gf,(b.toList++[Yg d]++cap'.toList).toArray,w1,k,?_,fun _ _=>trivial,?_,(fun hx=>by cases hx),qN (o.mono ?_)⟩
  .simp only[resolve,F,Deferred.ofValue,Sem.run_pure];simp[Act.eval,Yg]
  .have e1:b++#[Yg d]++cap'=(b.toList++[Yg d]++cap'.toList).toArray:=by
    apply adP.1;simp
   simp only[invoke,callFunc,Sem.run_bind,Sem.run_pure,run_program,f.func,f.name,KV,if_false,f.body,WL,e1,Result.andThen_ok]
  .rintro e w' ⟨v,v',O,h',rfl,R',q,L,hv,hq⟩
   have S:Rel ⟨W0.toWorld,[]++(d,.loop (TW .ready j a.tmps ps assign body D))::((A.more new).ex++W0.rw),h.next,m⟩ O h' w':=R'
   have r:=S.aah.held d _ (by simp:(d,Obj.loop (TW .ready j a.tmps ps assign body D))∈[]++(d,.loop (TW .ready j a.tmps ps assign body D))::((A.more new).ex++W0.rw));refine⟨Y,_,run_endLoop r (by simp[TW]),?_⟩;have q2:=(S.turn (.loop {TW .ready j a.tmps ps assign body D with state:=.exhausted})).less.Ih (n1:=W0.n0) (m1:=W0.m0) (z.trans q n) (EP n L);refine T new .normal O fr h' _ _ q L ⟨q2,s.frame.mono L q,?_,s.size,fun l e=>?_⟩ hq
   .grind[St.defers]
   grind[St.round,Cx.more]
 .have r1:Rel ⟨W0.toWorld,(d,.loop (TW .ready j a.tmps ps assign body D))::((A.more new).ex++W0.rw),W0.n0,W0.m0⟩ m h w1:=U;exact r1.Ih (ZK.refl _ _) (qL0 _)
def Zm(o:Oper):Bool:=
 match o.op with
 |.call {callee:=.value _,..}=>tT
 |_=>fF
end
end Go.Fw
