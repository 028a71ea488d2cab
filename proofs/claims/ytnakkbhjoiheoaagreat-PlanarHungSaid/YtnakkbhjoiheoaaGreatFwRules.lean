/- A text. -/
import Derived.TacticsIn
import Derived.RangeFuncRecord
import Derived.OrdersIn
import Derived.Orders
import Derived.Test.YtnakkbhjoiheoaaGreatFwOps4
set_option linter.all false
set_option maxRecDepth 99999
set_option maxHeartbeats 9999999
open Option renaming some→Z,none→Y
open Bool renaming true→tT,false→fF
open List renaming range→rG
open Go.Value renaming pointer→pT
open Go renaming Value→vV
open List
namespace Go.Fw
structure Cx where
 ex:List (Nat×Obj)
 ds:List Deferred
 ro:Option Nat
def mkOf(b:Nat):Deferred:={target:=.collected b,args:=#[]}
def X0(b:Nat):Nat×Obj:=(b,.deferred (Z []))
def ae8:Option Nat->II->II
 |none,l=>l
 |some _,_=>[]
def keepN_app(r:Option Nat)(a b:II):ae8 r (a++b)=ae8 r a++ae8 r b:=by cases r<;>rfl
def keepN_nil(r:Option Nat):ae8 r []=[]:=by cases r<;>rfl
def Cx.more(c:Cx)(new:II):Cx:={ex:=(ae8 c.ro new).map X0++c.ex,ds:=(ae8 c.ro new).map mkOf++c.ds,ro:=c.ro}
theorem Cx.YS(c:Cx):c.more []=c:=by simp[Cx.more,keepN_nil]
def Cx.C7(c:Cx)(n n':II):(c.more n).more n'=c.more (n'++n):=by simp[Cx.more,keepN_app]
structure St (W0:LA) (cx:Cx) (N:Nat) (m:abd) (fr:aam) (h:aai) (a:Act) (w:World):Prop where
 rel:Rel (W0.add cx.ex) m h w
 frame:FR h.next m fr a.tmps
 defers:a.defers=cx.ds
 size:a.tmps.size=N
 round:∀l,cx.ro=Z l->∃r,(l,Obj.loop r)∈cx.ex++W0.rw
theorem St.nil{W0:LA}{b:Cx}{N:Nat}{m:abd}{fr:aam}{h:aai}{a:Act}{w:World}(s:St W0 b N m fr h a w):St W0 (b.more []) N m fr h a w:=by grind[Cx.YS]
def Xc(ro:Option Nat):Fence:={Fence.wide with round:=ro}
def qN{ro:Option Nat}{n:Nat}{P:Program}{f:FuncId}{args:Array vV}{w:World}{R:Ending->World->Prop}(a:Calls P f args w R):CallsIn (Xc ro) n P f args w R:=callsIn_wide.2 a
theorem ph{ro:Option Nat}{n:Nat}{P:Program}{o:Oper}{a:Act}{w:World}{K:Act->World->Prop}{Q:Exit->Act->World->Prop}(hd:∀c,o.op≠.defer c)(b:o.uponIn (Xc ro) n P a K Q ((execOp a.eval o).run P w)):o.wpIn (Xc ro) n P a w K Q:=⟨fun _ _=>trivial,by grind[Go.Oper.semAt_eq]⟩
def Nw{P:Program}{fr:aam}{h:aai}{o:Oper}{x:vV×aai}(e:abr P fr h o=Z x):∀c,o.op≠.defer c:=by intro c a;unfold abr at e;rw[a]at e;cases e
def ML(P:Program)(W0:LA)(N:Nat)(ops:Array Oper)(l:List Oper)(fr:aam)(h:aai)(Q:aam->aai->Prop):Prop:=
 ∀(b:Cx) nn m a w,St W0 b N m fr h a w->∀K:Exit->Act->World->Prop,
  (∀c fr' h' a' w',ZK h.next m c->h.next<=h'.next->St W0 b N c fr' h' a' w'->Q fr' h'->K .normal a' w')->wpListIn (Xc b.ro) nn P ops K l a w
def ud(P:Program)(W0:LA)(N:Nat)(c:Code)(fr:aam)(h:aai)(Q:Exit->aam->aai->Prop):Prop:=
 ∀(b:Cx) nn m a w,St W0 b N m fr h a w->∀K:Exit->Act->World->Prop,
  (∀new e d fr' h' a' w',ZK h.next m d->h.next<=h'.next->St W0 (b.more new) N d fr' h' a' w'->Q e fr' h'->K e a' w')->c.wpIn (Xc b.ro) nn P K a w
def AC(P:Program)(W0:LA)(f:FuncId)(args:xLV)(h:aai)(R:vV->aai->Prop):Prop:=
 ∀ex m w a,Rel (W0.add ex) m h w->AK h.next m args a->
  Calls P f a.toArray w (fun e w'=>∃v v' b h',e=.returned v'/\Rel (W0.add ex) b h' w'/\ZK h.next m b/\h.next<=h'.next/\VR h'.next b v v'/\R v h')
variable{P:Program}{W0:LA}{N:Nat}{ops:Array Oper}{l:List Oper}{fr:aam}{h:aai}
theorem ud.mono{c:Code}{Q b:Exit->aam->aai->Prop}(d:ud P W0 N c fr h Q)(hQ:∀e fr h,Q e fr h->b e fr h):ud P W0 N c fr h b:=fun f nn m a w s K g=>d f nn m a w s K fun new e i fr' h' a' w' j h2 h3 k=>g new e i fr' h' a' w' j h2 h3 (hQ _ _ _ k)
theorem AC.mono{f:FuncId}{args:xLV}{R R':vV->aai->Prop}(b:AC P W0 f args h R)(hQ:∀v h,R v h->R' v h):AC P W0 f args h R':=fun ex m w a r c=>(b ex m w a r c).mono fun _ _ ⟨v,v',d,h',e,h2,h3,g,i,j⟩=>⟨v,v',d,h',e,h2,h3,g,i,hQ _ _ j⟩
def putDst(N:Nat)(fr:aam)(d:Option Tmp)(v:vV):Option aam:=
 match d with
 |none=>Z fr
 |some d=>if d<N then Z (fr.set d v)else Y
theorem St.put{f:Cx}{m e:abd}{a:Act}{w w':World}(s:St W0 f N m fr h a w){h':aai}(R':Rel (W0.add f.ex) e h' w')(g:ZK h.next m e)(j:h.next<=h'.next){d:Option Tmp}{v v':vV}(n:VR h'.next e v v'){fr':aam}(b:putDst N fr d v=Z fr'):St W0 f N e fr' h' (a.put d v') w':=by
 have F:=s.frame.mono j g;cases d with
 |none=>simp[putDst]at b;subst b;exact⟨R',F,s.defers,s.size,s.round⟩
 |some d=>
  simp only[putDst]at b;split at b
  case isFalse=>cases b
  rename_i Cl;simp at b;subst b;have hd:d<a.tmps.size:=by grind[St.size]
  refine⟨R',fun k u c=>?_,s.defers,by simpa[Act.put]using s.size,s.round⟩;rw[Trie.YO]at c;by_cases i:k=d
  .subst i;rw[WA rfl]at c;injection c with c;subst c;exact⟨v',by simp[Act.put,hd],n⟩
  .rw[IE i]at c;have⟨u',o,h2⟩:=F k u c;exact⟨u',by simp[Act.put,Hs i,o],h2⟩
def ab6(ops:Array Oper)(fr:aam)(o:Oper):Option Bool:=
  match o.guard with
  |none=>Z tT
  |some (j,want)=>match(ops[j]?).bind (·.dst)with
    |some d=>match fr.get d with
      |some (.bool b)=>Z (b==want)
      |some (.tuple _)=>Z fF
      |_=>Y
    |none=>Y
theorem tz{n:Nat}{m:abd}{a:Act}(F:FR n m fr a.tmps){o:Oper}{b:Bool}(e:ab6 ops fr o=Z b):Region.wanted o (yielded ops a.tmps)=b:=by
 unfold ab6 at e;unfold Region.wanted;cases hg:o.guard with
 |none=>grind
 |some p=>
  have⟨j,want⟩:=p;rw[hg]at e;simp only[]at e ⊢;split at e
  .rename_i d hd;split at e
   .rename_i t c;injection e with e;subst e;have⟨v',f,h2⟩:=F d _ c;have:=h2.YE;subst this;simp only[yielded,hd,alK,f];grind
   .rename_i vs c;injection e with e;subst e;have⟨v',f,h2⟩:=F d _ c;obtain⟨g,rfl,_⟩:=h2.Vh;simp[yielded,hd,f]
   .cases e
  .cases e
theorem ML.nil{Q:aam->aai->Prop}(b:Q fr h):ML P W0 N ops [] fr h Q:=fun d nn m a w s _K c=>wpListIn_nil (c m fr h a w (.refl _ _) (qL0 _) s b)
theorem ML.step{o:Oper}{Q:aam->aai->Prop}{v:vV}{h':aai}{fr':aam}(hw:ab6 ops fr o=Z tT)(hs:abr P fr h o=Z (v,h'))(g:putDst N fr o.dst v=Z fr')(i:ML P W0 N ops l fr' h' Q):ML P W0 N ops (o::l) fr h Q:=by
 intro j nn m a w s K k;have⟨n,v',w',b,R',d,e,p⟩:=ae4 (P:=P) (a:=a) s.rel s.frame hs;have q:=s.put R' d e p g;have c:=i j nn n (a.put o.dst v') w' q K fun m2 f h2 a2 w2 r t e3 e4=>k m2 f h2 a2 w2 (d.trans r e) (ff e t) e3 e4;unfold wpListIn;rw[WA (tz s.frame hw)];refine ph (Nw hs) ?_;rcases b with b|⟨b,rfl⟩<;>rw[b]
 .exact c
 .exact c
def ML.skip{o:Oper}{Q:aam->aai->Prop}{fr':aam}(hw:ab6 ops fr o=Z fF)(b:putDst N fr o.dst Yx=Z fr')(c:ML P W0 N ops l fr' h Q):ML P W0 N ops (o::l) fr h Q:=by
 intro d nn m a w s K e;have f:=s.put s.rel (.refl _ _) (qL0 _) (v:=Yx) (v':=undef) (.tuple rfl (fun i v v' h=>by simp at h)) b;unfold wpListIn;rw[IE (by rw[tz s.frame hw];simp)];exact⟨fun _ _=>trivial,c d nn m _ w f K e⟩
def abt(fr:aam)(o:Oper):Option (FuncId×xLV):=
  match o.op with
  |.call {callee:=.value f,args,..}=>match aa6 fr f,acZ fr args.toList with
    |some (.func (.func g) first cap),Z vs=>Z (g,first.toList++vs++cap.toList)
    |_,_=>Y
  |_=>Y
structure Good (P:Program) (f:FuncId) (fn:Func) (c:Code):Prop where
 func:P.funcs[f]?=some fn
 body:fn.body=some c
 name:(fn.name== "runtime.NumGoroutine")=false
theorem ML.call{o:Oper}{Q:aam->aai->Prop}{g:FuncId}{args:xLV}{fn:Func}{c:Code}(hw:ab6 ops fr o=Z tT)(d:abt fr o=Z (g,args))(hg:Good P g fn c)(G:AC P W0 g args h fun v h'=>∃fr',putDst N fr o.dst v=Z fr'/\ML P W0 N ops l fr' h' Q):ML P W0 N ops (o::l) fr h Q:=by
 intro E nn m a w s K H;unfold abt at d;split at d
 .rename_i f as ats r;split at d
  .rename_i F first cap vs hf t
   injection d with d;simp only[abW]at d;obtain⟨rfl,rfl⟩:=d;have n:=Ns s.frame hf;have u:=PZ s.frame t;unfold wpListIn;rw[WA (tz s.frame hw)];refine ph (fun c e=>by grind) ?_
   have key:∃b cap',a.eval f=.func (.func F) b cap'/\AK h.next m first.toList b.toList/\AK h.next m cap.toList cap'.toList:=by
    generalize a.eval f=x at n;cases n with
    |flat hf=>grind[flat]
    |func S h2 h3 I=>exact⟨_,_,rfl,⟨hGr,fun i v v' e e'=>h3 i v v' (by simpa using e) hGr⟩,⟨hGr,fun i v v' e e'=>I i v v' (by simpa using e) hGr⟩⟩
   have⟨b,cap',y,z,A⟩:=key
   have p:(execOp a.eval o).run P w=.ok (.enter F ((b.toList++as.toList.map a.eval++cap'.toList).toArray)) w:=by
    have B:(b++as.map a.eval++cap')=(b.toList++as.toList.map a.eval++cap'.toList).toArray:=by apply qL196.1;simp
    simp only[execOp,r,resolve,y,Deferred.ofValue,Sem.run_bind,Sem.run_pure,Result.andThen_ok,invoke,callFunc,run_program,hg.func,hg.name,aeu,if_false,hg.body,ahS,B]
   rw[p]
   have j:=G E.ex m w (b.toList++as.toList.map a.eval++cap'.toList) s.rel ((z.append u).append A)
   refine⟨(fun J=>by cases J),qN (j.mono ?_)⟩;rintro e w' ⟨v,v',L,h',rfl,R',q,C,M,fr',O,k⟩;exact k E nn L _ w' (s.put R' q C M O) K fun m2 D h2 a2 w2 B R e3 e4=>H m2 D h2 a2 w2 (q.trans B C) (ff C R) e3 e4
  .cases d
 .cases d
def ud.skip{Q:Exit->aam->aai->Prop}(b:Q .normal fr h):ud P W0 N .skip fr h Q:=fun d nn m a w s _K c=>wpIn_skip (c [] .normal m fr h a w (.refl _ _) (qL0 _) s.nil b)
def ud.label{i:Nat}{Q:Exit->aam->aai->Prop}(b:Q .normal fr h):ud P W0 N (.label i) fr h Q:=fun d nn m a w s _K c=>wpIn_label (c [] .normal m fr h a w (.refl _ _) (qL0 _) s.nil b)
def ud.exit{i:Nat}{Q:Exit->aam->aai->Prop}(b:Q (.exit i) fr h):ud P W0 N (.exit i) fr h Q:=fun d nn m a w s _K c=>wpIn_exit (c [] (.exit i) m fr h a w (.refl _ _) (qL0 _) s.nil b)
def ud.ret{Q:Exit->aam->aai->Prop}(b:Q .ret fr h):ud P W0 N .ret fr h Q:=fun d nn m a w s _K c=>wpIn_ret (c [] .ret m fr h a w (.refl _ _) (qL0 _) s.nil b)
def seqQ(P:Program)(W0:LA)(N:Nat)(y:Code)(Q:Exit->aam->aai->Prop):Exit->aam->aai->Prop
 |.normal,fr,h=>ud P W0 N y fr h Q
 |e,fr,h=>Q e fr h
def ud.seq{x y:Code}{Q:Exit->aam->aai->Prop}(p:ud P W0 N x fr h (seqQ P W0 N y Q)):ud P W0 N (.seq x y) fr h Q:=by
 intro d nn m a w s K j;refine wpIn_seq (p d nn m a w s _ fun new e k fr' h' a' w' c f n o=>?_);cases e with
 |normal=>exact o (d.more new) nn k a' w' n K fun b q m2 g h2 a2 w2 r i e3 e4=>j (b++new) q m2 g h2 a2 w2 (c.trans r f) (ff f i) (d.C7 new b▸e3) e4
 |_=>exact j new _ k fr' h' a' w' c f n o
def ud.cond{c:Operand}{x y:Code}{t:Bool}{Q:Exit->aam->aai->Prop}(e:aa6 fr c=Z (.bool t))(f:t=tT->ud P W0 N x fr h Q)(hf:t=fF->ud P W0 N y fr h Q):
  ud P W0 N (.cond c x y) fr h Q:=by
 intro b nn m a w s K d;refine wpIn_cond (t:=t) (Ns s.frame e).YE ?_;cases t with
 |true=>exact f rfl b nn m a w s K d
 |false=>exact hf rfl b nn m a w s K d
def agj(i:Nat)(Q:Exit->aam->aai->Prop):Exit->aam->aai->Prop
 |.exit j,fr,h=>if j=i then Q .normal fr h else Q (.exit j) fr h
 |e,fr,h=>Q e fr h
theorem ud.block{i:Nat}{c:Code}{Q:Exit->aam->aai->Prop}(f:ud P W0 N c fr h (agj i Q)):ud P W0 N (.block i c) fr h Q:=by
 intro g nn m a w s K k;refine wpIn_block (f g nn m a w s _ fun new e n fr' h' a' w' b o p d=>?_);cases e with
 |exit j=>simp only[agj]at d;simp only[Exit.inBlock];grind
 |_=>exact k _ _ n fr' h' a' w' b o p d
def ud.region{i:Nat}{os:List Oper}{Q:Exit->aam->aai->Prop}(c:ML P W0 N os.toArray os fr h (Q .normal)):ud P W0 N (.region i os.toArray fF) fr h Q:=by intro d nn m a w s K e;exact wpIn_region_lit (c d nn m a w s K fun f fr' h' a' w' b g j k=>e [] .normal f fr' h' a' w' b g j.nil k)
def Sub(fr fr':aam):Prop:=∀k v,fr.get k=Z v->fr'.get k=Z v
theorem exists_least(p:Nat->Prop)(a:∃k,p k):∃k,p k/\∀j,p j->k<=j:=by
 have⟨k,b⟩:=a
 induction k using Nat.strongRecOn<;>grind
def aeM(I:Nat->aam->aai->Prop)(k:Nat)(Q:Exit->aam->aai->Prop):Exit->aam->aai->Prop
 |.normal,fr,h=>∃a,a<k/\∃fr',Sub fr' fr/\I a fr' h
 |e,fr,h=>Q e fr h
def ud.loop{c:Code}{Q:Exit->aam->aai->Prop}(I:Nat->aam->aai->Prop)(k0:Nat)(i:aam)(o:Sub i fr)(G:I k0 i h)(H:∀k fr h,I k fr h->ud P W0 N c fr h (aeM I k Q)):ud P W0 N (.loop c) fr h Q:=by
 intro t nn m a w s K L
 let J:Nat->Act->World->Prop:=fun k a' w'=>∃new C fr' h',ZK h.next m C/\h.next<=h'.next/\St W0 (t.more new) N C fr' h' a' w'/\I k fr' h'
 let μ:Act->World->Nat:=fun a' w'=>@dite _ (∃k,J k a' w') (Classical.propDecidable _) (fun d=>Classical.choose (exists_least _ d)) (fun _=>0);have D:∀a' w',(d:∃k,J k a' w')->J (μ a' w') a' w'/\∀j,J j a' w'->μ a' w'<=j:=by
  intro a' w' d;have:μ a' w'=Classical.choose (exists_least _ d):=by simp only[μ];rw[dif_pos d]
  rw[this];exact Classical.choose_spec (exists_least _ d)
 refine wpIn_loop (fun a' w'=>∃k,J k a' w') μ ⟨k0,[],m,i,h,.refl _ _,qL0 _,St.nil ⟨s.rel,fun k v e=>s.frame k v (o k v e),s.defers,s.size,s.round⟩,G⟩ ?_;intro a1 w1 d;have⟨⟨p,m1,u,M,f,b,s1,O⟩,_⟩:=D a1 w1 d;refine H _ u M O (t.more p) nn m1 a1 w1 s1 _ fun E e m2 x h2 a2 w2 g q s2 F=>?_;rw[t.C7]at s2;cases e with
 |normal=>have⟨r,y,z,n,A⟩:=F;have B:J r a2 w2:=⟨_,m2,z,h2,f.trans g b,ff b q,⟨s2.rel,fun k v e=>s2.frame k v (n k v e),s2.defers,s2.size,s2.round⟩,A⟩;exact⟨⟨r,B⟩,alO ((D a2 w2 ⟨r,B⟩).2 r B) y⟩
 |_=>exact L _ _ m2 x h2 a2 w2 (f.trans g b) (ff b q) s2 F
def ad7(P:Program)(fr:aam)(h:aai):ResultVar->Option vV
  |.tmp t=>fr.get t
  |.cell a t=>match fr.get a with
    |some (pT (Z ad))=>aaC P h t ad
    |_=>Y
def acf(P:Program)(fr:aam)(h:aai):List ResultVar->Option xLV
  |[]=>Z []
  |r::rs=>match ad7 P fr h r with
    |some v=>match acf P fr h rs with|some l=>Z (v::l)|none=>Y
    |none=>Y
def acD(P:Program)(fr:aam)(h:aai)(rs:List ResultVar):Option vV:=
 match acf P fr h rs with
 |some [v]=>Z v
 |some l=>Z (.tuple l.toArray)
 |none=>Y
def zc(tmps:Array vV):ResultVar->Sem vV
 |.tmp t=>Pure.pure (tmps.getD t undef)
 |.cell x t=>do loadVar t (<-asAddr (tmps.getD x undef))
def sR(fn:Func)(tmps:Array vV):results fn tmps=(fn.results.mapM (zc tmps) >>= fun vs=>Pure.pure (if h:vs.size=1 then vs[0]else .tuple vs)):=by unfold results;congr 2
def aeN{g:Cx}{m:abd}{a:Act}{w:World}(s:St W0 g N m fr h a w){r:ResultVar}{v:vV}(e:ad7 P fr h r=Z v):
  ∃v',(zc a.tmps r).run P w=.ok v' w/\VR h.next m v v':=by
 cases r with
 |tmp t=>have⟨v',b,h2⟩:=s.frame t v e;exact⟨v',by simp[zc,Ex,b],h2⟩
 |cell x t=>
  simp only[ad7]at e;split at e
  .rename_i ad c;have⟨v',b,h2⟩:=s.frame x _ c;obtain⟨a',rfl,d⟩:=h2.AP;have⟨f,h3,i⟩:=s.rel.loadVar (P:=P) d e;exact⟨f,by simp[zc,Ex,b,asAddr,h3],i⟩
  .cases e
def C6{b:Cx}{m:abd}{a:Act}{w:World}(s:St W0 b N m fr h a w):∀{rs:List ResultVar}{l:xLV},acf P fr h rs=Z l->
  ∃l',(rs.mapM (zc a.tmps)).run P w=.ok l' w/\AK h.next m l l'
 |[],l,e=>by simp[acf]at e;subst e;exact⟨[],Ma,.nil _ _⟩
 |r::rs,l,e=>by
  simp only[acf]at e;split at e
  .rename_i v c;split at e
   .rename_i l0 d;injection e with e;subst e;have⟨v',f,h2⟩:=aeN s c;have⟨l',h3,g⟩:=C6 s d;refine⟨v'::l',?_,.cons h2 g⟩;simp only[mapM_cons,Sem.run_bind,Sem.run_pure,f,h3,Result.andThen_ok]
   .cases e
  .cases e
theorem Hm{d:Cx}{m:abd}{a:Act}{w:World}(s:St W0 d N m fr h a w){fn:Func}{v:vV}(e:acD P fr h fn.results.toList=Z v):
  ∃v',(results fn a.tmps).run P w=.ok v' w/\VR h.next m v v':=by
 unfold acD at e
 have key:∀l,acf P fr h fn.results.toList=Z l->∃l',(results fn a.tmps).run P w=.ok (if f:l'.toArray.size=1 then l'.toArray[0]else .tuple l'.toArray) w/\AK h.next m l l':=by intro l b;have⟨l',c,h2⟩:=C6 s b;refine⟨l',?_,h2⟩;rw[sR,qL221,map_eq_pure_bind];simp only[Sem.run_bind];rw[c];rfl
 split at e
 .rename_i u b;injection e with e;subst e;have⟨l',c,h2⟩:=key _ b
  match l',h2 with
  |[v'],h2=>exact⟨v',c,h2.2 0 u v' rfl rfl⟩
  |[],h2|_::_::_,h2=>grind[AK]
 .rename_i l g b;injection e with e;subst e;have⟨l',c,h2⟩:=key _ b;refine⟨.tuple l'.toArray,?_,.qY hGr⟩;rw[c];have:¬(l'.toArray.size=1):=by
   intro f;have hlen:l.length=1:=by rw[h2.1];grind
   match l,hlen with
   |[u],_=>grind
  grind
 .cases e
def aeI(k:Nat)(fr:aam):xLV->aam
 |[]=>fr
 |v::r=>aeI (k+1) (fr.set k v) r
def me(args:xLV):aam:=aeI 0 .leaf args
theorem NZ:∀(args:xLV)(k:Nat)(fr:aam)(j:Nat)(v:vV),(aeI k fr args).get j=Z v->(fr.get j=Z v/\(j<k\/k+args.length<=j))\/(k<=j/\args[j-k]?=Z v)
 |[],k,fr,j,v,h=>by grind[aeI]
 |u::r,k,fr,j,v,h=>by
  simp only[aeI]at h;rcases NZ r (k+1) (fr.set k u) j v h with⟨a,h2⟩|⟨a,h2⟩
  all_goals grind[Trie.YO]
theorem Rel.aly{m:abd}{w:World}{W:World}{n0:Nat}{m0:abd}{A Z:List (Nat×Obj)}{b:Nat}{o:Obj}(e:Obj)(R:Rel ⟨W,A++(b,o)::Z,n0,m0⟩ m h w):Rel ⟨W,A++(b,e)::Z,n0,m0⟩ m h (w.putObj b e):=by
 have c:(b,o)∈A++(b,o)::Z:=by simp
 have hb:b<w.heap.size:=R.aah.lt c;have g:W.heap.size<=b:=R.aah.hi b o c;have hd:((A++(b,o)::Z).map (·.1)).Nodup:=R.aah.VM;have j:((A++(b,e)::Z).map (·.1)).Nodup:=hGr;have d:∀x y,(x,y)∈A++(b,e)::Z->(x=b/\y=e)\/(x≠b/\(x,y)∈A++(b,o)::Z):=hGr;have n:∀i,h.own i≠Y->(m i).blk≠b:=fun i hi=>R.aah.apart b o i c hi
 refine⟨by simpa using R.size,fun k q=>?_,R.ext,R.lt,R.new,fun i x hi=>?_,R.inj,R.os,R.output,R.tape,⟨R.aah.agree,R.aah.next,j,fun x y f=>?_,fun x y f=>?_,fun x y i f hi=>?_⟩⟩
 .rw[World.putObj_heap_other hGr];exact R.qi k q
 .exact Rel.JP (R.own i x hi) (qL0 _) (ZK.refl _ _) (World.putObj_heap_other (n i (by rw[hi];simp)))
 .rcases d x y f with⟨rfl,rfl⟩|⟨_,a⟩
  .exact g
  .exact R.aah.hi x y a
 .rcases d x y f with⟨rfl,rfl⟩|⟨p,a⟩
  .exact World.putObj_heap_same hb
  .rw[World.putObj_heap_other p];exact R.aah.held x y a
 .rcases d x y f with⟨rfl,rfl⟩|⟨_,a⟩
  .grind
  .exact R.aah.apart x y i a hi
theorem Rel.Ih{m:abd}{w:World}{W:World}{rw:List (Nat×Obj)}{n0 n1:Nat}{m0 m1:abd}(R:Rel ⟨W,rw,n0,m0⟩ m h w)(ha:ZK n1 m1 m)(a:n1<=h.next):Rel ⟨W,rw,n1,m1⟩ m h w:=⟨R.size,R.qi,R.ext,R.lt,R.new,R.own,R.inj,R.os,R.output,R.tape,⟨ha,a,R.aah.VM,R.aah.hi,R.aah.held,R.aah.apart⟩⟩
theorem Rel.less{m:abd}{w:World}{W:World}{n0:Nat}{m0:abd}{x:Nat×Obj}{Z:List (Nat×Obj)}(R:Rel ⟨W,x::Z,n0,m0⟩ m h w):Rel ⟨W,Z,n0,m0⟩ m h w:=⟨R.size,R.qi,R.ext,R.lt,R.new,R.own,R.inj,R.os,R.output,R.tape,⟨R.aah.agree,R.aah.next,by have:=R.aah.VM;grind,fun b o hb=>R.aah.hi b o (.tail _ hb),fun b o hb=>R.aah.held b o (.tail _ hb),fun b o i hb hi=>R.aah.apart b o i (.tail _ hb) hi⟩⟩
theorem Df{fn:Func}{tmps:Array vV}{m:abd}{R:Ending->World->Prop}{ex:List (Nat×Obj)}:∀(new:II){w:World},Rel (W0.add (new.map X0++ex)) m h w->
  (∀w',Rel (W0.add ex) m h w'->LeavesInM Fence.wide 0 P fn tmps R [] .returning w')->LeavesInM Fence.wide 0 P fn tmps R (new.map mkOf) .returning w
 |[],w,r,a=>a w r
 |b::new,w,r,a=>by
  refine⟨Ma,.inl ⟨b,_,rfl,run_takeDeferred (ds:=[]) (r.aah.held b _ (by simp[LA.add,X0])),Df new ?_ a⟩⟩;have r2:Rel ⟨W0.toWorld,[]++(b,.deferred (Z []))::((new.map X0++ex)++W0.rw),W0.n0,W0.m0⟩ m h w:=by grind[LA.add,X0]
  exact(r2.aly (.deferred Y)).less
theorem AC.body{f:FuncId}{args:xLV}{fn:Func}{c:Code}{R:vV->aai->Prop}(hg:Good P f fn c)(hlen:args.length<=fn.ntmps)(o:ud P W0 fn.ntmps c (me args) h fun e fr' h'=>(e=.normal\/e=.ret)/\∃v,acD P fr' h' fn.results.toList=Z v/\R v h'):AC P W0 f args h R:=by
 intro ex m w a r p;refine callsIn_wide.1 (callsIn_of_wp_marks (n:=0) hg.func hg.body trivial ?_);have s:St W0 ⟨ex,[],Y⟩ fn.ntmps m (me args) h {tmps:=a.toArray++Array.replicate (fn.ntmps-a.toArray.size) undef,defers:=[]} w:=by
  refine⟨r,fun k v g=>?_,rfl,?_,fun l e=>by cases e⟩
  .rcases NZ args 0 .leaf k v g with⟨j,_⟩|⟨_,h2⟩
   all_goals grind[Trie.get,AK.get]
  .have:=p.1;simp;omega
 refine o ⟨ex,[],Y⟩ 0 m _ w s _ fun new e b fr' h' a' w' i q d t=>?_;have⟨u,v,g,hR⟩:=t;have sw:∀w2,Rel (W0.add ex) b h' w2->St W0 ⟨ex,[],Y⟩ fn.ntmps b fr' h' {tmps:=a'.tmps,defers:=[]} w2:=fun w2 r2=>⟨r2,d.frame,rfl,d.size,fun l e=>by cases e⟩
 have x:LeavesInM Fence.wide 0 P fn a'.tmps (fun e w'=>∃v v' b h',e=.returned v'/\Rel (W0.add ex) b h' w'/\ZK h.next m b/\h.next<=h'.next/\VR h'.next b v v'/\R v h') a'.defers .returning w':=by
  have hd:a'.defers=new.map mkOf:=by simpa[Cx.more,ae8]using d.defers
  have y:Rel (W0.add (new.map X0++ex)) b h' w':=by simpa[Cx.more,ae8]using d.rel
  rw[hd];refine Df new y fun w2 r2=>?_;have⟨v',j,h2⟩:=Hm (fn:=fn) (sw w2 r2) g;exact⟨v',j,v,v',b,h',rfl,r2,i,q,h2,hR⟩
 rcases u with rfl|rfl<;>exact x
section
variable{P:Program}{W0:LA}{N:Nat}{ops:Array Oper}{l:List Oper}{fr:aam}{h:aai}
def Yg(l:Nat):vV:=.func (.yield l) #[] #[]
def AY(P:Program)(W0:LA)(b:Nat)(args:xLV)(h:aai)(R:vV->aai->Prop):Prop:=
 ∀ex ro nn m w a,Rel (W0.add ex) m h w->AK h.next m args a->
  ∃f tmps assign body,(Instr.yield b a.toArray).run P w=.ok (.round b f tmps assign body) w/\
   RoundIn (Xc ro) nn P b f tmps assign body w (fun e w'=>∃v v' c h',e=.returned v'/\Rel (W0.add ex) c h' w'/\ZK h.next m c/\h.next<=h'.next/\VR h'.next c v v'/\R v h')
theorem AY.mono{b:Nat}{args:xLV}{R R':vV->aai->Prop}(c:AY P W0 b args h R)(hQ:∀v h,R v h->R' v h):AY P W0 b args h R':=
 fun ex ro nn m w a r d=>let⟨f,tmps,assign,body,e,h2⟩:=c ex ro nn m w a r d
  ⟨f,tmps,assign,body,e,h2.mono fun _ _ ⟨v,v',g,h',a1,a2,i,j,k,n⟩=>⟨v,v',g,h',a1,a2,i,j,k,hQ _ _ n⟩⟩
def AY.post{b:Nat}{args:xLV}{R:vV->aai->Prop}(c:AY P W0 b args h R):AY P W0 b args h fun v h'=>(∀i,h'.own i≠Y->i<h'.next)/\R v h':=
 fun ex ro nn m w a r d=>let⟨f,tmps,assign,body,e,h2⟩:=c ex ro nn m w a r d
  ⟨f,tmps,assign,body,e,h2.mono fun _ _ ⟨v,v',g,h',a1,a2,j,k,n,o⟩=>⟨v,v',g,h',a1,a2,j,k,n,a2.lt,o⟩⟩
def yieldOf(fr:aam)(o:Oper):Option (Nat×xLV):=
  match o.op with
  |.call {callee:=.value f,args,..}=>match aa6 fr f,acZ fr args.toList with
    |some (.func (.yield g) first _),Z vs=>Z (g,first.toList++vs)
    |_,_=>Y
  |_=>Y
theorem ML.yield{o:Oper}{Q:aam->aai->Prop}{E:Nat}{args:xLV}(hw:ab6 ops fr o=Z tT)(d:yieldOf fr o=Z (E,args))(G:AY P W0 E args h fun v h'=>∃fr',putDst N fr o.dst v=Z fr'/\ML P W0 N ops l fr' h' Q):ML P W0 N ops (o::l) fr h Q:=by
 intro r nn m a w s K H;unfold yieldOf at d;split at d
 .rename_i f as ats t;split at d
  .rename_i F first cap vs hf u
   injection d with d;simp only[abW]at d;obtain⟨rfl,rfl⟩:=d;have n:=Ns s.frame hf;have y:=PZ s.frame u;unfold wpListIn;rw[WA (tz s.frame hw)];refine ph (fun c e=>by grind) ?_
   have key:∃b cap',a.eval f=.func (.yield F) b cap'/\AK h.next m first.toList b.toList:=by
    generalize a.eval f=x at n;cases n with
    |flat hf=>grind[flat]
    |func S h2 h3 T=>exact⟨_,_,rfl,⟨hGr,fun i v v' e e'=>h3 i v v' (by simpa using e) hGr⟩⟩
   have⟨b,cap',z,A⟩:=key
   have⟨I,tmps,assign,body,j,g⟩:=G r.ex r.ro (nn-1) m w (b.toList++as.toList.map a.eval) s.rel (A.append y)
   have p:(execOp a.eval o).run P w=.ok (.round F I tmps assign body) w:=by
    have B:(b++as.map a.eval)=(b.toList++as.toList.map a.eval).toArray:=hGr
    simp only[execOp,t,resolve,z,Deferred.ofValue,Sem.run_bind,Sem.run_pure,Result.andThen_ok,invoke,B,j]
   rw[p];refine⟨(fun J=>by cases J),g.mono ?_⟩;rintro e w' ⟨v,v',L,h',rfl,R',q,C,M,fr',O,k⟩;exact k r nn L _ w' (s.put R' q C M O) K fun m2 D h2 a2 w2 B R e3 e4=>H m2 D h2 a2 w2 (q.trans B C) (ff C R) e3 e4
  .cases d
 .cases d
def aeJ:List Tmp->xLV->aam->aam
 |p::ps,v::vs,fr=>aeJ ps vs (fr.set p v)
 |_,_,fr=>fr
theorem FC{n:Nat}{m:abd}:∀{ps:List Tmp}{vs a:xLV}{fr:aam}{tmps:Array vV},FR n m fr tmps->AK n m vs a->(∀p∈ps,p<tmps.size)->
  FR n m (aeJ ps vs fr) ((ps.zip a).foldl (fun tmps x=>tmps.setIfInBounds x.1 x.2) tmps)/\((ps.zip a).foldl (fun tmps x=>tmps.setIfInBounds x.1 x.2) tmps).size=tmps.size
 |[],vs,a,fr,tmps,F,_,_=>⟨by simpa[aeJ]using F,rfl⟩
 |p::ps,[],a,fr,tmps,F,b,_=>by have:a=[]:=im (by rw[<-b.1];rfl);subst this;exact⟨by simpa[aeJ]using F,rfl⟩
 |p::ps,v::vs,[],fr,tmps,F,b,_=>by grind[AK]
 |p::ps,v::vs,v'::a,fr,tmps,F,b,d=>by
  have j:VR n m v v':=b.2 0 v v' rfl rfl;have e:AK n m vs a:=by simpa using b.drop 1
  have f:=d p Ma;have g:FR n m (fr.set p v) (tmps.setIfInBounds p v'):=fun k u c=>by
   rw[Trie.YO]at c;by_cases i:k=p
   .grind
   .rw[IE i]at c;have⟨u',o,r⟩:=F k u c;grind
  have:=FC (ps:=ps) g e (fun q s=>by grind);simpa[aeJ]using this
theorem Rel.push{m:abd}{w:World}{W:World}{n0:Nat}{m0:abd}{rw:List (Nat×Obj)}(R:Rel ⟨W,rw,n0,m0⟩ m h w)(o:Obj):Rel ⟨W,(w.heap.size,o)::rw,n0,m0⟩ m h (w.alloc o):=by
 have b:∀x y,(x,y)∈rw->x<w.heap.size:=fun x y a=>R.aah.lt a;have c:W.heap.size<=w.heap.size:=R.size
 refine⟨by have:=R.size;simp at this ⊢;omega,fun k d=>?_,R.ext,R.lt,R.new,fun i x hi=>?_,R.inj,R.os,R.output,R.tape,⟨R.aah.agree,R.aah.next,?_,fun x y a=>?_,fun x y a=>?_,fun x y i a hi=>?_⟩⟩
 .rw[heap_alloc_old w _ k hGr];exact R.qi k d
 .exact Rel.JP (R.own i x hi) (qL0 _) (ZK.refl _ _) (heap_alloc_old w _ _ (R.Hc (by rw[hi];simp)))
 .rw[QD,xD];refine⟨fun a=>?_,R.aah.VM⟩;grind
 .rcases qL7.1 a with a|a
  .grind
  .exact R.aah.hi x y a
 .rcases qL7.1 a with a|a
  .grind[Go.heap_alloc_new]
  .rw[heap_alloc_old w _ x (b x y a)];exact R.aah.held x y a
 .rcases qL7.1 a with a|a
  .grind[Rel.Hc]
  .exact R.aah.apart x y i a hi
def TW(st:LoopState)(f:FuncId)(tmps:Array vV)(ps:Array Tmp)(assign body:Code)(D:Nat):Loop:={state:=st,pending:=Y,fn:=f,tmps:=tmps,params:=ps,assign:=assign,body:=body,defers:=D}
theorem enter_rel{b:Cx}{m:abd}{a:Act}{w:World}(s:St W0 b N m fr h a w)(f:FuncId)(ps:Array Tmp)(assign body:Code):
  ∃e mark w1 D new,(Instr.enterLoop f a.tmps ps assign body b.ro).run P w=.ok (e,mark) w1/\Rel (W0.add ((e,.loop (TW .ready f a.tmps ps assign body D))::(b.more new).ex)) m h w1/\mark++b.ds=(b.more new).ds:=by
 cases d:b.ro with
 |none=>
  refine⟨_,_,_,w.heap.size,[w.heap.size],run_enterLoop_outer f a.tmps ps assign body,?_,?_⟩
  .have r1:Rel ⟨W0.toWorld,b.ex++W0.rw,W0.n0,W0.m0⟩ m h w:=s.rel;grind[Rel.push,TW,Go.World.size_alloc,LA.add,Cx.more,ae8,X0]
  grind[Cx.more,ae8,mkOf]
 |some l'=>
  have⟨r,g⟩:=s.round l' d;have c:w.heap[l']?=Z (.loop r):=s.rel.aah.held l' _ g;refine⟨w.heap.size,[],w.alloc (.loop (TW .ready f a.tmps ps assign body r.defers)),r.defers,[],?_,?_,?_⟩
  .unfold Instr.enterLoop;simp only[Sem.run_bind,run_getLoop c,Result.andThen,Sem.run_pure,run_newObj_alloc];rfl
  .have r1:Rel ⟨W0.toWorld,b.ex++W0.rw,W0.n0,W0.m0⟩ m h w:=s.rel;rw[Cx.YS];exact r1.push (.loop (TW .ready f a.tmps ps assign body r.defers))
  grind[Cx.YS]
def Rnd(P:Program)(W0:LA)(N:Nat)(ps:Array Tmp)(fr:aam)(assign body:Code)(args:xLV)(h:aai)(R:vV->aai->Prop):Prop:=ud P W0 N assign (aeJ ps.toList args fr) h fun e a h2=>e=.normal/\ud P W0 N body a h2 fun e _ h3=>e=.normal/\R (.bool tT) h3
theorem zip_fold(ps:Array Tmp)(vs:xLV)(tmps:Array vV):(ps.zip vs.toArray).foldl (fun tmps (x:Tmp×vV)=>tmps.setIfInBounds x.1 x.2) tmps=(ps.toList.zip vs).foldl (fun tmps x=>tmps.setIfInBounds x.1 x.2) tmps:=by grind[Array.toList_zip]
theorem AY.of_round{ps:Array Tmp}{assign body:Code}{m:abd}{tmps:Array vV}{ex:List (Nat×Obj)}{a D:Nat}{f:FuncId}{args:xLV}{t:aai}{R:vV->aai->Prop}(F:FR h.next m fr tmps)(M:tmps.size=N)(O:∀p∈ps.toList,p<N)(hlen:args.length=ps.size)(z:ZK W0.n0 W0.m0 m)(v:W0.n0<=h.next)(A:h.next<=t.next)(Q:Rnd P W0 N ps fr assign body args t R):
  AY P ⟨W0.toWorld,(a,.loop (TW .ready f tmps ps assign body D))::(ex++W0.rw),h.next,m⟩ a args t R:=by
 intro b ro nn m1 w1 g S I
 have B:Rel ⟨W0.toWorld,b++(a,.loop (TW .ready f tmps ps assign body D))::(ex++W0.rw),h.next,m⟩ m1 t w1:=S
 have w:ZK h.next m m1:=B.aah.agree
 have u:=B.aah.held a _ (by simp:(a,Obj.loop (TW .ready f tmps ps assign body D))∈b++(a,.loop (TW .ready f tmps ps assign body D))::(ex++W0.rw));have C:g.length=ps.size:=by rw[<-I.1];exact hlen
 refine⟨f,_,assign,body,run_yield u (by grind[TW]),?_⟩;have T:=F.mono A w;have q:=FC (ps:=ps.toList) T I (fun p X=>by grind);refine roundIn_of_wpIn trivial ?_
 have key:∀{st:LoopState}{m2:abd}{h2:aai}{w2:World},Rel ⟨W0.toWorld,b++(a,.loop (TW st f tmps ps assign body D))::(ex++W0.rw),h.next,m⟩ m2 h2 w2->
   Rel (W0.add (b++(a,.loop (TW st f tmps ps assign body D))::ex)) m2 h2 w2:=by
  intro st m2 h2 w2 r
  have:=r.Ih (n1:=W0.n0) (m1:=W0.m0) (z.trans r.aah.agree v) (ff v r.aah.next)
  grind[LA.add]
 have back:∀{st:LoopState}{m2:abd}{h2:aai}{w2:World},Rel (W0.add (b++(a,.loop (TW st f tmps ps assign body D))::ex)) m2 h2 w2->ZK t.next m1 m2->t.next<=h2.next->
   Rel ⟨W0.toWorld,b++(a,.loop (TW st f tmps ps assign body D))::(ex++W0.rw),h.next,m⟩ m2 h2 w2:=by grind[LA.add,Rel.Ih,ZK.trans]
 let c:LoopState->Cx:=fun st=>⟨b++(a,.loop (TW st f tmps ps assign body D))::ex,[],Z a⟩;have i:∀st new,(c st).more new=c st:=fun st new=>rfl;have d:∀st l,(c st).ro=Z l->∃r,(l,Obj.loop r)∈(c st).ex++W0.rw:=fun st l e=>by grind
 have s1:St W0 (c .ready) N m1 (aeJ ps.toList args fr) t {tmps:=(ps.zip g.toArray).foldl (fun tmps (x:Tmp×vV)=>tmps.setIfInBounds x.1 x.2) tmps,defers:=[]} w1:=by rw[zip_fold];exact⟨key B,q.1,rfl,q.2.trans M,d _⟩
 refine Q (c .ready) nn m1 _ w1 s1 _ fun new e m2 E h2 a2 w2 j k s2 G=>?_;obtain⟨rfl,G⟩:=G;rw[i]at s2;have J:=back s2.rel j k;have n:=J.aah.held a _ (by simp:(a,Obj.loop (TW .ready f tmps ps assign body D))∈b++(a,.loop (TW .ready f tmps ps assign body D))::(ex++W0.rw));refine⟨_,run_beginRound n rfl,?_⟩;have U:=J.aly (.loop (TW .busy f tmps ps assign body D));have V:St W0 (c .busy) N m2 E h2 a2 (w2.putObj a (.loop (TW .busy f tmps ps assign body D))):=⟨key U,s2.frame,s2.defers,s2.size,d _⟩;refine G (c .busy) nn m2 _ _ V _ fun new3 e3 m3 W h3 a3 w3 s y K H=>?_;obtain⟨rfl,hR⟩:=H;rw[i]at K;have L:=back K.rel (j.trans s k) (ff k y);have o:=L.aah.held a _ (by simp:(a,Obj.loop (TW .busy f tmps ps assign body D))∈b++(a,.loop (TW .busy f tmps ps assign body D))::(ex++W0.rw));refine⟨_,_,run_endRound Y o,.bool tT,.bool tT,m3,h3,rfl,?_,j.trans s k,ff k y,.flat rfl,hR⟩;exact L.aly (.loop (TW .ready f tmps ps assign body D))
theorem ud.rangeFunc{g:Operand}{ps:Array Tmp}{assign body:Code}{Q:Exit->aam->aai->Prop}{gf:FuncId}{fn:Func}{c:Code}{first cap:Array vV}(hg:aa6 fr g=Z (.func (.func gf) first cap))(f:Good P gf fn c)(B:ps.toList.all (fun p=>Nat.blt p N)=tT)(C:∀(M:LA)(d:Nat),(∀(args:xLV)(t:aai)(R:vV->aai->Prop),args.length=ps.size->h.next<=t.next->Rnd P W0 N ps fr assign body args t R->AY P M d args t R)->
   AC P M gf (first.toList++[Yg d]++cap.toList) h fun _ h'=>Q .normal fr h'):ud P W0 N (.rangeFunc g ps assign body) fr h Q:=by
 intro A nn m a w s K T;refine wpIn_rangeFunc fun j _=>?_;obtain⟨d,mark,w1,D,new,k,U,E⟩:=enter_rel s j ps assign body;have u:=Ns s.frame hg
 have key:∃b cap',a.eval g=.func (.func gf) b cap'/\AK h.next m first.toList b.toList/\AK h.next m cap.toList cap'.toList:=by
  generalize a.eval g=x at u;cases u with
  |flat hf=>grind[flat]
  |func t h2 h3 V=>exact⟨_,_,rfl,⟨hGr,fun i v v' e e'=>h3 i v v' (by simpa using e) hGr⟩,⟨hGr,fun i v v' e e'=>V i v v' (by simpa using e) hGr⟩⟩
 obtain⟨b,cap',F,G,H⟩:=key
 have y:∀p∈ps.toList,p<N:=fun p W=>by have:=vY.1 B p W;simpa using this
 have z:ZK W0.n0 W0.m0 m:=s.rel.aah.agree
 have n:W0.n0<=h.next:=s.rel.aah.next
 have I:=C ⟨W0.toWorld,(d,.loop (TW .ready j a.tmps ps assign body D))::((A.more new).ex++W0.rw),h.next,m⟩ d
  (fun args t R hlen J X=>AY.of_round s.frame s.size y hlen z n J X)
 have o:=I [] m w1 (b.toList++[Yg d]++cap'.toList) ?_ ((G.append (.cons (.func rfl rfl (fun i v v' e=>by simp at e) (fun i v v' e=>by simp at e)) (.nil _ _))).append H)
 .refine⟨d,mark,w1,{target:=.fn (.func gf) cap',args:=b++#[Yg d]},w1,gf,(b.toList++[Yg d]++cap'.toList).toArray,w1,k,?_,fun _ _=>trivial,?_,(fun hx=>by cases hx),qN (o.mono ?_)⟩
  .simp only[resolve,F,Deferred.ofValue,Sem.run_pure];simp[Act.eval,Yg]
  .have e1:b++#[Yg d]++cap'=(b.toList++[Yg d]++cap'.toList).toArray:=by
    apply qL196.1;simp
   simp only[invoke,callFunc,Sem.run_bind,Sem.run_pure,run_program,f.func,f.name,aeu,if_false,f.body,ahS,e1,Result.andThen_ok]
  .rintro e w' ⟨v,v',O,h',rfl,R',q,L,hv,hq⟩
   have S:Rel ⟨W0.toWorld,[]++(d,.loop (TW .ready j a.tmps ps assign body D))::((A.more new).ex++W0.rw),h.next,m⟩ O h' w':=R'
   have r:=S.aah.held d _ (by simp:(d,Obj.loop (TW .ready j a.tmps ps assign body D))∈[]++(d,.loop (TW .ready j a.tmps ps assign body D))::((A.more new).ex++W0.rw));refine⟨Y,_,run_endLoop r (by simp[TW]),?_⟩;have q2:=(S.aly (.loop {TW .ready j a.tmps ps assign body D with state:=.exhausted})).less.Ih (n1:=W0.n0) (m1:=W0.m0) (z.trans q n) (ff n L);refine T new .normal O fr h' _ _ q L ⟨q2,s.frame.mono L q,?_,s.size,fun l e=>?_⟩ hq
   .grind[St.defers]
   grind[St.round,Cx.more]
 .have r1:Rel ⟨W0.toWorld,(d,.loop (TW .ready j a.tmps ps assign body D))::((A.more new).ex++W0.rw),W0.n0,W0.m0⟩ m h w1:=U;exact r1.Ih (ZK.refl _ _) (qL0 _)
def Zm(o:Oper):Bool:=
 match o.op with
 |.call {callee:=.value _,..}=>tT
 |_=>fF
end
section
variable{P:Program}{W0:LA}{N:Nat}{ops:Array Oper}{fr:aam}{h:aai}
theorem aM{fr fr':aam}{x:Operand}(a:∀t,x=.tmp t->fr'.get t=fr.get t):aa6 fr' x=aa6 fr x:=by
 cases x with
 |tmp t=>exact a t rfl
 |_=>rfl
theorem YK{fr fr':aam}:∀{l:List Operand},(∀t,Operand.tmp t∈l->fr'.get t=fr.get t)->acZ fr' l=acZ fr l
 |[],_=>rfl
 |x::r,a=>by simp only[acZ];rw[aM (fun t e=>a t (by simp[e])),YK (fun t e=>a t (by simp[e]))]
theorem MU{fr fr':aam}:∀{l:List (Nat×Operand)},(∀t,Operand.tmp t∈l.map (·.2)->fr'.get t=fr.get t)->aeb fr' l=aeb fr l
 |[],_=>rfl
 |(i,x)::r,a=>by simp only[aeb];rw[aM (fun t e=>a t (by simp[e])),MU (fun t e=>a t hGr)]
theorem tt{fr fr':aam}{x:Option Operand}(a:∀t,x=Z (.tmp t)->fr'.get t=fr.get t):aec fr' x=aec fr x:=by
 cases x<;>grind[aec,aM]
theorem qP{o:Oper}{t:Tmp}(h:Operand.tmp t∈o.op.operands.toList):t∈o.looksAt ops:=by unfold Oper.looksAt;grind
theorem yE{fr fr':aam}{o:Oper}(g:∀t,t∈o.looksAt ops->fr'.get t=fr.get t):abr P fr' h o=abr P fr h o:=by
 have d:∀t,Operand.tmp t∈o.op.operands.toList->fr'.get t=fr.get t:=fun t j=>g t (qP j);unfold abr;cases m:o.op<;>rw[m]at d<;>simp only[Op.operands]at d
 case call c=>
  cases c with
  |mk callee args ats=>
   cases callee with
   |builtin b=>simp only[Call.operands]at d;grind[YK]
   |_=>rfl
 case pick c a b=>grind[aM]
 case build t ps=>grind[MU]
 case buildSlice t n ps=>grind[MU]
 case makeFunc f a b=>grind[YK]
 case slice t x l hh mm=>simp only[];rw[aM (x:=x) (fun t e=>d t (by simp[e])),tt (x:=l) (fun t e=>d t (by simp[e])),tt (x:=hh) (fun t e=>d t (by simp[e])),tt (x:=mm) (fun t e=>d t (by simp[e]))]
 case lookup t x i ok=>grind[aM]
 case mapUpdate t x k y=>grind[aM]
 all_goals first
  |rfl
  |(rename_i x;simp only[];rw[aM (x:=x) (fun t e=>d t (by simp[e]))];done)
  |(rename_i _ x;simp only[];rw[aM (x:=x) (fun t e=>d t (by simp[e]))];done)
  |(rename_i x _;simp only[];rw[aM (x:=x) (fun t e=>d t (by simp[e]))];done)
  |(rename_i _ x _;simp only[];rw[aM (x:=x) (fun t e=>d t (by simp[e]))];done)
  |(rename_i _ _ x;simp only[];rw[aM (x:=x) (fun t e=>d t (by simp[e]))];done)
  |(rename_i _ x y;simp only[];rw[aM (x:=x) (fun t e=>d t (by simp[e])),aM (x:=y) (fun t e=>d t (by simp[e]))];done)
  |grind[aM]
theorem Us{fr fr':aam}{o:Oper}(a:∀t,t∈o.looksAt ops->fr'.get t=fr.get t):ab6 ops fr' o=ab6 ops fr o:=by
 unfold ab6;cases hg:o.guard with
 |none=>rfl
 |some p=>
  have⟨j,w⟩:=p;simp only[];cases hd:(ops[j]?).bind (·.dst)with
  |none=>rfl
  |some d=>simp only[];rw[a d (by unfold Oper.looksAt;grind)]
theorem Wf{fr fr':aam}{o:Oper}(b:∀t,t∈o.looksAt ops->fr'.get t=fr.get t):abt fr' o=abt fr o:=by
 have a:∀t,Operand.tmp t∈o.op.operands.toList->fr'.get t=fr.get t:=by grind[qP]
 unfold abt
 cases d:o.op<;>try rfl
 rename_i c;cases c with
 |mk callee args ats=>
  cases callee with
  |value f=>simp only[Op.operands,Call.operands]at a;grind[aM,YK]
  |_=>rfl
inductive DT where
 |done
 |no
 |fl (i:Nat) (t:DT)
 |ch (i:Nat) (pre:II) (t other:DT)
def ze(o:Oper):II:=(o.after.toList.filter fun e=>Region.binds .any e).map (·.on)
def abF(ops:Array Oper)(i:Nat):II:=match ops[i]? with|some o=>ze o|none=>[]
def Y1(ops:Array Oper)(i:Nat):Option Tmp:=match ops[i]? with|some o=>o.dst|none=>Y
def Vz(ops:Array Oper)(i:Nat):List Tmp:=match ops[i]? with|some o=>o.looksAt ops|none=>[]
def isFloat(o:Oper):Bool:=
 match o.op with
 |.move _|.assign _|.pick ..|.load ..|.nilCheck _|.binOp ..|.unOp ..|.makeInterface ..|.makeFunc ..|.slice ..|.fieldAddr ..|.field ..|.indexAddr ..|.index ..|.extract ..|.build ..=>tT
 |.convert _ _ _=>tT
 |.call {callee:=.builtin .len,..}|.call {callee:=.builtin .min,..}|.call {callee:=.builtin .max,..}=>tT
 |_=>fF
def afF(ops:Array Oper)(i:Nat):Bool:=
 match Y1 ops i with
 |some d=>(rG ops.size).all fun j=>!(Vz ops j).contains d||(j !=i&&(abF ops j).contains i)
 |none=>tT
def lV(ops:Array Oper)(i:Nat):Bool:=
 match ops[i]? with
 |some o=>isFloat o&&afF ops i
 |none=>fF
def xx(ops:Array Oper)(rest:II):II:=rest.filter fun x=>(abF ops x).all fun p=>!rest.contains p
def agt:DT->Bool
 |.no=>fF
 |_=>tT
def isAlt:DT->Bool
 |.no=>tT
 |.ch ..=>tT
 |_=>fF
def aeg(ops:Array Oper):II->II->DT->Bool
  |rest,_,.done=>rest.isEmpty
  |_,cs,.no=>cs.isEmpty
  |rest,_,.fl i t=>rest.contains i&&lV ops i&&(abF ops i).all (fun p=>!rest.contains p)&&agt t&&aeg ops (rest.filter fun x=>x !=i) (xx ops (rest.filter fun x=>x !=i)) t
  |rest,cs,.ch i pre t other=>rest.contains i&&(abF ops i).all (fun p=>!rest.contains p)&&pre.all (fun q=>(abF ops i).contains q)&&
      agt t&&aeg ops (rest.filter fun x=>x !=i) (xx ops (rest.filter fun x=>x !=i)) t&&isAlt other&&aeg ops rest (cs.filter fun x=>x !=i) other
def ui(ops:Array Oper)(rest:II)(t:DT):Bool:=agt t&&aeg ops rest (xx ops rest) t
def akk(ops:Array Oper)(t:DT):Bool:=
 (rG ops.size).all (fun i=>(abF ops i).all fun p=>Nat.blt p i)&&
 (rG ops.size).all (fun i=>(rG ops.size).all fun j=>i==j||
  match Y1 ops j with
  |some d=>(!(Vz ops i).contains d||(abF ops i).contains j||(abF ops j).contains i)&&Y1 ops i !=Z d
  |none=>tT)&&
 ui ops (rG ops.size) t
def Holds(P:Program)(ops:Array Oper)(fr:aam)(h:aai)(p:Nat):Prop:=
  match ops[p]? with
  |some o=>match ab6 ops fr o with
    |some tT=>∃v,abr P fr h o=Z (v,h)/\∀d,o.dst=Z d->fr.get d=Z v
    |some fF=>∀d,o.dst=Z d->fr.get d=Z Yx
    |none=>False
  |none=>False
def abj(P:Program)(ops:Array Oper)(fr:aam)(h:aai):II->Prop
 |[]=>True
 |p::r=>Holds P ops fr h p/\abj P ops fr h r
def DW(P:Program)(W0:LA)(N:Nat)(ops:Array Oper)(Q:aam->aai->Prop):DT->II->aam->aai->Prop
  |.done,_,fr,h=>Q fr h
  |.no,_,_,_=>True
  |.fl i t,aac,fr,h=>
    match ops[i]? with
    |none=>False
    |some o=>
      match ab6 ops fr o with
      |none=>False
      |some fF=>match putDst N fr o.dst Yx with
        |none=>False
        |some fr'=>DW P W0 N ops Q t (i::aac) fr' h
      |some tT=>match abr P fr h o with
          |none=>False
          |some (v,h')=>h'=h/\match putDst N fr o.dst v with
            |none=>False
            |some fr'=>DW P W0 N ops Q t (i::aac) fr' h
  |.ch i pre t other,aac,fr,h=>
    (match ops[i]? with
    |none=>False
    |some o=>
      match ab6 ops fr o with
      |none=>False
      |some fF=>match putDst N fr o.dst Yx with
        |none=>False
        |some fr'=>DW P W0 N ops Q t (aac.filter fun p=>!pre.contains p) fr' h
      |some tT=>
          match Zm o with
          |true=>∃g args fn c,abt fr o=Z (g,args)/\Good P g fn c/\AC P W0 g args h fun v h'=>∃fr',putDst N fr o.dst v=Z fr'/\
              abj P ops fr' h' (aac.filter fun p=>!pre.contains p)/\DW P W0 N ops Q t (aac.filter fun p=>!pre.contains p) fr' h'
          |false=>match abr P fr h o with
            |none=>False
            |some (v,h')=>match putDst N fr o.dst v with
              |none=>False
              |some fr'=>abj P ops fr' h' (aac.filter fun p=>!pre.contains p)/\DW P W0 N ops Q t (aac.filter fun p=>!pre.contains p) fr' h')/\
    DW P W0 N ops Q other aac fr h
theorem abj.mem{fr:aam}{h:aai}:∀{l:II},abj P ops fr h l->∀p∈l,Holds P ops fr h p
 |[],_,p,a=>by simp at a
 |q::r,hh,p,a=>by
  rcases qL7.1 a with rfl|a
  .exact hh.1
  .exact abj.mem hh.2 p a
def acq(fr:aam):List Tmp->aam
 |[]=>fr
 |d::r=>(acq fr r).del d
theorem W6(fr:aam)(k:Nat):∀(l:List Tmp),(acq fr l).get k=if k∈l then Y else fr.get k
 |[]=>by simp[acq]
 |d::r=>by simp only[acq,Trie.Ik,W6 fr k r,qL7];grind
def KA(listed:Array Bool)(i:Nat):Bool:=!listed.getD i tT
theorem J3{a:Array Bool}{i j:Nat}(hi:KA a i=tT):KA (a.setIfInBounds i tT) j=(KA a j&&j !=i):=by unfold KA;simp only[Ex,qL167];grind
def OT(n:Nat)(a:Array Bool):Nat:=(rG n).countP (KA a)
theorem Hk{p q:Nat->Bool}{i:Nat}:∀{l:II},l.Nodup->i∈l->p i=tT->q i=fF->(∀j,j≠i->q j=p j)->l.countP q+1=l.countP p
 |[],_,h,_,_,_=>by simp at h
 |x::r,a,h,b,c,d=>by
  rw[xD]at a;by_cases e:x=i
  .grind[countP_congr]
  .have hi:i∈r:=hGr;have:=Hk a.2 hi b c d;grind
theorem u7{n i:Nat}{a:Array Bool}(hi:i<n)(b:KA a i=tT):OT n (a.setIfInBounds i tT)+1=OT n a:=by
 refine Hk vg (abV.2 hi) b ?_ ?_
 all_goals grind[J3]
theorem sk{n:Nat}{a:Array Bool}(h:OT n a=0)(i:Nat)(hi:i<n):KA a i=fF:=by grind[OT,countP_eq_zero]
theorem QX{i:Nat}{o:Oper}(h:ops[i]?=Z o):abF ops i=ze o:=by grind[abF]
theorem Rs{i:Nat}{o:Oper}(h:ops[i]?=Z o):Y1 ops i=o.dst:=by grind[Y1]
theorem YZ{i:Nat}{o:Oper}(h:ops[i]?=Z o):Vz ops i=o.looksAt ops:=by grind[Vz]
structure CK (ops:Array Oper):Prop where
 preds:∀i p,i<ops.size->p∈abF ops i->p<i
 pair:∀i j d,i<ops.size->j<ops.size->i≠j->Y1 ops j=Z d->(d∈Vz ops i->j∈abF ops i\/i∈abF ops j)/\Y1 ops i≠Z d
theorem CK.of{t:DT}(h:akk ops t=tT):CK ops/\ui ops (rG ops.size) t=tT:=by simp only[akk,ae7,vY,abV,beq_iff_eq,ah7,aid,Nat.blt_eq]at h;have⟨⟨c,e⟩,a⟩:=h;refine⟨⟨hGr,fun i j d hi f b hd=>?_⟩,a⟩;grind
theorem mem_cands{rest:II}{x:Nat}:x∈xx ops rest↔x∈rest/\∀p∈abF ops x,p∉rest:=by grind[xx]
structure Inv (P:Program) (N:Nat) (ops:Array Oper) (rest aac:II) (fr:aam) (h:aai) (listed:Array Bool):Prop where
 every:∀i,i<ops.size->KA listed i=tT->i∈aac\/i∈rest
 Cf:∀i∈rest,KA listed i=tT/\i<ops.size
 OF:∀p∈aac,p<ops.size/\p∉rest/\(∀q∈abF ops p,q∉rest)/\(∀d,Y1 ops p=Z d->d<N)/\afF ops p=tT
 holds:∀p∈aac,KA listed p=tT->Holds P ops fr h p
def BG(ops:Array Oper)(aac:II)(a:Array Bool):List Tmp:=(aac.filter (KA a)).filterMap (Y1 ops)
theorem WN{aac:II}{a:Array Bool}{t:Tmp}:t∈BG ops aac a↔∃p∈aac,KA a p=tT/\Y1 ops p=Z t:=by grind[BG]
theorem BV{fr fr':aam}{d:Option Tmp}{v:vV}(h:putDst N fr d v=Z fr'):(∀k,d≠Z k->fr'.get k=fr.get k)/\∀k,d=Z k->fr'.get k=Z v/\k<N:=by
 cases d<;>grind[putDst,Trie.bR,Trie.Xw]
theorem Holds.congr{fr fr':aam}{h:aai}{p:Nat}(hh:Holds P ops fr h p)(a:∀t∈Vz ops p,fr'.get t=fr.get t)(hd:∀d,Y1 ops p=Z d->fr'.get d=fr.get d):Holds P ops fr' h p:=by
 unfold Holds at*;cases c:ops[p]? with
 |none=>grind
 |some o=>
  rw[c]at hh;simp only[]at hh ⊢;rw[YZ c]at a;rw[Rs c]at hd;rw[Us a];cases hw:ab6 ops fr o with
  |none=>grind
  |some b=>
   rw[hw]at hh;cases b with
   |false=>grind
   |true=>have⟨v,e,h2⟩:=hh;exact⟨v,by rw[yE a];exact e,hGr⟩
theorem Inv.absorb{rest aac:II}{fr fr':aam}{h:aai}{g:Array Bool}{i:Nat}{o:Oper}{v:vV}(ok:CK ops)(l:Inv P N ops rest aac fr h g)(m:i∈rest)(n:∀p∈abF ops i,p∉rest)(A:ops[i]?=Z o)(u:afF ops i=tT)(w:putDst N fr o.dst v=Z fr')(y:Holds P ops fr' h i):
  Inv P N ops (rest.filter fun x=>x !=i) (i::aac) fr' h g:=by
 have⟨k,z⟩:=BV w;have hi:=l.Cf i m;have r:∀x,x∈rest.filter (fun x=>x !=i)↔x∈rest/\x≠i:=fun x=>by simp
 refine⟨fun j B s=>?_,(by grind[Inv.Cf]),fun p f=>?_,fun p f s=>?_⟩
 .grind[Inv.every]
 .rcases qL7.1 f with rfl|f
  .grind[Rs]
  .obtain⟨a,b,c,d⟩:=l.OF p f;grind
 .rcases qL7.1 f with rfl|f
  .exact y
  .obtain⟨a,b,c,_⟩:=l.OF p f;have q:p≠i:=hGr;refine(l.holds p f s).congr (fun t C=>k t fun e=>?_) (fun d hd=>k d fun e=>?_)
   .grind[afF,Rs]
   .exact(ok.pair i p d hi.2 a (Hs q) hd).2 (by grind[Rs])
theorem SI{a:Array Bool}{q:Nat}(hs:q<a.size)(h:KA a q=fF):a.getD q fF=tT:=by grind[KA]
theorem zG{a:Array Bool}{i:Nat}(h:i∈Region.ready .any ops a):KA a i=tT/\i<ops.size/\∃o,ops[i]?=Z o/\∀q∈ze o,KA a q=fF:=by grind[Go.mem_ready,KA,ze]
theorem QS{a:Array Bool}(ok:CK ops)(hs:a.size=ops.size)(h:Region.ready .any ops a=[]):∀i,i<ops.size->KA a i=fF:=by
 intro i
 induction i using Nat.strongRecOn with
 |_ i b=>
  intro hi;cases c:KA a i with
  |false=>rfl
  |true=>
   have:i∈Region.ready .any ops a:=by
    refine mem_ready.2 ⟨by grind[KA],ops[i],aex hi,fun e d hb=>?_⟩;have f:e.on∈abF ops i:=by rw[QX (aex hi)];grind[ze]
    grind[CK.preds,SI]
   grind
theorem PV{m:abd}{n:Nat}{o:Oper}{fr c:aam}{tmps:Array vV}{b:Bool}(F:FR n m c tmps)(d:∀t∈o.looksAt ops,c.get t=fr.get t)(hw:ab6 ops fr o=Z b):
  Region.wanted o (yielded ops tmps)=b:=
 tz (a:=⟨tmps,[]⟩) F (by grind[Us])
theorem Bz{p j:Nat}{d:Tmp}(h:afF ops p=tT)(hd:Y1 ops p=Z d)(a:j<ops.size)(b:d∈Vz ops j):j≠p/\p∈abF ops j:=by grind[afF]
theorem St.fill{f:Cx}{m e:abd}{b c:aam}{h h':aai}{a:Act}{w w':World}(s:St W0 f N m b h a w)(R':Rel (W0.add f.ex) e h' w')(g:ZK h.next m e)(j:h.next<=h'.next){d:Option Tmp}{v v':vV}(l:VR h'.next e v v')(hf:∀k u,c.get k=Z u->(d=Z k/\u=v/\k<N)\/(d≠Z k/\b.get k=Z u)):St W0 f N e c h' (a.put d v') w':=by
 have F:=s.frame.mono j g;refine⟨R',fun k u n=>?_,?_,?_,?_⟩
 .rcases hf k u n with⟨rfl,rfl,o⟩|⟨hd,hg⟩
  .exact⟨v',by simp[Act.put,s.size,o],l⟩
  .obtain⟨u',i,h2⟩:=F k u hg;refine⟨u',?_,h2⟩;cases d with
   |none=>exact i
   |some d=>have:d≠k:=hGr;simp[Act.put,this,i]
 .cases d<;>exact s.defers
 .cases d<;>simp[Act.put,s.size]
 .exact s.round
theorem call_wp{k:Cx}{nn:Nat}{m:abd}{fr:aam}{h:aai}{a:Act}{w:World}(s:St W0 k N m fr h a w){o:Oper}{g:FuncId}{args:xLV}{fn:Func}{c:Code}(d:abt fr o=Z (g,args))(hg:Good P g fn c){R:vV->aai->Prop}(u:AC P W0 g args h R){r:Act->World->Prop}{K:Exit->Act->World->Prop}(D:∀v v' l h' w',ZK h.next m l->h.next<=h'.next->Rel (W0.add k.ex) l h' w'->VR h'.next l v v'->R v h'->r (a.put o.dst v') w'):o.wpIn (Xc k.ro) nn P a w r K:=by
 unfold abt at d;split at d
 .rename_i f as ats n;split at d
  .rename_i t first cap vs hf p
   injection d with d;simp only[abW]at d;obtain⟨rfl,rfl⟩:=d;have i:=Ns s.frame hf;have y:=PZ s.frame p;refine ph hGr ?_
   have key:∃b cap',a.eval f=.func (.func t) b cap'/\AK h.next m first.toList b.toList/\AK h.next m cap.toList cap'.toList:=by
    generalize a.eval f=x at i;cases i with
    |flat hf=>grind[flat]
    |func E h2 h3 F=>exact⟨_,_,rfl,⟨hGr,hGr⟩,⟨hGr,hGr⟩⟩
   have⟨b,cap',q,z,A⟩:=key
   have j:(execOp a.eval o).run P w=.ok (.enter t ((b.toList++as.toList.map a.eval++cap'.toList).toArray)) w:=by
    have B:(b++as.map a.eval++cap')=(b.toList++as.toList.map a.eval++cap'.toList).toArray:=by simp
    simp only[execOp,n,resolve,q,Deferred.ofValue,Sem.run_bind,Sem.run_pure,Result.andThen_ok,invoke,callFunc,run_program,hg.func,hg.name,aeu,if_false,hg.body,ahS,B]
   rw[j]
   have e:=u k.ex m w (b.toList++as.toList.map a.eval++cap'.toList) s.rel (by grind[AK.append])
   refine⟨(fun C=>by cases C),qN (e.mono ?_)⟩;grind
  .cases d
 .cases d
theorem YF{g:Cx}{nn:Nat}{Q:aam->aai->Prop}{K:Exit->Act->World->Prop}{fuel:Nat}(U:∀(t:DT)(rest aac:II)(fr:aam)(h:aai)(b:Array Bool)(m:abd)(a:Act)(w:World),
   OT ops.size b=fuel->b.size=ops.size->Inv P N ops rest aac fr h b->ui ops rest t=tT->DW P W0 N ops Q t aac fr h->St W0 g N m (acq fr (BG ops aac b)) h a w->
   (∀l fr' h' a' w',ZK h.next m l->h.next<=h'.next->St W0 g N l fr' h' a' w'->Q fr' h'->K .normal a' w')->wpAnyIn (Xc g.ro) nn P .any ops K fuel b a w){t:DT}{rest aac:II}{fr:aam}{h:aai}{b:Array Bool}{m:abd}{a:Act}{w:World}(hc:OT ops.size b=fuel+1)(hs:b.size=ops.size)(r:Inv P N ops rest aac fr h b)(x:ui ops rest t=tT)(V:DW P W0 N ops Q t aac fr h)(s:St W0 g N m (acq fr (BG ops aac b)) h a w)(W:∀l fr' h' a' w',ZK h.next m l->h.next<=h'.next->St W0 g N l fr' h' a' w'->Q fr' h'->K .normal a' w'){j:Nat}(X:j∈Region.ready .any ops b)(y:j∈aac):wpOpIn (Xc g.ro) nn P ops K j (wpAnyIn (Xc g.ro) nn P .any ops K fuel (b.setIfInBounds j tT)) a w:=by
 obtain⟨hu,B,o,L,M⟩:=zG X;have C:OT ops.size (b.setIfInBounds j tT)=fuel:=by grind[u7]
 have hs':(b.setIfInBounds j tT).size=ops.size:=hGr;have aa:j∉rest:=(r.OF j y).2.1;have D:Inv P N ops rest aac fr h (b.setIfInBounds j tT):=by
  refine⟨fun i hi ae=>?_,fun i hi=>⟨?_,(r.Cf i hi).2⟩,r.OF,fun p O E=>?_⟩
  .grind[J3,Inv.every]
  .grind[J3,Inv.Cf]
  grind[J3,Inv.holds]
 have c:∀t∈o.looksAt ops,(acq fr (BG ops aac b)).get t=fr.get t:=by intro t ht;rw[W6,IE];intro hh;obtain⟨p,O,E,F⟩:=WN.1 hh;obtain⟨_,_,_,_,G⟩:=r.OF p O;obtain⟨ai,R⟩:=Bz G F B (by grind[YZ]);grind[QX]
 have f:∀v,(∀d,o.dst=Z d->fr.get d=Z v)->∀k u,(acq fr (BG ops aac (b.setIfInBounds j tT))).get k=Z u->
   (o.dst=Z k/\u=v/\k<N)\/(o.dst≠Z k/\(acq fr (BG ops aac b)).get k=Z u):=by
  intro v S k u n;rw[W6]at n;split at n
  .cases n
  .by_cases hd:o.dst=Z k
   .grind[Inv.OF,Rs]
   grind[W6,WN,J3,Rs]
 have q:=r.holds j y hu;unfold Holds at q;rw[L]at q;simp only[]at q;unfold wpOpIn;rw[L];simp only[];split at q
 .rename_i hw;obtain⟨v,z,H⟩:=q;rw[WA (PV s.frame c hw)];obtain⟨l,v',w',e,R',A,I,S⟩:=ae4 (P:=P) (a:=a) s.rel s.frame (by rw[yE c];exact z);have T:=s.fill R' A I S (f v H);have:=U t rest aac fr h _ l (a.put o.dst v') w' C hs' D x V T fun m2 J h2 a2 w2 e1 e2 e3 e4=>W m2 J h2 a2 w2 (A.trans e1 I) (ff I e2) e3 e4;refine ph (Nw z) ?_;rcases e with e|⟨e,rfl⟩<;>rw[e]<;>exact this
 .rename_i hw;rw[IE (by rw[PV s.frame c hw];simp)];have T:=s.fill s.rel (.refl _ _) (qL0 _) (v:=Yx) (v':=undef) (.tuple rfl hGr) (f Yx q);refine⟨fun _ _=>trivial,?_⟩;grind
 grind
theorem draw_do{D:Cx}{nn:Nat}(ok:CK ops){Q:aam->aai->Prop}{K:Exit->Act->World->Prop}{fuel:Nat}(ih:∀(t:DT)(rest aac:II)(fr:aam)(h:aai)(b:Array Bool)(m:abd)(a:Act)(w:World),
   OT ops.size b=fuel->b.size=ops.size->Inv P N ops rest aac fr h b->ui ops rest t=tT->DW P W0 N ops Q t aac fr h->St W0 D N m (acq fr (BG ops aac b)) h a w->
   (∀C fr' h' a' w',ZK h.next m C->h.next<=h'.next->St W0 D N C fr' h' a' w'->Q fr' h'->K .normal a' w')->wpAnyIn (Xc D.ro) nn P .any ops K fuel b a w){t other:DT}{j:Nat}{pre:II}{rest aac:II}{fr:aam}{h:aai}{b:Array Bool}{m:abd}{a:Act}{w:World}(hc:OT ops.size b=fuel+1)(hs:b.size=ops.size)(H:Inv P N ops rest aac fr h b)(ar:j∈rest)(S:∀q∈pre,q∈abF ops j)(z:ui ops (rest.filter fun x=>x !=j) t=tT)(i:DW P W0 N ops Q (.ch j pre t other) aac fr h)(s:St W0 D N m (acq fr (BG ops aac b)) h a w)(hK:∀C fr' h' a' w',ZK h.next m C->h.next<=h'.next->St W0 D N C fr' h' a' w'->Q fr' h'->K .normal a' w')(hj:j∈Region.ready .any ops b):wpOpIn (Xc D.ro) nn P ops K j (wpAnyIn (Xc D.ro) nn P .any ops K fuel (b.setIfInBounds j tT)) a w:=by
 obtain⟨hu,T,o,ho,aj⟩:=zG hj;have aq:∀x,x∈rest.filter (fun x=>x !=j)↔x∈rest/\x≠j:=fun x=>by simp
 have I:OT ops.size (b.setIfInBounds j tT)=fuel:=by grind[u7]
 have hs':(b.setIfInBounds j tT).size=ops.size:=hGr;have av:∀p∈aac,p≠j:=by grind[Inv.OF]
 have U:∀p∈aac,KA b p=tT->p∈aac.filter fun p=>!pre.contains p:=by grind[QX]
 have f:∀t∈o.looksAt ops,(acq fr (BG ops aac b)).get t=fr.get t:=by intro t ht;rw[W6,IE];intro hh;obtain⟨p,n,A,ay⟩:=WN.1 hh;obtain⟨_,_,_,_,az⟩:=H.OF p n;grind[Bz,YZ,QX]
 have hinv:∀fr' h',(∀p∈aac.filter (fun p=>!pre.contains p),KA (b.setIfInBounds j tT) p=tT->Holds P ops fr' h' p)->Inv P N ops (rest.filter fun x=>x !=j) (aac.filter fun p=>!pre.contains p) fr' h' (b.setIfInBounds j tT):=by
  intro fr' h' r;refine⟨fun i' V aC=>?_,fun i' V=>⟨?_,(H.Cf i' hGr).2⟩,fun p n=>?_,r⟩
  .grind[J3,Inv.every]
  .grind[J3,Inv.Cf]
  .obtain⟨a1,a2,a3,a4,a5⟩:=H.OF p (iy.1 n).1;grind
 have l:∀{v:vV}{fr':aam},putDst N fr o.dst v=Z fr'->∀k u,(acq fr' (BG ops (aac.filter fun p=>!pre.contains p) (b.setIfInBounds j tT))).get k=Z u->
   (o.dst=Z k/\u=v/\k<N)\/(o.dst≠Z k/\(acq fr (BG ops aac b)).get k=Z u):=by
  intro v fr' n k u E;obtain⟨F,W⟩:=BV n;rw[W6]at E;split at E
  .cases E
  grind[W6,WN,J3]
 simp only[DW,ho]at i;replace i:=i.1;unfold wpOpIn;rw[ho];simp only[];split at i
 .exact i.elim
 .rename_i hw;rw[IE (by rw[PV s.frame f hw];simp)];split at i
  .exact i.elim
  .rename_i fr' n;obtain⟨F,W⟩:=BV n;have R:=s.fill s.rel (.refl _ _) (qL0 _) (v:=Yx) (v':=undef) (.tuple rfl hGr) (l n);refine⟨fun _ _=>trivial,ih t _ _ fr' h _ m _ w I hs' (hinv fr' h fun p X A=>?_) z i R hK⟩;rw[J3 hu]at A;simp at A;have J:=(iy.1 X).1;obtain⟨a1,a2,a3,_⟩:=H.OF p J;refine(H.holds p J A.1).congr (fun t ht=>F t fun e=>?_) (fun d hd=>F d fun e=>?_)
   .grind[CK.pair,Rs,QX]
   .exact(ok.pair j p d T a1 (Hs A.2) hd).2 (by grind[Rs])
 .rename_i hw;rw[WA (PV s.frame f hw)];split at i
  .obtain⟨g,args,fn,c,aa,G,ae⟩:=i;refine call_wp s (by rw[Wf f];exact aa) G ae ?_;rintro v v' C h' w' B L R' hv ⟨fr',n,r,M⟩;have R:=s.fill R' B L hv (l n);grind[abj.mem,ZK.trans]
  .split at i
   .exact i.elim
   .rename_i v h' O;split at i
    .exact i.elim
    .rename_i fr' n;obtain⟨r,M⟩:=i;obtain⟨C,v',w',y,R',B,L,hv⟩:=ae4 (P:=P) (a:=a) s.rel s.frame (by rw[yE f];exact O);have R:=s.fill R' B L hv (l n);have:=ih t _ _ fr' h' _ C (a.put o.dst v') w' I hs' (hinv fr' h' fun p n _=>r.mem p n) z M R fun m2 ai h2 a2 w2 e1 e2 e3 e4=>hK m2 ai h2 a2 w2 (B.trans e1 L) (ff L e2) e3 e4;refine ph (Nw O) ?_;rcases y with y|⟨y,rfl⟩<;>rw[y]<;>exact this
theorem alt_find{Q:aam->aai->Prop}{rest aac:II}{fr:aam}{h:aai}{j:Nat}:∀{t:DT}{cs:II},j∈cs->aeg ops rest cs t=tT->DW P W0 N ops Q t aac fr h->isAlt t=tT->
  ∃pre a other,(∀q∈pre,q∈abF ops j)/\ui ops (rest.filter fun x=>x !=j) a=tT/\DW P W0 N ops Q (.ch j pre a other) aac fr h:=by
 intro t
 induction t with
 |done=>intro cs _ _ _ ha;cases ha
 |fl i t _=>intro cs _ _ _ ha;cases ha
 |no=>grind[aeg]
 |ch i pre t other _ b=>grind[aeg,ui,DW]
theorem draw_main{G:Cx}{nn:Nat}(ok:CK ops){Q:aam->aai->Prop}{K:Exit->Act->World->Prop}:∀(fuel:Nat)(t:DT)(rest aac:II)(fr:aam)(h:aai)(b:Array Bool)(m:abd)(a:Act)(w:World),
  OT ops.size b=fuel->b.size=ops.size->Inv P N ops rest aac fr h b->ui ops rest t=tT->DW P W0 N ops Q t aac fr h->St W0 G N m (acq fr (BG ops aac b)) h a w->
  (∀U fr' h' a' w',ZK h.next m U->h.next<=h'.next->St W0 G N U fr' h' a' w'->Q fr' h'->K .normal a' w')->
  wpAnyIn (Xc G.ro) nn P .any ops K fuel b a w:=by
 intro fuel
 induction fuel with
 |zero=>
  intro t
  induction t with
  |no=>grind[ui,agt]
  |done=>
   intro rest aac fr h b m a w l hs g d c s q;have n:=sk l;have hh:BG ops aac b=[]:=by apply Tn.2;intro t d;have⟨p,r,B,_⟩:=WN.1 d;rw[n p (g.OF p r).1]at B;cases B
   rw[hh]at s;refine⟨?_,q m fr h a w (.refl _ _) (qL0 _) s c⟩;apply Tn.2;intro i hi;have⟨V,h2,_⟩:=zG hi;grind
  |fl i t _=>intro rest aac fr h b m a w l hs g d c s q;have n:=sk l;simp only[ui,aeg,ae7,aid,uV]at d;have:=g.Cf i d.2.1.1.1.1;grind
  |ch i pre t other _ _=>intro rest aac fr h b m a w l hs g d c s q;have n:=sk l;simp only[ui,aeg,ae7,aid,uV]at d;have:=g.Cf i d.2.1.1.1.1.1.1;grind
 |succ fuel I=>
  intro t
  induction t with
  |no=>grind[ui,agt]
  |done=>
   intro rest aac fr h b m a w l hs g d c s q;have J:rest=[]:=by grind[ui,aeg]
   refine⟨fun hr=>?_,fun j C=>?_⟩
   .grind[QS,OT,List.countP_eq_zero]
   .obtain⟨B,y,_⟩:=zG C;rcases g.every j y B with z|D
    .exact YF I l hs g d c s q C z
    grind
  |fl i t ae=>
   intro rest aac fr h b m a w l hs g d c s q;simp only[ui,aeg,ae7,aid,uV]at d;obtain⟨_,⟨⟨⟨L,ai⟩,aj⟩,W⟩,e⟩:=d;have M:ui ops (rest.filter fun x=>x !=i) t=tT:=by grind[ui]
   have O:∀p∈abF ops i,p∉rest:=fun p r=>by grind
   have hi:=g.Cf i L;have R:ops[i]?=Z ops[i]:=aex hi.2;generalize ops[i]'hi.2=o at R
   have aq:afF ops i=tT:=by grind[lV]
   have S:∀{fr':aam}{v:vV},putDst N fr o.dst v=Z fr'->St W0 G N m (acq fr' (BG ops (i::aac) b)) h a w:=by intro fr' v r;have⟨E,F⟩:=BV r;refine⟨s.rel,fun k u hk=>s.frame k u ?_,s.defers,s.size,s.round⟩;grind[W6,WN,Rs]
   simp only[DW,R]at c;split at c
   .exact c.elim
   .rename_i hw;split at c
    .exact c.elim
    .rename_i fr' r;have⟨E,F⟩:=BV r;have f:∀t∈o.looksAt ops,fr'.get t=fr.get t:=by grind[Bz,Rs,YZ]
     have hH:Holds P ops fr' h i:=by grind[Holds,Us]
     grind[Inv.absorb]
   .rename_i hw;split at c
    .exact c.elim
    .rename_i v h' T;obtain⟨rfl,c⟩:=c;split at c
     .exact c.elim
     .rename_i fr' r;have⟨E,F⟩:=BV r;have f:∀t∈o.looksAt ops,fr'.get t=fr.get t:=by grind[Bz,Rs,YZ]
      have hH:Holds P ops fr' h' i:=by unfold Holds;rw[R];simp only[];rw[Us f,hw];exact⟨v,by rw[yE f];exact T,hGr⟩
      grind[Inv.absorb]
  |ch i pre t other _ _=>
   intro rest aac fr h b m a w l hs g d c s q;refine⟨fun hr=>?_,fun j C=>?_⟩
   .grind[QS,OT,List.countP_eq_zero]
   .obtain⟨B,y,oj,ar,X⟩:=zG C;rcases g.every j y B with z|D
    .exact YF I l hs g d c s q C z
    .have A:j∈xx ops rest:=by grind[mem_cands,QX,Inv.Cf]
     have e:=d;simp only[ui,ae7]at e;have⟨aa,t',H,V,h2,h3⟩:=alt_find A e.2 c rfl;exact draw_do ok I l hs g D V h2 h3 s q C
theorem ud.draw{i:Nat}{ol:List Oper}{Q:Exit->aam->aai->Prop}(f:P.follows .mixedOrders=tT)(t:DT)(c:akk ol.toArray t=tT)(hd:DW P W0 N ol.toArray (Q .normal) t [] fr h):ud P W0 N (.region i ol.toArray tT) fr h Q:=by
 intro g nn m a w s K k;have⟨ok,b⟩:=CK.of c;refine wpIn_region_any f ?_;have l:∀j,j<ol.toArray.size->KA (Array.replicate ol.toArray.size fF) j=tT:=by intro j r;have d:j<ol.length:=hGr;simp[KA,Ex,d]
 have s0:St W0 g N m (acq fr (BG ol.toArray [] (Array.replicate ol.toArray.size fF))) h a w.drew:=⟨s.rel.drew,s.frame,s.defers,s.size,s.round⟩;refine draw_main ok ol.toArray.size t (rG ol.toArray.size) [] fr h (Array.replicate ol.toArray.size fF) m a w.drew ?_ Ma ?_ b hd s0 ?_
 .grind[OT,countP_eq_length]
 .refine⟨hGr,hGr,hGr,hGr⟩
 .intro n fr' h' a' w' e o p q;exact k [] .normal n fr' h' a' w' e o p.nil q
end
end Go.Fw
