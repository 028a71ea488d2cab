/- A text. -/
import Derived.TacticsIn
import Derived.RangeFuncRecord
import Derived.Test.YtkccdnmaaelbiaaGreatFwOps6
set_option linter.all false
set_option maxRecDepth 99999
set_option maxHeartbeats 9999999
namespace Go.Fw
structure Cx where
 ex:List (Nat×Obj)
 ds:List Deferred
 ro:Option Nat
def mkOf (b:Nat):Deferred:={target:=.collected b,args:=#[]}
def RY (b:Nat):Nat×Obj:=(b,.deferred (some []))
def keepN:Option Nat->wi->wi
 |none,l=>l
 |some _,_=>[]
def Md (r:Option Nat) (a b:wi):keepN r (a++b)=keepN r a++keepN r b:=by cases r<;>rfl
def Mg (r:Option Nat):keepN r []=[]:=by cases r<;>rfl
def Cx.more (c:Cx) (new:wi):Cx:={ex:=(keepN c.ro new).map RY++c.ex,ds:=(keepN c.ro new).map mkOf++c.ds,ro:=c.ro}
def Cx.ZM (c:Cx):c.more []=c:=by simp[Cx.more,Mg]
def Cx.mD (c:Cx) (n n':wi):(c.more n).more n'=c.more (n'++n):=by simp[Cx.more,Md]
structure St (W0:Ac) (cx:Cx) (N:Nat) (m:Ti) (fr:EP) (h:AHeap) (a:Act) (w:World):Prop where
 rel:Rel (W0.add cx.ex) m h w
 frame:FR h.next m fr a.tmps
 defers:a.defers=cx.ds
 size:a.tmps.size=N
 round:∀l,cx.ro=some l->∃r,(l,Obj.loop r)∈cx.ex++W0.rw
def St.nil {W0:Ac} {b:Cx} {N:Nat} {m:Ti} {fr:EP} {h:AHeap} {a:Act} {w:World} (s:St W0 b N m fr h a w):St W0 (b.more []) N m fr h a w:=by rw[Cx.ZM];exact s
def Fv (ro:Option Nat):Fence:={Fence.wide with round:=ro}
def Ya {ro:Option Nat} {n:Nat} {P:Program} {f:FuncId} {args:Array Value} {w:World} {R:Ending->World->Prop} (a:Calls P f args w R):CallsIn (Fv ro) n P f args w R:=callsIn_wide.2 a
def LL {ro:Option Nat} {n:Nat} {P:Program} {o:Oper} {a:Act} {w:World} {K:Act->World->Prop} {Q:Exit->Act->World->Prop} (b:∀c,o.op≠.defer c) (d:o.uponIn (Fv ro) n P a K Q ((execOp a.eval o).run P w)):o.wpIn (Fv ro) n P a w K Q:=
 ⟨fun _ _=>trivial,by rw[Oper.semAt_eq _ _ _ b];exact d⟩
def Wt {P:Program} {fr:EP} {h:AHeap} {o:Oper} {x:Value×AHeap} (e:stepOp P fr h o=some x):∀c,o.op≠.defer c:=by
 intro c a;unfold stepOp at e;rw[a]at e;cases e
def Sx (P:Program) (W0:Ac) (N:Nat) (ops:Array Oper) (l:List Oper) (fr:EP) (h:AHeap) (Q:EP->AHeap->Prop):Prop:=
 ∀(b:Cx) nn m a w,St W0 b N m fr h a w->∀K:Exit->Act->World->Prop,
  (∀c fr' h' a' w',Yk h.next m c->h.next<=h'.next->St W0 b N c fr' h' a' w'->Q fr' h'->K .normal a' w')->wpListIn (Fv b.ro) nn P ops K l a w
def M9 (P:Program) (W0:Ac) (N:Nat) (c:Code) (fr:EP) (h:AHeap) (Q:Exit->EP->AHeap->Prop):Prop:=
 ∀(b:Cx) nn m a w,St W0 b N m fr h a w->∀K:Exit->Act->World->Prop,
  (∀new e d fr' h' a' w',Yk h.next m d->h.next<=h'.next->St W0 (b.more new) N d fr' h' a' w'->Q e fr' h'->K e a' w')->c.wpIn (Fv b.ro) nn P K a w
def AC (P:Program) (W0:Ac) (f:FuncId) (args:List Value) (h:AHeap) (R:Value->AHeap->Prop):Prop:=
 ∀ex m w a,Rel (W0.add ex) m h w->xC h.next m args a->
  Calls P f a.toArray w (fun e w'=>∃v v' b h',e=.returned v'/\Rel (W0.add ex) b h' w'/\Yk h.next m b/\h.next<=h'.next/\VR h'.next b v v'/\R v h')
variable {P : Program} {W0 : Ac} {N : Nat} {ops : Array Oper} {l : List Oper} {fr : EP} {h : AHeap}
def M9.mono {c:Code} {Q b:Exit->EP->AHeap->Prop} (d:M9 P W0 N c fr h Q) (f:∀e fr h,Q e fr h->b e fr h):M9 P W0 N c fr h b:=
 fun g nn m a w s K i=>d g nn m a w s K fun new e j fr' h' a' w' k h2 h3 n=>i new e j fr' h' a' w' k h2 h3 (f _ _ _ n)
def AC.mono {f:FuncId} {args:List Value} {R R':Value->AHeap->Prop} (b:AC P W0 f args h R) (c:∀v h,R v h->R' v h):AC P W0 f args h R':=
 fun ex m w a r d=>(b ex m w a r d).mono fun _ _ ⟨v,v',e,h',g,h2,h3,i,j,k⟩=>⟨v,v',e,h',g,h2,h3,i,j,c _ _ k⟩
def putDst (N:Nat) (fr:EP) (d:Option Tmp) (v:Value):Option EP:=
 match d with
 |none=>some fr
 |some d=>if d<N then some (fr.set d v)else none
def St.put {f:Cx} {m e:Ti} {a:Act} {w w':World} (s:St W0 f N m fr h a w) {h':AHeap} (R':Rel (W0.add f.ex) e h' w') (g:Yk h.next m e) (j:h.next<=h'.next) {d:Option Tmp} {v v':Value} (n:VR h'.next e v v')
  {fr':EP} (b:putDst N fr d v=some fr'):St W0 f N e fr' h' (a.put d v') w':=by
 have F:=s.frame.mono j g;cases d with
 |none=>
  simp[putDst]at b;subst b;exact⟨R',F,s.defers,s.size,s.round⟩
 |some d=>
  simp only[putDst]at b;split at b
  case isFalse=>cases b
  rename_i U8;simp at b;subst b;have o:d<a.tmps.size:=by rw[s.size];exact U8
  refine⟨R',fun k u c=>?_,s.defers,by simpa[Act.put]using s.size,s.round⟩;rw[Trie.C5]at c;by_cases i:k=d
  .subst i
   rw[if_pos rfl]at c;injection c with c;subst c;exact⟨v',by simp[Act.put,o],n⟩
  .rw [if_neg i] at c
   obtain⟨u',p,h2⟩:=F k u c;exact⟨u',by simp[Act.put,Hn i,p],h2⟩
def wantA (ops:Array Oper) (fr:EP) (o:Oper):Option Bool:=
  match o.guard with
  |none=>some true
  |some (j,want)=>match(ops[j]?).bind (·.dst)with
    |some d=>match fr.get d with
      |some (.bool b)=>some (b==want)
      |some (.tuple _)=>some false
      |_=>none
    |none=>none
def Fk {n:Nat} {m:Ti} {a:Act} (F:FR n m fr a.tmps) {o:Oper} {b:Bool} (e:wantA ops fr o=some b):Region.wanted o (yielded ops a.tmps)=b:=by
 unfold wantA at e;unfold Region.wanted;cases hg:o.guard with
 |none=>rw[hg]at e;simp at e;subst e;rfl
 |some p=>
  obtain⟨j,want⟩:=p;rw[hg]at e;simp only[]at e ⊢;split at e
  .rename_i d g
   split at e
   .rename_i t c
    injection e with e;subst e;obtain⟨v',f,h2⟩:=F d _ c;have:=h2.DN;subst this;simp only[yielded,g,Ns,f];cases t<;>cases want<;>rfl
   .rename_i vs c
    injection e with e;subst e;obtain⟨v',f,h2⟩:=F d _ c;obtain⟨i,rfl,_⟩:=h2.lx;simp[yielded,g,f]
   .cases e
  .cases e
def Sx.nil {Q:EP->AHeap->Prop} (b:Q fr h):Sx P W0 N ops [] fr h Q:=
 fun d nn m a w s _K c=>wpListIn_nil (c m fr h a w (.refl _ _) (J4 _) s b)
def Sx.step {o:Oper} {Q:EP->AHeap->Prop} {v:Value} {h':AHeap} {fr':EP} (hw:wantA ops fr o=some true) (hs:stepOp P fr h o=some (v,h')) (g:putDst N fr o.dst v=some fr')
  (i:Sx P W0 N ops l fr' h' Q):Sx P W0 N ops (o::l) fr h Q:=by
 intro j nn m a w s K k;obtain⟨n,v',w',b,R',d,e,p⟩:=Wb (P:=P) (a:=a) s.rel s.frame hs;have q:=s.put R' d e p g;have c:=i j nn n (a.put o.dst v') w' q K fun m2 f h2 r t u x y z=>k m2 f h2 r t (d.trans u e) (Jh e x) y z;unfold wpListIn;rw[if_pos (Fk s.frame hw)];refine LL (Wt hs) ?_;rcases b with b|⟨b,rfl⟩<;>rw[b]
 .exact c
 .exact c
def Sx.skip {o:Oper} {Q:EP->AHeap->Prop} {fr':EP} (hw:wantA ops fr o=some false) (b:putDst N fr o.dst Hx=some fr')
  (c:Sx P W0 N ops l fr' h Q):Sx P W0 N ops (o::l) fr h Q:=by
 intro d nn m a w s K e;have f:=s.put s.rel (.refl _ _) (J4 _) (v:=Hx) (v':=undef) (.tuple rfl (fun i v v' h=>by simp at h)) b;unfold wpListIn;rw[if_neg (by rw[Fk s.frame hw];simp)];exact⟨fun _ _=>trivial,c d nn m _ w f K e⟩
def calleeOf (fr:EP) (o:Oper):Option (FuncId×List Value):=
  match o.op with
  |.call {callee:=.value f,args,..}=>match evalO fr f,evalL fr args.toList with
    |some (.func (.func g) first cap),some vs=>some (g,first.toList++vs++cap.toList)
    |_,_=>none
  |_=>none
structure Good (P:Program) (f:FuncId) (fn:Func) (c:Code):Prop where
 func:P.funcs[f]?=some fn
 body:fn.body=some c
 name:(fn.name== "runtime.NumGoroutine")=false
def Sx.call {o:Oper} {Q:EP->AHeap->Prop} {g:FuncId} {args:List Value} {fn:Func} {c:Code} (hw:wantA ops fr o=some true) (d:calleeOf fr o=some (g,args)) (hg:Good P g fn c)
  (G:AC P W0 g args h fun v h'=>∃fr',putDst N fr o.dst v=some fr'/\Sx P W0 N ops l fr' h' Q):Sx P W0 N ops (o::l) fr h Q:=by
 intro E nn m a w s K H;unfold calleeOf at d;split at d
 .rename_i f as ats n
  split at d
  .rename_i F first cap vs hf t
   injection d with d;simp only[Ig]at d;obtain⟨rfl,rfl⟩:=d;have p:=Yf s.frame hf;have u:=bD s.frame t;unfold wpListIn;rw[if_pos (Fk s.frame hw)];refine LL (fun c e=>by rw[n]at e;cases e) ?_
   have key:∃b cap',a.eval f=.func (.func F) b cap'/\xC h.next m first.toList b.toList/\xC h.next m cap.toList cap'.toList:=by
    generalize a.eval f=x at p;cases p with
    |flat hf=>simp[Fw.flat]at hf
    |func I h2 h3 J=>
     exact⟨_,_,rfl,⟨by simpa using I,fun i v v' e e'=>h3 i v v' (by simpa using e) (by simpa using e')⟩,⟨by simpa using h2,fun i v v' e e'=>J i v v' (by simpa using e) (by simpa using e')⟩⟩
   obtain⟨b,cap',y,z,A⟩:=key
   have q:(execOp a.eval o).run P w=.ok (.enter F ((b.toList++as.toList.map a.eval++cap'.toList).toArray)) w:=by
    have B:(b++as.map a.eval++cap')=(b.toList++as.toList.map a.eval++cap'.toList).toArray:=by
     apply XX.1;simp
    simp only[execOp,n,resolve,y,Deferred.ofValue,Sem.run_bind,Sem.run_pure,Result.andThen_ok,invoke,callFunc,run_program,hg.func,hg.name,Z2,if_false,hg.body,bN,B]
   rw[q]
   have j:=G E.ex m w (b.toList++as.toList.map a.eval++cap'.toList) s.rel ((z.append u).append A)
   refine⟨(fun L=>by cases L),Ya (j.mono ?_)⟩;rintro e w' ⟨v,v',M,h',rfl,R',r,C,O,fr',R,k⟩;exact k E nn M _ w' (s.put R' r C O R) K fun m2 D h2 S T B U V W=>H m2 D h2 S T (r.trans B C) (Jh C U) V W
  .cases d
 .cases d
def M9.skip {Q:Exit->EP->AHeap->Prop} (b:Q .normal fr h):M9 P W0 N .skip fr h Q:=
 fun d nn m a w s _K c=>wpIn_skip (c [] .normal m fr h a w (.refl _ _) (J4 _) s.nil b)
def M9.label {i:Nat} {Q:Exit->EP->AHeap->Prop} (b:Q .normal fr h):M9 P W0 N (.label i) fr h Q:=
 fun d nn m a w s _K c=>wpIn_label (c [] .normal m fr h a w (.refl _ _) (J4 _) s.nil b)
def M9.exit {i:Nat} {Q:Exit->EP->AHeap->Prop} (b:Q (.exit i) fr h):M9 P W0 N (.exit i) fr h Q:=
 fun d nn m a w s _K c=>wpIn_exit (c [] (.exit i) m fr h a w (.refl _ _) (J4 _) s.nil b)
def M9.ret {Q:Exit->EP->AHeap->Prop} (b:Q .ret fr h):M9 P W0 N .ret fr h Q:=
 fun d nn m a w s _K c=>wpIn_ret (c [] .ret m fr h a w (.refl _ _) (J4 _) s.nil b)
def seqQ (P:Program) (W0:Ac) (N:Nat) (y:Code) (Q:Exit->EP->AHeap->Prop):Exit->EP->AHeap->Prop
 |.normal,fr,h=>M9 P W0 N y fr h Q
 |e,fr,h=>Q e fr h
def M9.seq {x y:Code} {Q:Exit->EP->AHeap->Prop} (p:M9 P W0 N x fr h (seqQ P W0 N y Q)):M9 P W0 N (.seq x y) fr h Q:=by
 intro d nn m a w s K j;refine wpIn_seq (p d nn m a w s _ fun new e k fr' h' a' w' c f n o=>?_);cases e with
 |normal=>exact o (d.more new) nn k a' w' n K fun b q m2 g h2 r t u i v z=>j (b++new) q m2 g h2 r t (c.trans u f) (Jh f i) (d.mD new b▸v) z
 |_=>exact j new _ k fr' h' a' w' c f n o
def M9.cond {c:Operand} {x y:Code} {t:Bool} {Q:Exit->EP->AHeap->Prop} (e:evalO fr c=some (.bool t)) (f:t=true->M9 P W0 N x fr h Q) (hf:t=false->M9 P W0 N y fr h Q):
  M9 P W0 N (.cond c x y) fr h Q:=by
 intro b nn m a w s K d;refine wpIn_cond (t:=t) (Yf s.frame e).DN ?_;cases t with
 |true=>exact f rfl b nn m a w s K d
 |false=>exact hf rfl b nn m a w s K d
def blockQ (i:Nat) (Q:Exit->EP->AHeap->Prop):Exit->EP->AHeap->Prop
 |.exit j,fr,h=>if j=i then Q .normal fr h else Q (.exit j) fr h
 |e,fr,h=>Q e fr h
def M9.block {i:Nat} {c:Code} {Q:Exit->EP->AHeap->Prop} (p:M9 P W0 N c fr h (blockQ i Q)):M9 P W0 N (.block i c) fr h Q:=by
 intro q nn m a w s K f;refine wpIn_block (p q nn m a w s _ fun new e g fr' h' a' w' b k n d=>?_);cases e with
 |exit j=>
  simp only[blockQ]at d;simp only[Exit.inBlock];split
  .rename_i o;rw[if_pos o]at d;exact f _ _ g fr' h' a' w' b k n d
  .rename_i o;rw[if_neg o]at d;exact f _ _ g fr' h' a' w' b k n d
 |_=>exact f _ _ g fr' h' a' w' b k n d
def M9.region {i:Nat} {os:List Oper} {Q:Exit->EP->AHeap->Prop} (c:Sx P W0 N os.toArray os fr h (Q .normal)):M9 P W0 N (.region i os.toArray false) fr h Q:=by
 intro d nn m a w s K e;exact wpIn_region_lit (c d nn m a w s K fun f fr' h' a' w' b g j k=>e [] .normal f fr' h' a' w' b g j.nil k)
def Sub (fr fr':EP):Prop:=∀k v,fr.get k=some v->fr'.get k=some v
def exists_least (p:Nat->Prop) (e:∃k,p k):∃k,p k/\∀j,p j->k<=j:=by
 obtain⟨k,f⟩:=e
 induction k using Nat.strongRecOn with
 |_ k g=>
  by_cases d:∃j,j<k/\p j
  .obtain⟨j,a,b⟩:=d;exact g j a b
  .exact⟨k,f,fun j a=>aai fun c=>d ⟨j,c,a⟩⟩
def po (I:Nat->EP->AHeap->Prop) (k:Nat) (Q:Exit->EP->AHeap->Prop):Exit->EP->AHeap->Prop
 |.normal,fr,h=>∃a,a<k/\∃fr',Sub fr' fr/\I a fr' h
 |e,fr,h=>Q e fr h
def M9.loop {c:Code} {Q:Exit->EP->AHeap->Prop} (I:Nat->EP->AHeap->Prop) (k0:Nat) (i:EP) (o:Sub i fr) (M:I k0 i h)
  (O:∀k fr h,I k fr h->M9 P W0 N c fr h (po I k Q)):M9 P W0 N (.loop c) fr h Q:=by
 intro t nn m a w s K R
 let J:Nat->Act->World->Prop:=fun k a' w'=>∃new E fr' h',Yk h.next m E/\h.next<=h'.next/\St W0 (t.more new) N E fr' h' a' w'/\I k fr' h'
 let μ:Act->World->Nat:=fun a' w'=>@dite _ (∃k,J k a' w') (Classical.propDecidable _) (fun d=>Classical.choose (exists_least _ d)) (fun _=>0);have F:∀a' w',(d:∃k,J k a' w')->J (μ a' w') a' w'/\∀j,J j a' w'->μ a' w'<=j:=by
  intro a' w' d;have:μ a' w'=Classical.choose (exists_least _ d):=by simp only[μ];rw[dif_pos d]
  rw[this];exact DC (exists_least _ d)
 refine wpIn_loop (fun a' w'=>∃k,J k a' w') μ ⟨k0,[],m,i,h,.refl _ _,J4 _,St.nil ⟨s.rel,fun k v e=>s.frame k v (o k v e),s.defers,s.size,s.round⟩,M⟩ ?_;intro G w1 d;obtain⟨⟨p,m1,u,S,f,b,s1,T⟩,_⟩:=F G w1 d;refine O _ u S T (t.more p) nn m1 G w1 s1 _ fun H e m2 x h2 y z g q s2 L=>?_;rw[t.mD]at s2;cases e with
 |normal=>
  obtain⟨r,A,B,n,C⟩:=L;have D:J r y z:=⟨_,m2,B,h2,f.trans g b,Jh b q,⟨s2.rel,fun k v e=>s2.frame k v (n k v e),s2.defers,s2.size,s2.round⟩,C⟩;exact⟨⟨r,D⟩,NV ((F y z ⟨r,D⟩).2 r D) A⟩
 |_=>exact R _ _ m2 x h2 y z (f.trans g b) (Jh b q) s2 L
def aresult (P:Program) (fr:EP) (h:AHeap):ResultVar->Option Value
  |.tmp t=>fr.get t
  |.cell a t=>match fr.get a with
    |some (.pointer (some b))=>aload P h t b
    |_=>none
def aresultL (P:Program) (fr:EP) (h:AHeap):List ResultVar->Option (List Value)
  |[]=>some []
  |r::rs=>match aresult P fr h r with
    |some v=>match aresultL P fr h rs with|some l=>some (v::l)|none=>none
    |none=>none
def aresults (P:Program) (fr:EP) (h:AHeap) (rs:List ResultVar):Option Value:=
 match aresultL P fr h rs with
 |some [v]=>some v
 |some l=>some (.tuple l.toArray)
 |none=>none
def Hp (tmps:Array Value):ResultVar->Sem Value
 |.tmp t=>Pure.pure (tmps.getD t undef)
 |.cell x t=>do loadVar t (<-asAddr (tmps.getD x undef))
def Nu (fn:Func) (tmps:Array Value):results fn tmps=(fn.results.mapM (Hp tmps) >>= fun vs=>Pure.pure (if h:vs.size=1 then vs[0]else .tuple vs)):=by
 unfold results;congr 2
def OX {g:Cx} {m:Ti} {a:Act} {w:World} (s:St W0 g N m fr h a w) {r:ResultVar} {v:Value} (e:aresult P fr h r=some v):
  ∃v',(Hp a.tmps r).run P w=.ok v' w/\VR h.next m v v':=by
 cases r with
 |tmp t=>
  obtain⟨v',b,h2⟩:=s.frame t v e;exact⟨v',by simp[Hp,b],h2⟩
 |cell x t=>
  simp only[aresult]at e;split at e
  .rename_i j c
   obtain⟨v',b,h2⟩:=s.frame x _ c;obtain⟨a',rfl,d⟩:=h2.oK;obtain⟨f,h3,i⟩:=s.rel.loadVar (P:=P) d e;exact⟨f,by simp[Hp,b,asAddr,h3],i⟩
  .cases e
def YT {b:Cx} {m:Ti} {a:Act} {w:World} (s:St W0 b N m fr h a w):∀{rs:List ResultVar} {l:List Value},aresultL P fr h rs=some l->
  ∃l',(rs.mapM (Hp a.tmps)).run P w=.ok l' w/\xC h.next m l l'
 |[],l,e=>by simp[aresultL]at e;subst e;exact⟨[],YX,.nil _ _⟩
 |r::rs,l,e=>by
  simp only[aresultL]at e;split at e
  .rename_i v c
   split at e
   .rename_i l0 d
    injection e with e;subst e;obtain⟨v',f,h2⟩:=OX s c;obtain⟨l',h3,g⟩:=YT s d;refine⟨v'::l',?_,.cons h2 g⟩;simp only[List.mapM_cons,Sem.run_bind,Sem.run_pure,f,h3,Result.andThen_ok]
   .cases e
  .cases e
def Hv {g:Cx} {m:Ti} {a:Act} {w:World} (s:St W0 g N m fr h a w) {fn:Func} {v:Value} (e:aresults P fr h fn.results.toList=some v):
  ∃v',(results fn a.tmps).run P w=.ok v' w/\VR h.next m v v':=by
 unfold aresults at e
 have key:∀l,aresultL P fr h fn.results.toList=some l->∃l',(results fn a.tmps).run P w=.ok (if f:l'.toArray.size=1 then l'.toArray[0]else .tuple l'.toArray) w/\xC h.next m l l':=by
  intro l b;obtain⟨l',c,h2⟩:=YT s b;refine⟨l',?_,h2⟩;rw[Nu,qL226,map_eq_pure_bind];simp only[Sem.run_bind];rw[c];rfl
 split at e
 .rename_i u b
  injection e with e;subst e;obtain⟨l',c,h2⟩:=key _ b
  match l',h2 with
  |[v'],h2=>exact⟨v',c,h2.2 0 u v' rfl rfl⟩
  |[],h2|_::_::_,h2=>simp[xC]at h2
 .rename_i l d b
  injection e with e;subst e;obtain⟨l',c,h2⟩:=key _ b;refine⟨.tuple l'.toArray,?_,.WE (by simpa using h2)⟩;rw[c];have:¬(l'.toArray.size=1):=by
   intro f;have hlen:l.length=1:=by rw[h2.1];simpa using f
   match l,hlen with
   |[u],_=>exact d u rfl
  rw[dif_neg this]
 .cases e
def argFrom (k:Nat) (fr:EP):List Value->EP
 |[]=>fr
 |v::r=>argFrom (k+1) (fr.set k v) r
def Xr (args:List Value):EP:=argFrom 0 .leaf args
def rQ:∀(args:List Value) (k:Nat) (fr:EP) (j:Nat) (v:Value),(argFrom k fr args).get j=some v->(fr.get j=some v/\(j<k\/k+args.length<=j))\/(k<=j/\args[j-k]?=some v)
 |[],k,fr,j,v,h=>by simp only[argFrom]at h;by_cases b:j<k;exact .inl ⟨h,.inl b⟩;exact .inl ⟨h,.inr (by simp;omega)⟩
 |u::r,k,fr,j,v,h=>by
  simp only[argFrom]at h;rcases rQ r (k+1) (fr.set k u) j v h with⟨a,h2⟩|⟨a,h2⟩
  .rw [Trie.C5] at a
   by_cases b:j=k
   .subst b;rw[if_pos rfl]at a;injection a with a;subst a;exact .inr ⟨J4 _,YX⟩
   .rw [if_neg b] at a
    refine .inl ⟨a,?_⟩;rcases h2 with h2|h2
    .exact .inl QT
    .exact .inr (by simp;omega)
  .refine .inr ⟨QT, ?_⟩
   rw[show j-k=(j-(k+1))+1 from by omega];simpa using h2
def Rel.turn {m:Ti} {w:World} {W:World} {n0:Nat} {m0:Ti} {A Z:List (Nat×Obj)} {b:Nat} {o:Obj} (g:Obj) (R:Rel ⟨W,A++(b,o)::Z,n0,m0⟩ m h w):Rel ⟨W,A++(b,g)::Z,n0,m0⟩ m h (w.putObj b g):=by
 have d:(b,o)∈A++(b,o)::Z:=by simp
 have hb:b<w.heap.size:=R.Oi.lt d;have n:W.heap.size<=b:=R.Oi.hi b o d;have p:((A++(b,o)::Z).map (·.1)).Nodup:=R.Oi.Uv;have q:((A++(b,g)::Z).map (·.1)).Nodup:=by simpa using p
 have f:∀x y,(x,y)∈A++(b,g)::Z->(x=b/\y=g)\/(x≠b/\(x,y)∈A++(b,o)::Z):=by
  intro x y a;simp only[qy,Kj,KM,tS,T8,aH]at p;obtain⟨_,⟨t,_⟩,ha⟩:=p;simp only[uK,aH,Ig]at a ⊢;rcases a with a|a|a
  .exact .inr ⟨fun e=>ha x ⟨_,a,rfl⟩ b (.inl rfl) e,.inl a⟩
  .exact .inl a
  .exact .inr ⟨fun e=>t ⟨_,a,e⟩,.inr (.inr a)⟩
 have j:∀i,h.own i≠none->(m i).blk≠b:=fun i hi=>R.Oi.apart b o i d hi
 refine⟨by simpa using R.size,fun k s=>?_,R.ext,R.lt,R.new,fun i x hi=>?_,R.inj,R.os,R.output,R.tape,⟨R.Oi.agree,R.Oi.next,q,fun x y a=>?_,fun x y a=>?_,fun x y i a hi=>?_⟩⟩
 .rw[World.putObj_heap_other (by have:k<W.heap.size:=s;omega)];exact R.cW k s
 .exact Rel.y3 (R.own i x hi) (J4 _) (Yk.refl _ _) (World.putObj_heap_other (j i (by rw[hi];simp)))
 .rcases f x y a with ⟨rfl, rfl⟩ | ⟨_, c⟩
  .exact n
  .exact R.Oi.hi x y c
 .rcases f x y a with ⟨rfl, rfl⟩ | ⟨r, c⟩
  .exact World.putObj_heap_same hb
  .rw[World.putObj_heap_other r];exact R.Oi.held x y c
 .rcases f x y a with ⟨rfl, rfl⟩ | ⟨_, c⟩
  .exact j i hi
  .exact R.Oi.apart x y i c hi
def Rel.BO {m:Ti} {w:World} {W:World} {rw:List (Nat×Obj)} {n0 n1:Nat} {m0 m1:Ti} (R:Rel ⟨W,rw,n0,m0⟩ m h w) (ha:Yk n1 m1 m) (a:n1<=h.next):Rel ⟨W,rw,n1,m1⟩ m h w:=
 ⟨R.size,R.cW,R.ext,R.lt,R.new,R.own,R.inj,R.os,R.output,R.tape,⟨ha,a,R.Oi.Uv,R.Oi.hi,R.Oi.held,R.Oi.apart⟩⟩
def Rel.less {m:Ti} {w:World} {W:World} {n0:Nat} {m0:Ti} {x:Nat×Obj} {Z:List (Nat×Obj)} (R:Rel ⟨W,x::Z,n0,m0⟩ m h w):Rel ⟨W,Z,n0,m0⟩ m h w:=
 ⟨R.size,R.cW,R.ext,R.lt,R.new,R.own,R.inj,R.os,R.output,R.tape,⟨R.Oi.agree,R.Oi.next,by have:=R.Oi.Uv;simp only[Kj,tS]at this;exact this.2,fun b o hb=>R.Oi.hi b o (.tail _ hb),fun b o hb=>R.Oi.held b o (.tail _ hb),fun b o i hb hi=>R.Oi.apart b o i (.tail _ hb) hi⟩⟩
def AH {fn:Func} {tmps:Array Value} {m:Ti} {R:Ending->World->Prop} {ex:List (Nat×Obj)}:∀(new:wi) {w:World},Rel (W0.add (new.map RY++ex)) m h w->
  (∀w',Rel (W0.add ex) m h w'->LeavesInM Fence.wide 0 P fn tmps R [] .returning w')->LeavesInM Fence.wide 0 P fn tmps R (new.map mkOf) .returning w
 |[],w,r,a=>a w r
 |b::new,w,r,a=>by
  refine⟨YX,.inl ⟨b,_,rfl,run_takeDeferred (ds:=[]) (r.Oi.held b _ (by simp[Ac.add,RY])),AH new ?_ a⟩⟩;have r2:Rel ⟨W0.toWorld,[]++(b,.deferred (some []))::((new.map RY++ex)++W0.rw),W0.n0,W0.m0⟩ m h w:=by simpa[Ac.add,RY]using r
  exact(r2.turn (.deferred none)).less
def AC.body {f:FuncId} {args:List Value} {fn:Func} {c:Code} {R:Value->AHeap->Prop} (hg:Good P f fn c) (hlen:args.length<=fn.ntmps)
  (t:M9 P W0 fn.ntmps c (Xr args) h fun e fr' h'=>(e=.normal\/e=.ret)/\∃v,aresults P fr' h' fn.results.toList=some v/\R v h'):AC P W0 f args h R:=by
 intro ex m w a r q;refine callsIn_wide.1 (callsIn_of_wp_marks (n:=0) hg.func hg.body trivial ?_);have s:St W0 ⟨ex,[],none⟩ fn.ntmps m (Xr args) h {tmps:=a.toArray++Array.replicate (fn.ntmps-a.toArray.size) undef,defers:=[]} w:=by
  refine⟨r,fun k v j=>?_,rfl,?_,fun l e=>by cases e⟩
  .rcases rQ args 0 .leaf k v j with ⟨o, _⟩ | ⟨_, h2⟩
   .simp[Trie.get]at o
   .obtain ⟨v', h3, u⟩ := q.get (i := k) (by simpa using h2)
    refine⟨v',?_,u⟩;have:k<a.length:=(bH.1 h3).1;rw[EV (by simpa using this)];simpa using h3
  .have:=q.1;simp;omega
 refine t ⟨ex,[],none⟩ 0 m _ w s _ fun new e b fr' h' a' w' p x g y=>?_;obtain⟨z,v,j,hR⟩:=y;have A:∀d,Rel (W0.add ex) b h' d->St W0 ⟨ex,[],none⟩ fn.ntmps b fr' h' {tmps:=a'.tmps,defers:=[]} d:=fun d r2=>⟨r2,g.frame,rfl,g.size,fun l e=>by cases e⟩
 have B:LeavesInM Fence.wide 0 P fn a'.tmps (fun e w'=>∃v v' b h',e=.returned v'/\Rel (W0.add ex) b h' w'/\Yk h.next m b/\h.next<=h'.next/\VR h'.next b v v'/\R v h') a'.defers .returning w':=by
  have C:a'.defers=new.map mkOf:=by simpa[Cx.more,keepN]using g.defers
  have D:Rel (W0.add (new.map RY++ex)) b h' w':=by simpa[Cx.more,keepN]using g.rel
  rw[C];refine AH new D fun d r2=>?_;obtain⟨v',o,h2⟩:=Hv (fn:=fn) (A d r2) j;exact⟨v',o,v,v',b,h',rfl,r2,p,x,h2,hR⟩
 rcases z with rfl|rfl<;>exact B
section
variable {P : Program} {W0 : Ac} {N : Nat} {ops : Array Oper} {l : List Oper} {fr : EP} {h : AHeap}
def Kc (l:Nat):Value:=.func (.yield l) #[] #[]
def AY (P:Program) (W0:Ac) (b:Nat) (args:List Value) (h:AHeap) (R:Value->AHeap->Prop):Prop:=
 ∀ex ro nn m w a,Rel (W0.add ex) m h w->xC h.next m args a->
  ∃f tmps assign body,(Instr.yield b a.toArray).run P w=.ok (.round b f tmps assign body) w/\
   RoundIn (Fv ro) nn P b f tmps assign body w (fun e w'=>∃v v' c h',e=.returned v'/\Rel (W0.add ex) c h' w'/\Yk h.next m c/\h.next<=h'.next/\VR h'.next c v v'/\R v h')
def AY.mono {b:Nat} {args:List Value} {R R':Value->AHeap->Prop} (c:AY P W0 b args h R) (d:∀v h,R v h->R' v h):AY P W0 b args h R':=
 fun ex ro nn m w a r e=>let⟨f,tmps,assign,body,g,h2⟩:=c ex ro nn m w a r e
  ⟨f,tmps,assign,body,g,h2.mono fun _ _ ⟨v,v',i,h',j,k,n,o,p,q⟩=>⟨v,v',i,h',j,k,n,o,p,d _ _ q⟩⟩
def AY.post {b:Nat} {args:List Value} {R:Value->AHeap->Prop} (d:AY P W0 b args h R):AY P W0 b args h fun v h'=>(∀i,h'.own i≠none->i<h'.next)/\R v h':=
 fun ex ro nn m w a r e=>let⟨f,tmps,assign,body,g,h2⟩:=d ex ro nn m w a r e
  ⟨f,tmps,assign,body,g,h2.mono fun _ _ ⟨v,v',j,h',k,c,n,o,p,q⟩=>⟨v,v',j,h',k,c,n,o,p,c.lt,q⟩⟩
def yieldOf (fr:EP) (o:Oper):Option (Nat×List Value):=
  match o.op with
  |.call {callee:=.value f,args,..}=>match evalO fr f,evalL fr args.toList with
    |some (.func (.yield g) first _),some vs=>some (g,first.toList++vs)
    |_,_=>none
  |_=>none
def Sx.yield {o:Oper} {Q:EP->AHeap->Prop} {E:Nat} {args:List Value} (hw:wantA ops fr o=some true) (d:yieldOf fr o=some (E,args))
  (G:AY P W0 E args h fun v h'=>∃fr',putDst N fr o.dst v=some fr'/\Sx P W0 N ops l fr' h' Q):Sx P W0 N ops (o::l) fr h Q:=by
 intro t nn m a w s K H;unfold yieldOf at d;split at d
 .rename_i f as ats n
  split at d
  .rename_i F first cap vs hf u
   injection d with d;simp only[Ig]at d;obtain⟨rfl,rfl⟩:=d;have p:=Yf s.frame hf;have y:=bD s.frame u;unfold wpListIn;rw[if_pos (Fk s.frame hw)];refine LL (fun c e=>by rw[n]at e;cases e) ?_
   have key:∃b cap',a.eval f=.func (.yield F) b cap'/\xC h.next m first.toList b.toList:=by
    generalize a.eval f=x at p;cases p with
    |flat hf=>simp[Fw.flat]at hf
    |func I h2 h3 X=>
     exact⟨_,_,rfl,⟨by simpa using I,fun i v v' e e'=>h3 i v v' (by simpa using e) (by simpa using e')⟩⟩
   obtain⟨b,cap',z,A⟩:=key
   obtain⟨J,tmps,assign,body,j,g⟩:=G t.ex t.ro (nn-1) m w (b.toList++as.toList.map a.eval) s.rel (A.append y)
   have q:(execOp a.eval o).run P w=.ok (.round F J tmps assign body) w:=by
    have B:(b++as.map a.eval)=(b.toList++as.toList.map a.eval).toArray:=by
     apply XX.1;simp
    simp only[execOp,n,resolve,z,Deferred.ofValue,Sem.run_bind,Sem.run_pure,Result.andThen_ok,invoke,B,j]
   rw[q];refine⟨(fun L=>by cases L),g.mono ?_⟩;rintro e w' ⟨v,v',M,h',rfl,R',r,C,O,fr',R,k⟩;exact k t nn M _ w' (s.put R' r C O R) K fun m2 D h2 S T B U V W=>H m2 D h2 S T (r.trans B C) (Jh C U) V W
  .cases d
 .cases d
def putPs:List Tmp->List Value->EP->EP
 |p::ps,v::vs,fr=>putPs ps vs (fr.set p v)
 |_,_,fr=>fr
def Za {n:Nat} {m:Ti}:∀{ps:List Tmp} {vs a:List Value} {fr:EP} {tmps:Array Value},FR n m fr tmps->xC n m vs a->(∀p∈ps,p<tmps.size)->
  FR n m (putPs ps vs fr) ((ps.zip a).foldl (fun tmps x=>tmps.setIfInBounds x.1 x.2) tmps)/\((ps.zip a).foldl (fun tmps x=>tmps.setIfInBounds x.1 x.2) tmps).size=tmps.size
 |[],vs,a,fr,tmps,F,_,_=>⟨by simpa[putPs]using F,rfl⟩
 |p::ps,[],a,fr,tmps,F,c,_=>by
  have:a=[]:=b7 (by rw[<-c.1];rfl);subst this;exact⟨by simpa[putPs]using F,rfl⟩
 |p::ps,v::vs,[],fr,tmps,F,c,_=>by simp[xC]at c
 |p::ps,v::vs,v'::a,fr,tmps,F,c,f=>by
  have g:VR n m v v':=c.2 0 v v' rfl rfl;have i:xC n m vs a:=by simpa using c.drop 1
  have d:=f p YX;have j:FR n m (fr.set p v) (tmps.setIfInBounds p v'):=fun k u b=>by
   rw[Trie.C5]at b;by_cases e:k=p
   .subst e;rw[if_pos rfl]at b;injection b with b;subst b;exact⟨v',by simp[d],g⟩
   .rw [if_neg e] at b
    obtain⟨u',o,r⟩:=F k u b;exact⟨u',by simp[Hn e,o],r⟩
  have:=Za (ps:=ps) j i (fun q s=>by simpa using f q (by simp[s]));simpa[putPs]using this
def Rel.push {m:Ti} {w:World} {W:World} {n0:Nat} {m0:Ti} {rw:List (Nat×Obj)} (R:Rel ⟨W,rw,n0,m0⟩ m h w) (o:Obj):Rel ⟨W,(w.heap.size,o)::rw,n0,m0⟩ m h (w.alloc o):=by
 have b:∀x y,(x,y)∈rw->x<w.heap.size:=fun x y a=>R.Oi.lt a;have c:W.heap.size<=w.heap.size:=R.size
 refine⟨by have:=R.size;simp at this ⊢;omega,fun k d=>?_,R.ext,R.lt,R.new,fun i x hi=>?_,R.inj,R.os,R.output,R.tape,⟨R.Oi.agree,R.Oi.next,?_,fun x y a=>?_,fun x y a=>?_,fun x y i a hi=>?_⟩⟩
 .rw[heap_alloc_old w _ k (by have:k<W.heap.size:=d;omega)];exact R.cW k d
 .exact Rel.y3 (R.own i x hi) (J4 _) (Yk.refl _ _) (heap_alloc_old w _ _ (R.pG (by rw[hi];simp)))
 .rw [Kj, tS]
  refine⟨fun a=>?_,R.Oi.Uv⟩;obtain⟨⟨x,y⟩,e,f⟩:=T8.1 a;have:=b x y e;simp at f;omega
 .rcases aH.1 a with a | a
  .cases a;exact c
  .exact R.Oi.hi x y a
 .rcases aH.1 a with a | a
  .cases a;exact heap_alloc_new w _
  .rw[heap_alloc_old w _ x (b x y a)];exact R.Oi.held x y a
 .rcases aH.1 a with a | a
  .cases a;have:=R.pG hi;omega
  .exact R.Oi.apart x y i a hi
def U9 (st:LoopState) (f:FuncId) (tmps:Array Value) (ps:Array Tmp) (assign body:Code) (D:Nat):Loop:={state:=st,pending:=none,fn:=f,tmps:=tmps,params:=ps,assign:=assign,body:=body,defers:=D}
def ZT {b:Cx} {m:Ti} {a:Act} {w:World} (s:St W0 b N m fr h a w) (f:FuncId) (ps:Array Tmp) (assign body:Code):
  ∃e mark w1 D new,(Instr.enterLoop f a.tmps ps assign body b.ro).run P w=.ok (e,mark) w1/\Rel (W0.add ((e,.loop (U9 .ready f a.tmps ps assign body D))::(b.more new).ex)) m h w1/\mark++b.ds=(b.more new).ds:=by
 cases c:b.ro with
 |none=>
  refine⟨_,_,_,w.heap.size,[w.heap.size],run_enterLoop_outer f a.tmps ps assign body,?_,?_⟩
  .have r1 : Rel ⟨W0.toWorld, b.ex ++ W0.rw, W0.n0, W0.m0⟩ m h w := s.rel
   have r2:=(r1.push (.deferred (some []))).push (.loop (U9 .ready f a.tmps ps assign body w.heap.size));rw[World.size_alloc]at r2;simpa[Ac.add,Cx.more,c,keepN,RY,U9]using r2
  .simp[Cx.more,c,keepN,mkOf]
 |some l'=>
  obtain⟨r,g⟩:=s.round l' c;have d:w.heap[l']?=some (.loop r):=s.rel.Oi.held l' _ g;refine⟨w.heap.size,[],w.alloc (.loop (U9 .ready f a.tmps ps assign body r.defers)),r.defers,[],?_,?_,?_⟩
  .unfold Instr.enterLoop
   simp only[Sem.run_bind,run_getLoop d,Result.andThen,Sem.run_pure,run_newObj_alloc];rfl
  .have r1 : Rel ⟨W0.toWorld, b.ex ++ W0.rw, W0.n0, W0.m0⟩ m h w := s.rel
   rw[Cx.ZM];exact r1.push (.loop (U9 .ready f a.tmps ps assign body r.defers))
  .rw[Cx.ZM];rfl
def Rnd (P:Program) (W0:Ac) (N:Nat) (ps:Array Tmp) (fr:EP) (assign body:Code) (args:List Value) (h:AHeap) (R:Value->AHeap->Prop):Prop:=
 M9 P W0 N assign (putPs ps.toList args fr) h fun e a h2=>e=.normal/\M9 P W0 N body a h2 fun e _ h3=>e=.normal/\R (.bool true) h3
def Wq (ps:Array Tmp) (vs:List Value) (tmps:Array Value):(ps.zip vs.toArray).foldl (fun tmps (x:Tmp×Value)=>tmps.setIfInBounds x.1 x.2) tmps=(ps.toList.zip vs).foldl (fun tmps x=>tmps.setIfInBounds x.1 x.2) tmps:=by
 rw[<-Array.foldl_toList,Array.toList_zip]
def AY.Vp {ps:Array Tmp} {assign body:Code} {m:Ti} {tmps:Array Value} {ex:List (Nat×Obj)} {a D:Nat} {f:FuncId} {args:List Value} {v:AHeap} {R:Value->AHeap->Prop}
  (F:FR h.next m fr tmps) (L:tmps.size=N) (C:∀p∈ps.toList,p<N) (hlen:args.length=ps.size) (E:Yk W0.n0 W0.m0 m) (A:W0.n0<=h.next) (w:h.next<=v.next) (T:Rnd P W0 N ps fr assign body args v R):
  AY P ⟨W0.toWorld,(a,.loop (U9 .ready f tmps ps assign body D))::(ex++W0.rw),h.next,m⟩ a args v R:=by
 intro b ro nn m1 w1 g U M
 have G:Rel ⟨W0.toWorld,b++(a,.loop (U9 .ready f tmps ps assign body D))::(ex++W0.rw),h.next,m⟩ m1 v w1:=U
 have s:Yk h.next m m1:=G.Oi.agree
 have y:=G.Oi.held a _ (by simp:(a,Obj.loop (U9 .ready f tmps ps assign body D))∈b++(a,.loop (U9 .ready f tmps ps assign body D))::(ex++W0.rw));have z:g.length=ps.size:=by rw[<-M.1];exact hlen
 refine⟨f,_,assign,body,run_yield y (by simpa[U9]using z),?_⟩;have V:=F.mono w s;have t:=Za (ps:=ps.toList) V M (fun p W=>by rw[L];exact C p W);refine roundIn_of_wpIn trivial ?_
 have key:∀{st:LoopState} {m2:Ti} {h2:AHeap} {n:World},Rel ⟨W0.toWorld,b++(a,.loop (U9 st f tmps ps assign body D))::(ex++W0.rw),h.next,m⟩ m2 h2 n->
   Rel (W0.add (b++(a,.loop (U9 st f tmps ps assign body D))::ex)) m2 h2 n:=by
  intro st m2 h2 n r
  have:=r.BO (n1:=W0.n0) (m1:=W0.m0) (E.trans r.Oi.agree A) (Jh A r.Oi.next)
  simpa[Ac.add]using this
 have back:∀{st:LoopState} {m2:Ti} {h2:AHeap} {n:World},Rel (W0.add (b++(a,.loop (U9 st f tmps ps assign body D))::ex)) m2 h2 n->Yk v.next m1 m2->v.next<=h2.next->
   Rel ⟨W0.toWorld,b++(a,.loop (U9 st f tmps ps assign body D))::(ex++W0.rw),h.next,m⟩ m2 h2 n:=by
  intro st m2 h2 n r H X;have Y:Rel ⟨W0.toWorld,b++(a,.loop (U9 st f tmps ps assign body D))::(ex++W0.rw),W0.n0,W0.m0⟩ m2 h2 n:=by simpa[Ac.add]using r
  exact Y.BO (s.trans H w) (Jh w X)
 let c:LoopState->Cx:=fun st=>⟨b++(a,.loop (U9 st f tmps ps assign body D))::ex,[],some a⟩;have i:∀st new,(c st).more new=c st:=fun st new=>rfl;have d:∀st l,(c st).ro=some l->∃r,(l,Obj.loop r)∈(c st).ex++W0.rw:=fun st l e=>by
  have:a=l:=by injection e
  subst this;exact⟨U9 st f tmps ps assign body D,by simp[c]⟩
 have s1:St W0 (c .ready) N m1 (putPs ps.toList args fr) v {tmps:=(ps.zip g.toArray).foldl (fun tmps (x:Tmp×Value)=>tmps.setIfInBounds x.1 x.2) tmps,defers:=[]} w1:=by
  rw[Wq];exact⟨key G,t.1,rfl,t.2.trans L,d _⟩
 refine T (c .ready) nn m1 _ w1 s1 _ fun new e m2 I h2 Z n j k s2 J=>?_;obtain⟨rfl,J⟩:=J;rw[i]at s2;have O:=back s2.rel j k;have o:=O.Oi.held a _ (by simp:(a,Obj.loop (U9 .ready f tmps ps assign body D))∈b++(a,.loop (U9 .ready f tmps ps assign body D))::(ex++W0.rw));refine⟨_,run_beginRound o rfl,?_⟩;have q3:=O.turn (.loop (U9 .busy f tmps ps assign body D));have s3:St W0 (c .busy) N m2 I h2 Z (n.putObj a (.loop (U9 .busy f tmps ps assign body D))):=⟨key q3,s2.frame,s2.defers,s2.size,d _⟩;refine J (c .busy) nn m2 _ _ s3 _ fun new3 e3 m3 ad h3 a3 w3 u B Q K=>?_;obtain⟨rfl,hR⟩:=K;rw[i]at Q;have S:=back Q.rel (j.trans u k) (Jh k B);have q:=S.Oi.held a _ (by simp:(a,Obj.loop (U9 .busy f tmps ps assign body D))∈b++(a,.loop (U9 .busy f tmps ps assign body D))::(ex++W0.rw));refine⟨_,_,run_endRound none q,.bool true,.bool true,m3,h3,rfl,?_,j.trans u k,Jh k B,.flat rfl,hR⟩;exact S.turn (.loop (U9 .ready f tmps ps assign body D))
def M9.rangeFunc {g:Operand} {ps:Array Tmp} {assign body:Code} {Q:Exit->EP->AHeap->Prop} {gf:FuncId} {fn:Func} {c:Code} {first cap:Array Value}
  (hg:evalO fr g=some (.func (.func gf) first cap)) (f:Good P gf fn c) (F:ps.toList.all (fun p=>Nat.blt p N)=true)
  (G:∀(S:Ac) (d:Nat),(∀(args:List Value) (y:AHeap) (R:Value->AHeap->Prop),args.length=ps.size->h.next<=y.next->Rnd P W0 N ps fr assign body args y R->AY P S d args y R)->
   AC P S gf (first.toList++[Kc d]++cap.toList) h fun _ h'=>Q .normal fr h'):M9 P W0 N (.rangeFunc g ps assign body) fr h Q:=by
 intro C nn m a w s K V;refine wpIn_rangeFunc fun j _=>?_;obtain⟨d,mark,w1,D,new,k,W,n⟩:=ZT s j ps assign body;have z:=Yf s.frame hg
 have key:∃b cap',a.eval g=.func (.func gf) b cap'/\xC h.next m first.toList b.toList/\xC h.next m cap.toList cap'.toList:=by
  generalize a.eval g=x at z;cases z with
  |flat hf=>simp[Fw.flat]at hf
  |func y h2 h3 X=>
   exact⟨_,_,rfl,⟨by simpa using y,fun i v v' e e'=>h3 i v v' (by simpa using e) (by simpa using e')⟩,⟨by simpa using h2,fun i v v' e e'=>X i v v' (by simpa using e) (by simpa using e')⟩⟩
 obtain⟨b,cap',H,I,J⟩:=key
 have A:∀p∈ps.toList,p<N:=fun p Y=>by
  have:=jE.1 F p Y;simpa using this
 have B:Yk W0.n0 W0.m0 m:=s.rel.Oi.agree
 have o:W0.n0<=h.next:=s.rel.Oi.next
 have L:=G ⟨W0.toWorld,(d,.loop (U9 .ready j a.tmps ps assign body D))::((C.more new).ex++W0.rw),h.next,m⟩ d
  (fun args y R hlen M E=>AY.Vp s.frame s.size A hlen B o M E)
 have q:=L [] m w1 (b.toList++[Kc d]++cap'.toList) ?_ ((I.append (.cons (.func rfl rfl (fun i v v' e=>by simp at e) (fun i v v' e=>by simp at e)) (.nil _ _))).append J)
 .refine ⟨d, mark, w1, { target := .fn (.func gf) cap', args := b ++ #[Kc d] }, w1, gf, (b.toList ++ [Kc d] ++ cap'.toList).toArray, w1, k, ?_, fun _ _ => trivial, ?_, (fun Z => by cases Z), Ya (q.mono ?_)⟩
  .simp only [resolve, H, Deferred.ofValue, Sem.run_pure]
   simp[Act.eval,Kc]
  .have e1:b++#[Kc d]++cap'=(b.toList++[Kc d]++cap'.toList).toArray:=by
    apply XX.1;simp
   simp only[invoke,callFunc,Sem.run_bind,Sem.run_pure,run_program,f.func,f.name,Z2,if_false,f.body,bN,e1,Result.andThen_ok]
  .rintro e w' ⟨v, v', T, h', rfl, R', t, O, hv, hq⟩
   have U:Rel ⟨W0.toWorld,[]++(d,.loop (U9 .ready j a.tmps ps assign body D))::((C.more new).ex++W0.rw),h.next,m⟩ T h' w':=R'
   have u:=U.Oi.held d _ (by simp:(d,Obj.loop (U9 .ready j a.tmps ps assign body D))∈[]++(d,.loop (U9 .ready j a.tmps ps assign body D))::((C.more new).ex++W0.rw));refine⟨none,_,run_endLoop u (by simp[U9]),?_⟩;have q2:=(U.turn (.loop {U9 .ready j a.tmps ps assign body D with state:=.exhausted})).less.BO (n1:=W0.n0) (m1:=W0.m0) (B.trans t o) (Jh o O);refine V new .normal T fr h' _ _ t O ⟨q2,s.frame.mono O t,?_,s.size,fun l e=>?_⟩ hq
   .show mark ++ a.defers = _
    rw[s.defers];exact n
   .obtain ⟨r, E⟩ := s.round l e
    refine⟨r,?_⟩;simp only[Cx.more,Nd,uK]at E ⊢;exact .inr E
 .have r1 : Rel ⟨W0.toWorld, (d, .loop (U9 .ready j a.tmps ps assign body D)) :: ((C.more new).ex ++ W0.rw), W0.n0, W0.m0⟩ m h w1 := W
  exact r1.BO (Yk.refl _ _) (J4 _)
def j5 (o:Oper):Bool:=
 match o.op with
 |.call {callee:=.value _,..}=>true
 |_=>false
end
end Go.Fw
