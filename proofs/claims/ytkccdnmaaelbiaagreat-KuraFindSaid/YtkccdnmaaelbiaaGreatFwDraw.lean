/- A text. -/
import Derived.OrdersIn
import Derived.Orders
import Derived.Test.YtkccdnmaaelbiaaGreatFwRules
set_option linter.all false
set_option maxRecDepth 99999
set_option maxHeartbeats 9999999
namespace Go.Fw
section
variable {P : Program} {W0 : LA} {N : Nat} {ops : Array Oper} {fr : lC} {h : AHeap}
theorem aM {fr fr':lC} {x:Operand} (a:∀t,x=.tmp t->fr'.get t=fr.get t):evalO fr' x=evalO fr x:=by
 cases x with
 |tmp t=>exact a t rfl
 |_=>rfl
theorem YK {fr fr':lC}:∀{l:List Operand},(∀t,Operand.tmp t∈l->fr'.get t=fr.get t)->evalL fr' l=evalL fr l
 |[],_=>rfl
 |x::r,a=>by
  simp only[evalL];rw[aM (fun t e=>a t (by simp[e])),YK (fun t e=>a t (by simp[e]))]
theorem MU {fr fr':lC}:∀{l:List (Nat×Operand)},(∀t,Operand.tmp t∈l.map (·.2)->fr'.get t=fr.get t)->evalP fr' l=evalP fr l
 |[],_=>rfl
 |(i,x)::r,a=>by
  simp only[evalP];rw[aM (fun t e=>a t (by simp[e])),MU (fun t e=>a t pw)]
theorem tt {fr fr':lC} {x:Option Operand} (a:∀t,x=some (.tmp t)->fr'.get t=fr.get t):evalM fr' x=evalM fr x:=by
 cases x<;>grind [evalM,aM]
theorem qP {o:Oper} {t:Tmp} (h:Operand.tmp t∈o.op.operands.toList):t∈o.looksAt ops:=by
 unfold Oper.looksAt
 grind
theorem yE {fr fr':lC} {o:Oper} (g:∀t,t∈o.looksAt ops->fr'.get t=fr.get t):stepOp P fr' h o=stepOp P fr h o:=by
 have d:∀t,Operand.tmp t∈o.op.operands.toList->fr'.get t=fr.get t:=fun t j=>g t (qP j);unfold stepOp;cases m:o.op<;>rw[m]at d<;>simp only[Op.operands]at d
 case call c=>
  cases c with
  |mk callee args ats=>
   cases callee with
   |builtin b=>
    simp only[Call.operands]at d
    grind [YK]
   |_=>rfl
 case pick c a b=>
  grind [aM]
 case build t ps=>grind [MU]
 case buildSlice t n ps=>grind [MU]
 case makeFunc f a b=>grind [YK]
 case slice t x l hh mm=>
  simp only[];rw[aM (x:=x) (fun t e=>d t (by simp[e])),tt (x:=l) (fun t e=>d t (by simp[e])),tt (x:=hh) (fun t e=>d t (by simp[e])),tt (x:=mm) (fun t e=>d t (by simp[e]))]
 case lookup t x i ok=>
  grind [aM]
 case mapUpdate t x k y=>
  grind [aM]
 all_goals first
  |rfl
  |(rename_i x;simp only[];rw[aM (x:=x) (fun t e=>d t (by simp[e]))];done)
  |(rename_i _ x;simp only[];rw[aM (x:=x) (fun t e=>d t (by simp[e]))];done)
  |(rename_i x _;simp only[];rw[aM (x:=x) (fun t e=>d t (by simp[e]))];done)
  |(rename_i _ x _;simp only[];rw[aM (x:=x) (fun t e=>d t (by simp[e]))];done)
  |(rename_i _ _ x;simp only[];rw[aM (x:=x) (fun t e=>d t (by simp[e]))];done)
  |(rename_i _ x y;simp only[];rw[aM (x:=x) (fun t e=>d t (by simp[e])),aM (x:=y) (fun t e=>d t (by simp[e]))];done)
  |grind [aM]
theorem Us {fr fr':lC} {o:Oper} (a:∀t,t∈o.looksAt ops->fr'.get t=fr.get t):wantA ops fr' o=wantA ops fr o:=by
 unfold wantA;cases hg:o.guard with
 |none=>rfl
 |some p=>
  obtain⟨j,w⟩:=p;simp only[];cases hd:(ops[j]?).bind (·.dst)with
  |none=>rfl
  |some d=>
   simp only[];rw[a d (by unfold Oper.looksAt;grind)]
theorem Wf {fr fr':lC} {o:Oper} (b:∀t,t∈o.looksAt ops->fr'.get t=fr.get t):calleeOf fr' o=calleeOf fr o:=by
 have a:∀t,Operand.tmp t∈o.op.operands.toList->fr'.get t=fr.get t:=by grind [qP]
 unfold calleeOf
 cases d:o.op<;>try rfl
 rename_i c;cases c with
 |mk callee args ats=>
  cases callee with
  |value f=>
   simp only[Op.operands,Call.operands]at a
   grind [aM,YK]
  |_=>rfl
inductive DT where
 |done
 |no
 |fl (i:Nat) (t:DT)
 |ch (i:Nat) (pre:II) (t other:DT)
def ze (o:Oper):II:=(o.after.toList.filter fun e=>Region.binds .any e).map (·.on)
def predsAt (ops:Array Oper) (i:Nat):II:=match ops[i]? with|some o=>ze o|none=>[]
def Y1 (ops:Array Oper) (i:Nat):Option Tmp:=match ops[i]? with|some o=>o.dst|none=>none
def Vz (ops:Array Oper) (i:Nat):List Tmp:=match ops[i]? with|some o=>o.looksAt ops|none=>[]
def isFloat (o:Oper):Bool:=
 match o.op with
 |.move _|.assign _|.pick ..|.load ..|.nilCheck _|.binOp ..|.unOp ..|.makeInterface ..|.makeFunc ..|.slice ..|.fieldAddr ..|.field ..|.indexAddr ..|.index ..|.extract ..|.build ..=>true
 |.convert _ _ _=>true
 |.call {callee:=.builtin .len,..}|.call {callee:=.builtin .min,..}|.call {callee:=.builtin .max,..}=>true
 |_=>false
def noWar (ops:Array Oper) (i:Nat):Bool:=
 match Y1 ops i with
 |some d=>(List.range ops.size).all fun j=>!(Vz ops j).contains d||(j !=i&&(predsAt ops j).contains i)
 |none=>true
def lV (ops:Array Oper) (i:Nat):Bool:=
 match ops[i]? with
 |some o=>isFloat o&&noWar ops i
 |none=>false
def xx (ops:Array Oper) (rest:II):II:=rest.filter fun x=>(predsAt ops x).all fun p=>!rest.contains p
def isTop:DT->Bool
 |.no=>false
 |_=>true
def isAlt:DT->Bool
 |.no=>true
 |.ch ..=>true
 |_=>false
def treeOK (ops:Array Oper):II->II->DT->Bool
  |rest,_,.done=>rest.isEmpty
  |_,cs,.no=>cs.isEmpty
  |rest,_,.fl i t=>rest.contains i&&lV ops i&&(predsAt ops i).all (fun p=>!rest.contains p)&&isTop t&&treeOK ops (rest.filter fun x=>x !=i) (xx ops (rest.filter fun x=>x !=i)) t
  |rest,cs,.ch i pre t other=>rest.contains i&&(predsAt ops i).all (fun p=>!rest.contains p)&&pre.all (fun q=>(predsAt ops i).contains q)&&
      isTop t&&treeOK ops (rest.filter fun x=>x !=i) (xx ops (rest.filter fun x=>x !=i)) t&&isAlt other&&treeOK ops rest (cs.filter fun x=>x !=i) other
def ui (ops:Array Oper) (rest:II) (t:DT):Bool:=isTop t&&treeOK ops rest (xx ops rest) t
def gN (ops:Array Oper) (t:DT):Bool:=
 (List.range ops.size).all (fun i=>(predsAt ops i).all fun p=>Nat.blt p i)&&
 (List.range ops.size).all (fun i=>(List.range ops.size).all fun j=>i==j||
  match Y1 ops j with
  |some d=>(!(Vz ops i).contains d||(predsAt ops i).contains j||(predsAt ops j).contains i)&&Y1 ops i !=some d
  |none=>true)&&
 ui ops (List.range ops.size) t
def Holds (P:Program) (ops:Array Oper) (fr:lC) (h:AHeap) (p:Nat):Prop:=
  match ops[p]? with
  |some o=>match wantA ops fr o with
    |some true=>∃v,stepOp P fr h o=some (v,h)/\∀d,o.dst=some d->fr.get d=some v
    |some false=>∀d,o.dst=some d->fr.get d=some Yx
    |none=>False
  |none=>False
def HoldsAll (P:Program) (ops:Array Oper) (fr:lC) (h:AHeap):II->Prop
 |[]=>True
 |p::r=>Holds P ops fr h p/\HoldsAll P ops fr h r
def DW (P:Program) (W0:LA) (N:Nat) (ops:Array Oper) (Q:lC->AHeap->Prop):DT->II->lC->AHeap->Prop
  |.done,_,fr,h=>Q fr h
  |.no,_,_,_=>True
  |.fl i t,aac,fr,h=>
    match ops[i]? with
    |none=>False
    |some o=>
      match wantA ops fr o with
      |none=>False
      |some false=>match putDst N fr o.dst Yx with
        |none=>False
        |some fr'=>DW P W0 N ops Q t (i::aac) fr' h
      |some true=>match stepOp P fr h o with
          |none=>False
          |some (v,h')=>h'=h/\match putDst N fr o.dst v with
            |none=>False
            |some fr'=>DW P W0 N ops Q t (i::aac) fr' h
  |.ch i pre t other,aac,fr,h=>
    (match ops[i]? with
    |none=>False
    |some o=>
      match wantA ops fr o with
      |none=>False
      |some false=>match putDst N fr o.dst Yx with
        |none=>False
        |some fr'=>DW P W0 N ops Q t (aac.filter fun p=>!pre.contains p) fr' h
      |some true=>
          match Zm o with
          |true=>∃g args fn c,calleeOf fr o=some (g,args)/\Good P g fn c/\AC P W0 g args h fun v h'=>∃fr',putDst N fr o.dst v=some fr'/\
              HoldsAll P ops fr' h' (aac.filter fun p=>!pre.contains p)/\DW P W0 N ops Q t (aac.filter fun p=>!pre.contains p) fr' h'
          |false=>match stepOp P fr h o with
            |none=>False
            |some (v,h')=>match putDst N fr o.dst v with
              |none=>False
              |some fr'=>HoldsAll P ops fr' h' (aac.filter fun p=>!pre.contains p)/\DW P W0 N ops Q t (aac.filter fun p=>!pre.contains p) fr' h')/\
    DW P W0 N ops Q other aac fr h
theorem HoldsAll.mem {fr:lC} {h:AHeap}:∀{l:II},HoldsAll P ops fr h l->∀p∈l,Holds P ops fr h p
 |[],_,p,a=>by simp at a
 |q::r,hh,p,a=>by
  rcases EL.1 a with rfl|a
  .exact hh.1
  .exact HoldsAll.mem hh.2 p a
def delAll (fr:lC):List Tmp->lC
 |[]=>fr
 |d::r=>(delAll fr r).del d
theorem W6 (fr:lC) (k:Nat):∀(l:List Tmp),(delAll fr l).get k=if k∈l then none else fr.get k
 |[]=>by simp[delAll]
 |d::r=>by
  simp only[delAll,Trie.Ik,W6 fr k r,EL]
  grind
def KA (listed:Array Bool) (i:Nat):Bool:=!listed.getD i true
theorem J3 {a:Array Bool} {i j:Nat} (hi:KA a i=true):KA (a.setIfInBounds i true) j=(KA a j&&j !=i):=by
 unfold KA;simp only[js,mT]
 grind
def OT (n:Nat) (a:Array Bool):Nat:=(List.range n).countP (KA a)
theorem Hk {p q:Nat->Bool} {i:Nat}:∀{l:II},l.Nodup->i∈l->p i=true->q i=false->(∀j,j≠i->q j=p j)->l.countP q+1=l.countP p
 |[],_,h,_,_,_=>by simp at h
 |x::r,a,h,b,c,d=>by
  rw[aaf]at a;by_cases e:x=i
  .grind [List.countP_congr]
  .have hi : i ∈ r := pw
   have:=Hk a.2 hi b c d
   grind
theorem u7 {n i:Nat} {a:Array Bool} (hi:i<n) (b:KA a i=true):OT n (a.setIfInBounds i true)+1=OT n a:=by
 refine Hk VU (iy.2 hi) b ?_ ?_
 all_goals grind [J3]
theorem sk {n:Nat} {a:Array Bool} (h:OT n a=0) (i:Nat) (hi:i<n):KA a i=false:=by grind [OT,List.countP_eq_zero]
theorem QX {i:Nat} {o:Oper} (h:ops[i]?=some o):predsAt ops i=ze o:=by grind [predsAt]
theorem Rs {i:Nat} {o:Oper} (h:ops[i]?=some o):Y1 ops i=o.dst:=by grind [Y1]
theorem YZ {i:Nat} {o:Oper} (h:ops[i]?=some o):Vz ops i=o.looksAt ops:=by grind [Vz]
structure CK (ops:Array Oper):Prop where
 preds:∀i p,i<ops.size->p∈predsAt ops i->p<i
 pair:∀i j d,i<ops.size->j<ops.size->i≠j->Y1 ops j=some d->(d∈Vz ops i->j∈predsAt ops i\/i∈predsAt ops j)/\Y1 ops i≠some d
theorem CK.of {t:DT} (h:gN ops t=true):CK ops/\ui ops (List.range ops.size) t=true:=by
 simp only[gN,Lm,ff,iy,beq_iff_eq,ac0,ur,Nat.blt_eq]at h;obtain⟨⟨c,e⟩,a⟩:=h;refine⟨⟨pw,fun i j d hi f b hd=>?_⟩,a⟩
 grind
theorem PF {rest:II} {x:Nat}:x∈xx ops rest↔x∈rest/\∀p∈predsAt ops x,p∉rest:=by grind [xx]
structure Inv (P:Program) (N:Nat) (ops:Array Oper) (rest aac:II) (fr:lC) (h:AHeap) (listed:Array Bool):Prop where
 every:∀i,i<ops.size->KA listed i=true->i∈aac\/i∈rest
 Cf:∀i∈rest,KA listed i=true/\i<ops.size
 OF:∀p∈aac,p<ops.size/\p∉rest/\(∀q∈predsAt ops p,q∉rest)/\(∀d,Y1 ops p=some d->d<N)/\noWar ops p=true
 holds:∀p∈aac,KA listed p=true->Holds P ops fr h p
def BG (ops:Array Oper) (aac:II) (a:Array Bool):List Tmp:=(aac.filter (KA a)).filterMap (Y1 ops)
theorem WN {aac:II} {a:Array Bool} {t:Tmp}:t∈BG ops aac a↔∃p∈aac,KA a p=true/\Y1 ops p=some t:=by grind [BG]
theorem BV {fr fr':lC} {d:Option Tmp} {v:Value} (h:putDst N fr d v=some fr'):(∀k,d≠some k->fr'.get k=fr.get k)/\∀k,d=some k->fr'.get k=some v/\k<N:=by
 cases d<;>grind [putDst,Trie.bR,Trie.Xw]
theorem Holds.congr {fr fr':lC} {h:AHeap} {p:Nat} (hh:Holds P ops fr h p) (a:∀t∈Vz ops p,fr'.get t=fr.get t) (hd:∀d,Y1 ops p=some d->fr'.get d=fr.get d):Holds P ops fr' h p:=by
 unfold Holds at*;cases c:ops[p]? with
 |none=>grind
 |some o=>
  rw[c]at hh;simp only[]at hh ⊢;rw[YZ c]at a;rw[Rs c]at hd;rw[Us a];cases hw:wantA ops fr o with
  |none=>grind
  |some b=>
   rw[hw]at hh;cases b with
   |false=>grind
   |true=>obtain⟨v,e,h2⟩:=hh;exact⟨v,by rw[yE a];exact e,pw⟩
theorem Inv.yW {rest aac:II} {fr fr':lC} {h:AHeap} {g:Array Bool} {i:Nat} {o:Oper} {v:Value} (ok:CK ops)
  (l:Inv P N ops rest aac fr h g) (m:i∈rest) (n:∀p∈predsAt ops i,p∉rest) (A:ops[i]?=some o) (u:noWar ops i=true) (w:putDst N fr o.dst v=some fr') (y:Holds P ops fr' h i):
  Inv P N ops (rest.filter fun x=>x !=i) (i::aac) fr' h g:=by
 obtain⟨k,z⟩:=BV w;have hi:=l.Cf i m;have r:∀x,x∈rest.filter (fun x=>x !=i)↔x∈rest/\x≠i:=fun x=>by simp
 refine⟨fun j B s=>?_,(by grind [Inv.Cf]),fun p f=>?_,fun p f s=>?_⟩
 .grind [Inv.every]
 .rcases EL.1 f with rfl | f
  .grind [Rs]
  .obtain ⟨a, b, c, d⟩ := l.OF p f
   grind
 .rcases EL.1 f with rfl | f
  .exact y
  .obtain ⟨a, b, c, _⟩ := l.OF p f
   have q:p≠i:=pw;refine(l.holds p f s).congr (fun t C=>k t fun e=>?_) (fun d hd=>k d fun e=>?_)
   .grind [noWar,Rs]
   .exact(ok.pair i p d hi.2 a (uV q) hd).2 (by grind [Rs])
theorem SI {a:Array Bool} {q:Nat} (hs:q<a.size) (h:KA a q=false):a.getD q false=true:=by grind [KA]
theorem zG {a:Array Bool} {i:Nat} (h:i∈Region.ready .any ops a):KA a i=true/\i<ops.size/\∃o,ops[i]?=some o/\∀q∈ze o,KA a q=false:=by grind [Go.mem_ready,KA,ze]
theorem QS {a:Array Bool} (ok:CK ops) (hs:a.size=ops.size) (h:Region.ready .any ops a=[]):∀i,i<ops.size->KA a i=false:=by
 intro i
 induction i using Nat.strongRecOn with
 |_ i b=>
  intro hi;cases c:KA a i with
  |false=>rfl
  |true=>
   have:i∈Region.ready .any ops a:=by
    refine mem_ready.2 ⟨by grind [KA],ops[i],y5 hi,fun e d hb=>?_⟩;have f:e.on∈predsAt ops i:=by
     rw[QX (y5 hi)]
     grind [ze]
    grind [CK.preds,SI]
   grind
theorem PV {m:rC} {n:Nat} {o:Oper} {fr c:lC} {tmps:Array Value} {b:Bool} (F:FR n m c tmps) (d:∀t∈o.looksAt ops,c.get t=fr.get t) (hw:wantA ops fr o=some b):
  Region.wanted o (yielded ops tmps)=b:=
 tz (a:=⟨tmps,[]⟩) F (by grind [Us])
theorem Bz {p j:Nat} {d:Tmp} (h:noWar ops p=true) (hd:Y1 ops p=some d) (a:j<ops.size) (b:d∈Vz ops j):j≠p/\p∈predsAt ops j:=by grind [noWar]
theorem St.fill {f:Cx} {m e:rC} {b c:lC} {h h':AHeap} {a:Act} {w w':World} (s:St W0 f N m b h a w) (R':Rel (W0.add f.ex) e h' w') (g:ZK h.next m e) (j:h.next<=h'.next) {d:Option Tmp} {v v':Value} (l:VR h'.next e v v')
  (hf:∀k u,c.get k=some u->(d=some k/\u=v/\k<N)\/(d≠some k/\b.get k=some u)):St W0 f N e c h' (a.put d v') w':=by
 have F:=s.frame.mono j g;refine⟨R',fun k u n=>?_,?_,?_,?_⟩
 .rcases hf k u n with ⟨rfl, rfl, o⟩ | ⟨hd, hg⟩
  .exact⟨v',by simp[Act.put,s.size,o],l⟩
  .obtain ⟨u', i, h2⟩ := F k u hg
   refine⟨u',?_,h2⟩;cases d with
   |none=>exact i
   |some d=>
    have:d≠k:=pw;simp[Act.put,this,i]
 .cases d<;>exact s.defers
 .cases d<;>simp[Act.put,s.size]
 .exact s.round
theorem call_wp {k:Cx} {nn:Nat} {m:rC} {fr:lC} {h:AHeap} {a:Act} {w:World} (s:St W0 k N m fr h a w) {o:Oper} {g:FuncId} {args:List Value} {fn:Func} {c:Code} (d:calleeOf fr o=some (g,args)) (hg:Good P g fn c)
  {R:Value->AHeap->Prop} (u:AC P W0 g args h R) {r:Act->World->Prop} {K:Exit->Act->World->Prop}
  (D:∀v v' l h' w',ZK h.next m l->h.next<=h'.next->Rel (W0.add k.ex) l h' w'->VR h'.next l v v'->R v h'->r (a.put o.dst v') w'):o.wpIn (Xc k.ro) nn P a w r K:=by
 unfold calleeOf at d;split at d
 .rename_i f as ats n
  split at d
  .rename_i t first cap vs hf p
   injection d with d;simp only[kc]at d;obtain⟨rfl,rfl⟩:=d;have i:=Ns s.frame hf;have y:=PZ s.frame p;refine ph pw ?_
   have key:∃b cap',a.eval f=.func (.func t) b cap'/\AK h.next m first.toList b.toList/\AK h.next m cap.toList cap'.toList:=by
    generalize a.eval f=x at i;cases i with
    |flat hf=>grind [flat]
    |func E h2 h3 F=>
     exact⟨_,_,rfl,⟨pw,pw⟩,⟨pw,pw⟩⟩
   obtain⟨b,cap',q,z,A⟩:=key
   have j:(execOp a.eval o).run P w=.ok (.enter t ((b.toList++as.toList.map a.eval++cap'.toList).toArray)) w:=by
    have B:(b++as.map a.eval++cap')=(b.toList++as.toList.map a.eval++cap'.toList).toArray:=by simp
    simp only[execOp,n,resolve,q,Deferred.ofValue,Sem.run_bind,Sem.run_pure,Result.andThen_ok,invoke,callFunc,run_program,hg.func,hg.name,adN,if_false,hg.body,Dl,B]
   rw[j]
   have e:=u k.ex m w (b.toList++as.toList.map a.eval++cap'.toList) s.rel (by grind [AK.append])
   refine⟨(fun C=>by cases C),qN (e.mono ?_)⟩
   grind
  .cases d
 .cases d
theorem YF {g:Cx} {nn:Nat} {Q:lC->AHeap->Prop} {K:Exit->Act->World->Prop} {fuel:Nat}
  (U:∀(t:DT) (rest aac:II) (fr:lC) (h:AHeap) (b:Array Bool) (m:rC) (a:Act) (w:World),
   OT ops.size b=fuel->b.size=ops.size->Inv P N ops rest aac fr h b->ui ops rest t=true->DW P W0 N ops Q t aac fr h->St W0 g N m (delAll fr (BG ops aac b)) h a w->
   (∀l fr' h' a' w',ZK h.next m l->h.next<=h'.next->St W0 g N l fr' h' a' w'->Q fr' h'->K .normal a' w')->wpAnyIn (Xc g.ro) nn P .any ops K fuel b a w)
  {t:DT} {rest aac:II} {fr:lC} {h:AHeap} {b:Array Bool} {m:rC} {a:Act} {w:World}
  (hc:OT ops.size b=fuel+1) (hs:b.size=ops.size) (r:Inv P N ops rest aac fr h b) (x:ui ops rest t=true) (V:DW P W0 N ops Q t aac fr h) (s:St W0 g N m (delAll fr (BG ops aac b)) h a w)
  (W:∀l fr' h' a' w',ZK h.next m l->h.next<=h'.next->St W0 g N l fr' h' a' w'->Q fr' h'->K .normal a' w')
  {j:Nat} (X:j∈Region.ready .any ops b) (y:j∈aac):wpOpIn (Xc g.ro) nn P ops K j (wpAnyIn (Xc g.ro) nn P .any ops K fuel (b.setIfInBounds j true)) a w:=by
 obtain⟨Y,B,o,L,M⟩:=zG X;have C:OT ops.size (b.setIfInBounds j true)=fuel:=by grind [u7]
 have hs':(b.setIfInBounds j true).size=ops.size:=pw;have Z:j∉rest:=(r.OF j y).2.1;have D:Inv P N ops rest aac fr h (b.setIfInBounds j true):=by
  refine⟨fun i hi aa=>?_,fun i hi=>⟨?_,(r.Cf i hi).2⟩,r.OF,fun p O E=>?_⟩
  .grind [J3,Inv.every]
  .grind [J3,Inv.Cf]
  grind [J3,Inv.holds]
 have c:∀t∈o.looksAt ops,(delAll fr (BG ops aac b)).get t=fr.get t:=by
  intro t ht;rw[W6,if_neg];intro hh;obtain⟨p,O,E,F⟩:=WN.1 hh;obtain⟨_,_,_,_,G⟩:=r.OF p O;obtain⟨ae,R⟩:=Bz G F B (by grind [YZ])
  grind [QX]
 have f:∀v,(∀d,o.dst=some d->fr.get d=some v)->∀k u,(delAll fr (BG ops aac (b.setIfInBounds j true))).get k=some u->
   (o.dst=some k/\u=v/\k<N)\/(o.dst≠some k/\(delAll fr (BG ops aac b)).get k=some u):=by
  intro v S k u n;rw[W6]at n;split at n
  .cases n
  .by_cases hd : o.dst = some k
   .grind [Inv.OF,Rs]
   grind [W6,WN,J3,Rs]
 have q:=r.holds j y Y;unfold Holds at q;rw[L]at q;simp only[]at q;unfold wpOpIn;rw[L];simp only[];split at q
 .rename_i hw
  obtain⟨v,z,H⟩:=q;rw[if_pos (PV s.frame c hw)];obtain⟨l,v',w',e,R',A,I,S⟩:=stepOp_does (P:=P) (a:=a) s.rel s.frame (by rw[yE c];exact z);have T:=s.fill R' A I S (f v H);have:=U t rest aac fr h _ l (a.put o.dst v') w' C hs' D x V T fun m2 J h2 a2 w2 e1 e2 e3 e4=>W m2 J h2 a2 w2 (A.trans e1 I) (Hs I e2) e3 e4;refine ph (Nw z) ?_;rcases e with e|⟨e,rfl⟩<;>rw[e]<;>exact this
 .rename_i hw
  rw[if_neg (by rw[PV s.frame c hw];simp)];have T:=s.fill s.rel (.refl _ _) (qL0 _) (v:=Yx) (v':=undef) (.tuple rfl pw) (f Yx q);refine⟨fun _ _=>trivial,?_⟩
  grind
 grind
theorem draw_do {D:Cx} {nn:Nat} (ok:CK ops) {Q:lC->AHeap->Prop} {K:Exit->Act->World->Prop} {fuel:Nat}
  (ih:∀(t:DT) (rest aac:II) (fr:lC) (h:AHeap) (b:Array Bool) (m:rC) (a:Act) (w:World),
   OT ops.size b=fuel->b.size=ops.size->Inv P N ops rest aac fr h b->ui ops rest t=true->DW P W0 N ops Q t aac fr h->St W0 D N m (delAll fr (BG ops aac b)) h a w->
   (∀C fr' h' a' w',ZK h.next m C->h.next<=h'.next->St W0 D N C fr' h' a' w'->Q fr' h'->K .normal a' w')->wpAnyIn (Xc D.ro) nn P .any ops K fuel b a w)
  {t other:DT} {j:Nat} {pre:II} {rest aac:II} {fr:lC} {h:AHeap} {b:Array Bool} {m:rC} {a:Act} {w:World}
  (hc:OT ops.size b=fuel+1) (hs:b.size=ops.size) (H:Inv P N ops rest aac fr h b) (aj:j∈rest) (S:∀q∈pre,q∈predsAt ops j)
  (z:ui ops (rest.filter fun x=>x !=j) t=true) (i:DW P W0 N ops Q (.ch j pre t other) aac fr h) (s:St W0 D N m (delAll fr (BG ops aac b)) h a w)
  (hK:∀C fr' h' a' w',ZK h.next m C->h.next<=h'.next->St W0 D N C fr' h' a' w'->Q fr' h'->K .normal a' w')
  (hj:j∈Region.ready .any ops b):wpOpIn (Xc D.ro) nn P ops K j (wpAnyIn (Xc D.ro) nn P .any ops K fuel (b.setIfInBounds j true)) a w:=by
 obtain⟨hu,T,o,ho,ae⟩:=zG hj;have ag:∀x,x∈rest.filter (fun x=>x !=j)↔x∈rest/\x≠j:=fun x=>by simp
 have I:OT ops.size (b.setIfInBounds j true)=fuel:=by grind [u7]
 have hs':(b.setIfInBounds j true).size=ops.size:=pw;have al:∀p∈aac,p≠j:=by grind [Inv.OF]
 have U:∀p∈aac,KA b p=true->p∈aac.filter fun p=>!pre.contains p:=by grind [QX]
 have f:∀t∈o.looksAt ops,(delAll fr (BG ops aac b)).get t=fr.get t:=by
  intro t ht;rw[W6,if_neg];intro hh;obtain⟨p,n,A,aq⟩:=WN.1 hh;obtain⟨_,_,_,_,ar⟩:=H.OF p n
  grind [Bz,YZ,QX]
 have hinv:∀fr' h',(∀p∈aac.filter (fun p=>!pre.contains p),KA (b.setIfInBounds j true) p=true->Holds P ops fr' h' p)->Inv P N ops (rest.filter fun x=>x !=j) (aac.filter fun p=>!pre.contains p) fr' h' (b.setIfInBounds j true):=by
  intro fr' h' r;refine⟨fun i' V av=>?_,fun i' V=>⟨?_,(H.Cf i' pw).2⟩,fun p n=>?_,r⟩
  .grind [J3,Inv.every]
  .grind [J3,Inv.Cf]
  .obtain ⟨a1, a2, a3, a4, a5⟩ := H.OF p (aax.1 n).1
   grind
 have l:∀{v:Value} {fr':lC},putDst N fr o.dst v=some fr'->∀k u,(delAll fr' (BG ops (aac.filter fun p=>!pre.contains p) (b.setIfInBounds j true))).get k=some u->
   (o.dst=some k/\u=v/\k<N)\/(o.dst≠some k/\(delAll fr (BG ops aac b)).get k=some u):=by
  intro v fr' n k u E;obtain⟨F,W⟩:=BV n;rw[W6]at E;split at E
  .cases E
  grind [W6,WN,J3]
 simp only[DW,ho]at i;replace i:=i.1;unfold wpOpIn;rw[ho];simp only[];split at i
 .exact i.elim
 .rename_i hw
  rw[if_neg (by rw[PV s.frame f hw];simp)];split at i
  .exact i.elim
  .rename_i fr' n
   obtain⟨F,W⟩:=BV n;have R:=s.fill s.rel (.refl _ _) (qL0 _) (v:=Yx) (v':=undef) (.tuple rfl pw) (l n);refine⟨fun _ _=>trivial,ih t _ _ fr' h _ m _ w I hs' (hinv fr' h fun p X A=>?_) z i R hK⟩;rw[J3 hu]at A;simp at A;have J:=(aax.1 X).1;obtain⟨a1,a2,a3,_⟩:=H.OF p J;refine(H.holds p J A.1).congr (fun t ht=>F t fun e=>?_) (fun d hd=>F d fun e=>?_)
   .grind [CK.pair,Rs,QX]
   .exact(ok.pair j p d T a1 (uV A.2) hd).2 (by grind [Rs])
 .rename_i hw
  rw[if_pos (PV s.frame f hw)];split at i
  .obtain ⟨g, args, fn, c, Y, G, Z⟩ := i
   refine call_wp s (by rw[Wf f];exact Y) G Z ?_;rintro v v' C h' w' B L R' hv ⟨fr',n,r,M⟩;have R:=s.fill R' B L hv (l n)
   grind [HoldsAll.mem,ZK.trans]
  .split at i
   .exact i.elim
   .rename_i v h' O
    split at i
    .exact i.elim
    .rename_i fr' n
     obtain⟨r,M⟩:=i;obtain⟨C,v',w',y,R',B,L,hv⟩:=stepOp_does (P:=P) (a:=a) s.rel s.frame (by rw[yE f];exact O);have R:=s.fill R' B L hv (l n);have:=ih t _ _ fr' h' _ C (a.put o.dst v') w' I hs' (hinv fr' h' fun p n _=>r.mem p n) z M R fun m2 aa h2 a2 w2 e1 e2 e3 e4=>hK m2 aa h2 a2 w2 (B.trans e1 L) (Hs L e2) e3 e4;refine ph (Nw O) ?_;rcases y with y|⟨y,rfl⟩<;>rw[y]<;>exact this
theorem iR {Q:lC->AHeap->Prop} {rest aac:II} {fr:lC} {h:AHeap} {j:Nat}:∀{t:DT} {cs:II},j∈cs->treeOK ops rest cs t=true->DW P W0 N ops Q t aac fr h->isAlt t=true->
  ∃pre a other,(∀q∈pre,q∈predsAt ops j)/\ui ops (rest.filter fun x=>x !=j) a=true/\DW P W0 N ops Q (.ch j pre a other) aac fr h:=by
 intro t
 induction t with
 |done=>intro cs _ _ _ ha;cases ha
 |fl i t _=>intro cs _ _ _ ha;cases ha
 |no=>grind [treeOK]
 |ch i pre t other _ b=>
  grind [treeOK,ui,DW]
theorem gG {G:Cx} {nn:Nat} (ok:CK ops) {Q:lC->AHeap->Prop} {K:Exit->Act->World->Prop}:∀(fuel:Nat) (t:DT) (rest aac:II) (fr:lC) (h:AHeap) (b:Array Bool) (m:rC) (a:Act) (w:World),
  OT ops.size b=fuel->b.size=ops.size->Inv P N ops rest aac fr h b->ui ops rest t=true->DW P W0 N ops Q t aac fr h->St W0 G N m (delAll fr (BG ops aac b)) h a w->
  (∀U fr' h' a' w',ZK h.next m U->h.next<=h'.next->St W0 G N U fr' h' a' w'->Q fr' h'->K .normal a' w')->
  wpAnyIn (Xc G.ro) nn P .any ops K fuel b a w:=by
 intro fuel
 induction fuel with
 |zero=>
  intro t
  induction t with
  |no=>grind [ui,isTop]
  |done=>
   intro rest aac fr h b m a w l hs g d c s q;have n:=sk l;have hh:BG ops aac b=[]:=by
    apply Tn.2;intro t d;obtain⟨p,r,B,_⟩:=WN.1 d;rw[n p (g.OF p r).1]at B;cases B
   rw[hh]at s;refine⟨?_,q m fr h a w (.refl _ _) (qL0 _) s c⟩;apply Tn.2;intro i hi;obtain⟨V,h2,_⟩:=zG hi
   grind
  |fl i t _=>
   intro rest aac fr h b m a w l hs g d c s q;have n:=sk l;simp only[ui,treeOK,Lm,ur,decide_eq_true_eq]at d;have:=g.Cf i d.2.1.1.1.1
   grind
  |ch i pre t other _ _=>
   intro rest aac fr h b m a w l hs g d c s q;have n:=sk l;simp only[ui,treeOK,Lm,ur,decide_eq_true_eq]at d;have:=g.Cf i d.2.1.1.1.1.1.1
   grind
 |succ fuel I=>
  intro t
  induction t with
  |no=>grind [ui,isTop]
  |done=>
   intro rest aac fr h b m a w l hs g d c s q;have J:rest=[]:=by grind [ui,treeOK]
   refine⟨fun Z=>?_,fun j C=>?_⟩
   .grind [QS,OT,List.countP_eq_zero]
   .obtain ⟨B, y, _⟩ := zG C
    rcases g.every j y B with z|D
    .exact YF I l hs g d c s q C z
    grind
  |fl i t aa=>
   intro rest aac fr h b m a w l hs g d c s q;simp only[ui,treeOK,Lm,ur,decide_eq_true_eq]at d;obtain⟨_,⟨⟨⟨L,ae⟩,ag⟩,W⟩,e⟩:=d;have M:ui ops (rest.filter fun x=>x !=i) t=true:=by grind [ui]
   have O:∀p∈predsAt ops i,p∉rest:=fun p r=>by grind
   have hi:=g.Cf i L;have R:ops[i]?=some ops[i]:=y5 hi.2;generalize ops[i]'hi.2=o at R
   have aj:noWar ops i=true:=by grind [lV]
   have S:∀{fr':lC} {v:Value},putDst N fr o.dst v=some fr'->St W0 G N m (delAll fr' (BG ops (i::aac) b)) h a w:=by
    intro fr' v r;obtain⟨E,F⟩:=BV r;refine⟨s.rel,fun k u hk=>s.frame k u ?_,s.defers,s.size,s.round⟩
    grind [W6,WN,Rs]
   simp only[DW,R]at c;split at c
   .exact c.elim
   .rename_i hw
    split at c
    .exact c.elim
    .rename_i fr' r
     obtain⟨E,F⟩:=BV r;have f:∀t∈o.looksAt ops,fr'.get t=fr.get t:=by grind [Bz,Rs,YZ]
     have hH:Holds P ops fr' h i:=by grind [Holds,Us]
     grind [Inv.yW]
   .rename_i hw
    split at c
    .exact c.elim
    .rename_i v h' T
     obtain⟨rfl,c⟩:=c;split at c
     .exact c.elim
     .rename_i fr' r
      obtain⟨E,F⟩:=BV r;have f:∀t∈o.looksAt ops,fr'.get t=fr.get t:=by grind [Bz,Rs,YZ]
      have hH:Holds P ops fr' h' i:=by
       unfold Holds;rw[R];simp only[];rw[Us f,hw];exact⟨v,by rw[yE f];exact T,pw⟩
      grind [Inv.yW]
  |ch i pre t other _ _=>
   intro rest aac fr h b m a w l hs g d c s q;refine⟨fun Z=>?_,fun j C=>?_⟩
   .grind [QS,OT,List.countP_eq_zero]
   .obtain ⟨B, y, oj, al, X⟩ := zG C
    rcases g.every j y B with z|D
    .exact YF I l hs g d c s q C z
    .have A : j ∈ xx ops rest := by grind [PF, QX, Inv.Cf]
     have e:=d;simp only[ui,Lm]at e;obtain⟨Y,t',H,V,h2,h3⟩:=iR A e.2 c rfl;exact draw_do ok I l hs g D V h2 h3 s q C
theorem ud.draw {i:Nat} {ol:List Oper} {Q:Exit->lC->AHeap->Prop} (f:P.follows .mixedOrders=true) (t:DT) (c:gN ol.toArray t=true)
  (hd:DW P W0 N ol.toArray (Q .normal) t [] fr h):ud P W0 N (.region i ol.toArray true) fr h Q:=by
 intro g nn m a w s K k;obtain⟨ok,b⟩:=CK.of c;refine wpIn_region_any f ?_;have l:∀j,j<ol.toArray.size->KA (Array.replicate ol.toArray.size false) j=true:=by
  intro j r;have d:j<ol.length:=pw;simp[KA,js,d]
 have s0:St W0 g N m (delAll fr (BG ol.toArray [] (Array.replicate ol.toArray.size false))) h a w.drew:=⟨s.rel.drew,s.frame,s.defers,s.size,s.round⟩;refine gG ok ol.toArray.size t (List.range ol.toArray.size) [] fr h (Array.replicate ol.toArray.size false) m a w.drew ?_ Ma ?_ b hd s0 ?_
 .grind [OT,List.countP_eq_length]
 .refine⟨by grind,(by grind),pw,pw⟩
 .intro n fr' h' a' w' e o p q
  exact k [] .normal n fr' h' a' w' e o p.nil q
end
def tA:List Nat→DT→DT
  |[],t=>t
  |i::l,t=>.fl i (tA l t)
def JQ (i:Nat) (p:List Nat) (t:DT):DT:=.ch i p t .no
end Go.Fw
namespace Go.Fw
variable {P : Program} {W0 : LA} {N : Nat} {ops : Array Oper} {fr : lC} {h : AHeap}
def onO {α:Type} (x:Option α) (f:α->Prop):Prop:=
 match x with
 |some a=>f a
 |none=>False
def Vm (b:Bool) (p q:Prop):Prop:=
 match b with
 |true=>p
 |false=>q
def yF (p q:Prop):Vm true p q=p:=rfl
theorem G9 {α:Type} {x:Option α} {f:α->Prop}:onO x f↔∃a,x=some a/\f a:=by
 cases x<;>simp[onO]
def cD (P:Program) (W0:LA) (N:Nat) (o:Oper) (fr:lC) (h:AHeap) (K:lC->AHeap->Prop):Prop:=
 ∃g args fn c,calleeOf fr o=some (g,args)/\Good P g fn c/\AC P W0 g args h fun v h'=>onO (putDst N fr o.dst v) fun fr'=>K fr' h'
def IH (P:Program) (W0:LA) (N:Nat) (o:Oper) (fr:lC) (h:AHeap) (K:lC->AHeap->Prop):Prop:=
 cD P W0 N o fr h K\/∃d args,yieldOf fr o=some (d,args)/\AY P W0 d args h fun v h'=>onO (putDst N fr o.dst v) fun fr'=>K fr' h'
def ROps (P:Program) (W0:LA) (N:Nat) (ops:Array Oper) (Q:lC->AHeap->Prop):List Oper->lC->AHeap->Prop
 |[],fr,h=>Q fr h
 |o::r,fr,h=>
  onO (wantA ops fr o) fun w=>
   Vm w
    (Vm (Zm o) (IH P W0 N o fr h (ROps P W0 N ops Q r))
     (onO (stepOp P fr h o) fun p=>onO (putDst N fr o.dst p.1) fun fr'=>ROps P W0 N ops Q r fr' p.2))
    (onO (putDst N fr o.dst Yx) fun fr'=>ROps P W0 N ops Q r fr' h)
def ROps.sound {Q:lC->AHeap->Prop}:∀{l:List Oper} {fr:lC} {h:AHeap},ROps P W0 N ops Q l fr h->ML P W0 N ops l fr h Q
 |[],fr,h,q=>.nil q
 |o::r,fr,h,q=>by
  simp only[ROps]at q;obtain⟨w,hw,q⟩:=G9.1 q;cases w with
  |false=>
   obtain⟨fr',d,q⟩:=G9.1 q;exact .skip hw d (ROps.sound q)
  |true=>
   simp only[yF]at q;cases k:Zm o with
   |true=>
    rw[k]at q;rcases q with⟨g,args,fn,c,f,hg,ha⟩|⟨n,args,m,ha⟩
    .exact .call hw f hg (ha.mono fun v h' e=>let⟨fr',d,e⟩:=G9.1 e;⟨fr',d,ROps.sound e⟩)
    .exact .yield hw m (ha.mono fun v h' e=>let⟨fr',d,e⟩:=G9.1 e;⟨fr',d,ROps.sound e⟩)
   |false=>
    rw[k]at q;obtain⟨⟨v,h'⟩,hs,q⟩:=G9.1 q;obtain⟨fr',d,q⟩:=G9.1 q;exact .step hw hs d (ROps.sound q)
def WF (h:AHeap):Prop:=∀i,h.own i≠none->i<h.next
def AC.wf {f:FuncId} {args:List Value} {R:Value->AHeap->Prop} (e:WF h->AC P W0 f args h R):AC P W0 f args h R:=
 fun ex m w d r g=>e r.lt ex m w d r g
def ud.wf {c:Code} {Q:Exit->lC->AHeap->Prop} (d:WF h->ud P W0 N c fr h Q):ud P W0 N c fr h Q:=
 fun e nn m a w s K f=>d s.rel.lt e nn m a w s K f
def AC.post {f:FuncId} {args:List Value} {R:Value->AHeap->Prop} (e:AC P W0 f args h R):AC P W0 f args h fun v h'=>WF h'/\R v h':=
 fun ex m w d r g=>(e ex m w d r g).mono fun _ _ ⟨v,v',k,h',l,h2,h3,n,p,q⟩=>⟨v,v',k,h',l,h2,h3,n,p,h2.lt,q⟩
def rZ {o:Oper} {g:FuncId} {args:List Value} {fn:Func} {c:Code} {R:Value->AHeap->Prop} {K:lC->AHeap->Prop} (d:calleeOf fr o=some (g,args)) (hg:Good P g fn c) (ha:AC P W0 g args h R)
  (e:∀v h',WF h'->R v h'->onO (putDst N fr o.dst v) fun fr'=>K fr' h'):cD P W0 N o fr h K:=
 ⟨g,args,fn,c,d,hg,ha.post.mono fun v h' ⟨hw,f⟩=>e v h' hw f⟩
def vseq (y:lC->AHeap->Prop) (Q:Exit->lC->AHeap->Prop):Exit->lC->AHeap->Prop
 |.normal,fr,h=>y fr h
 |e,fr,h=>Q e fr h
def onV (x:Option Value) (p q:Prop):Prop:=
 match x with
 |some (.bool b)=>Vm b p q
 |_=>False
def VC (P:Program) (W0:LA) (N:Nat):Code->(Exit->lC->AHeap->Prop)->lC->AHeap->Prop
 |.skip,Q,fr,h=>Q .normal fr h
 |.ret,Q,fr,h=>Q .ret fr h
 |.exit i,Q,fr,h=>Q (.exit i) fr h
 |.seq a b,Q,fr,h=>VC P W0 N a (vseq (VC P W0 N b Q) Q) fr h
 |.block i a,Q,fr,h=>VC P W0 N a (blockQ i Q) fr h
 |.region _ ops false,Q,fr,h=>ROps P W0 N ops (Q .normal) ops.toList fr h
 |.cond c a b,Q,fr,h=>onV (evalO fr c) (VC P W0 N a Q fr h) (VC P W0 N b Q fr h)
 |c,Q,fr,h=>ud P W0 N c fr h Q
def VC.sound:∀{c:Code} {Q:Exit->lC->AHeap->Prop} {fr:lC} {h:AHeap},VC P W0 N c Q fr h->ud P W0 N c fr h Q:=by
 intro c
 induction c with
 |skip=>intro Q fr h q;exact .skip q
 |ret=>intro Q fr h q;exact .ret q
 |exit i=>intro Q fr h q;exact .exit q
 |seq a b f g=>
  intro Q fr h q;refine .seq ((f q).mono fun e fr h k=>?_);cases e with
  |normal=>exact g k
  |_=>exact k
 |block i a f=>intro Q fr h q;exact .block (f q)
 |region i ops d=>
  intro Q fr h q;cases d with
  |false=>
   obtain⟨l⟩:=ops;exact .region (ROps.sound q)
  |true=>exact q
 |cond c a b f g=>
  intro Q fr h q;simp only[VC]at q;unfold onV at q;split at q
  .rename_i t m
   refine .cond m (fun e=>?_) (fun e=>?_)
   .subst e;exact f q
   .subst e;exact g q
  .exact q.elim
 |loop c=>intro Q fr h q;exact q
 |rangeFunc=>intro Q fr h q;exact q
 |scope c=>intro Q fr h q;exact q
 |label l=>intro Q fr h q;exact q
 |goto l=>intro Q fr h q;exact q
 |refuse w=>intro Q fr h q;exact q
inductive Kt where
 |seq (c:Code)
 |blk (i:Nat)
def KE (P:Program) (W0:LA) (N:Nat) (R:Exit->lC->AHeap->Prop):List Kt->Exit->lC->AHeap->Prop
 |[]=>R
 |.seq c::ks=>vseq (VC P W0 N c (KE P W0 N R ks)) (KE P W0 N R ks)
 |.blk i::ks=>blockQ i (KE P W0 N R ks)
def VK (P:Program) (W0:LA) (N:Nat) (c:Code) (ks:List Kt) (R:Exit->lC->AHeap->Prop) (fr:lC) (h:AHeap):Prop:=VC P W0 N c (KE P W0 N R ks) fr h
def KN (P:Program) (W0:LA) (N:Nat) (ks:List Kt) (R:Exit->lC->AHeap->Prop) (fr:lC) (h:AHeap):Prop:=KE P W0 N R ks .normal fr h
def KX (P:Program) (W0:LA) (N:Nat) (e:Exit) (ks:List Kt) (R:Exit->lC->AHeap->Prop) (fr:lC) (h:AHeap):Prop:=KE P W0 N R ks e fr h
def KO (P:Program) (W0:LA) (N:Nat) (ops:Array Oper) (ks:List Kt) (R:Exit->lC->AHeap->Prop) (l:List Oper) (fr:lC) (h:AHeap):Prop:=ROps P W0 N ops (KE P W0 N R ks .normal) l fr h
def KO1 (P:Program) (W0:LA) (N:Nat) (ops:Array Oper) (ks:List Kt) (R:Exit->lC->AHeap->Prop) (o:Oper) (l:List Oper) (fr:lC) (h:AHeap) (w:Option Bool):Prop:=
 onO w fun w=>
   Vm w
    (Vm (Zm o) (IH P W0 N o fr h (ROps P W0 N ops (KE P W0 N R ks .normal) l))
     (onO (stepOp P fr h o) fun p=>onO (putDst N fr o.dst p.1) fun fr'=>ROps P W0 N ops (KE P W0 N R ks .normal) l fr' p.2))
    (onO (putDst N fr o.dst Yx) fun fr'=>ROps P W0 N ops (KE P W0 N R ks .normal) l fr' h)
def lU (P:Program) (W0:LA) (N:Nat) (ops:Array Oper) (ks:List Kt) (R:Exit->lC->AHeap->Prop) (o:Oper) (l:List Oper) (fr:lC) (h:AHeap) (b:Bool):Prop:=
  Vm b (IH P W0 N o fr h (ROps P W0 N ops (KE P W0 N R ks .normal) l))
          (onO (stepOp P fr h o) fun p=>onO (putDst N fr o.dst p.1) fun fr'=>ROps P W0 N ops (KE P W0 N R ks .normal) l fr' p.2)
def MQ (P:Program) (W0:LA) (N:Nat) (ops:Array Oper) (ks:List Kt) (R:Exit->lC->AHeap->Prop) (o:Oper) (l:List Oper) (fr:lC) (x:Option (Value×AHeap)):Prop:=
 onO x fun p=>onO (putDst N fr o.dst p.1) fun fr'=>ROps P W0 N ops (KE P W0 N R ks .normal) l fr' p.2
def Kp (P:Program) (W0:LA) (N:Nat) (ops:Array Oper) (ks:List Kt) (R:Exit->lC->AHeap->Prop) (l:List Oper) (h:AHeap) (x:Option lC):Prop:=
 onO x fun fr'=>ROps P W0 N ops (KE P W0 N R ks .normal) l fr' h
def TC (P:Program) (W0:LA) (N:Nat) (ops:Array Oper) (ks:List Kt) (R:Exit->lC->AHeap->Prop) (o:Oper) (l:List Oper) (fr:lC) (h:AHeap):Prop:=
 IH P W0 N o fr h (ROps P W0 N ops (KE P W0 N R ks .normal) l)
def Kl (P:Program) (W0:LA) (N:Nat) (a b:Code) (ks:List Kt) (R:Exit->lC->AHeap->Prop) (fr:lC) (h:AHeap) (x:Option Value):Prop:=onV x (VK P W0 N a ks R fr h) (VK P W0 N b ks R fr h)
def aab (P:Program) (W0:LA) (N:Nat) (c:Code) (ks:List Kt) (R:Exit->lC->AHeap->Prop) (fr:lC) (h:AHeap):Prop:=ud P W0 N (.loop c) fr h (KE P W0 N R ks)
def ZJ (P:Program) (W0:LA) (N:Nat) (i:Nat) (ops:Array Oper) (ks:List Kt) (R:Exit->lC->AHeap->Prop) (fr:lC) (h:AHeap):Prop:=ud P W0 N (.region i ops true) fr h (KE P W0 N R ks)
theorem lW (a b:Int):(a==b)=decide (a=b):=pw
def fst_mk {α β:Type} (a:α) (b:β):(a,b).1=a:=id rfl
def snd_mk {α β:Type} (a:α) (b:β):(a,b).2=b:=id rfl
section eqs
variable {ks : List Kt} {R : Exit → lC → AHeap → Prop} {a b : Code} {o : Oper} {i j : Nat} {c : Operand}
def Mc:VK P W0 N .skip ks R fr h=KN P W0 N ks R fr h:=id rfl
def vJ:VK P W0 N .ret ks R fr h=KX P W0 N .ret ks R fr h:=id rfl
def af3:VK P W0 N (.exit i) ks R fr h=KX P W0 N (.exit i) ks R fr h:=id rfl
def RI:VK P W0 N (.seq a b) ks R fr h=VK P W0 N a (.seq b::ks) R fr h:=id rfl
def SC:VK P W0 N (.block i a) ks R fr h=VK P W0 N a (.blk i::ks) R fr h:=id rfl
def qS {l:List Oper}:VK P W0 N (.region i (List.toArray l) false) ks R fr h=KO P W0 N (List.toArray l) ks R l fr h:=id rfl
def af4:VK P W0 N (.region i ops true) ks R fr h=ZJ P W0 N i ops ks R fr h:=id rfl
def L5:VK P W0 N (.cond c a b) ks R fr h=Kl P W0 N a b ks R fr h (evalO fr c):=id rfl
def Fe:Kl P W0 N a b ks R fr h (some (.bool true))=VK P W0 N a ks R fr h:=id rfl
def Wi:Kl P W0 N a b ks R fr h (some (.bool false))=VK P W0 N b ks R fr h:=id rfl
def T4:VK P W0 N (.loop a) ks R fr h=aab P W0 N a ks R fr h:=id rfl
def aho:KN P W0 N [] R fr h=R .normal fr h:=id rfl
def KN_seq:KN P W0 N (.seq a::ks) R fr h=VK P W0 N a ks R fr h:=id rfl
def EF:KN P W0 N (.blk i::ks) R fr h=KN P W0 N ks R fr h:=id rfl
def sn:KX P W0 N .ret [] R fr h=R .ret fr h:=id rfl
def Vy:KX P W0 N .ret (.seq a::ks) R fr h=KX P W0 N .ret ks R fr h:=id rfl
def Y6:KX P W0 N .ret (.blk i::ks) R fr h=KX P W0 N .ret ks R fr h:=id rfl
def Kw:KX P W0 N (.exit j) [] R fr h=R (.exit j) fr h:=id rfl
def zz:KX P W0 N (.exit j) (.seq a::ks) R fr h=KX P W0 N (.exit j) ks R fr h:=id rfl
def acE:KX P W0 N (.exit j) (.blk i::ks) R fr h=if j=i then KN P W0 N ks R fr h else KX P W0 N (.exit j) ks R fr h:=id rfl
def J1:KE P W0 N R ks .normal fr h=KN P W0 N ks R fr h:=id rfl
def Ys:KE P W0 N R ks .ret fr h=KX P W0 N .ret ks R fr h:=id rfl
def mK:KE P W0 N R ks (.exit i) fr h=KX P W0 N (.exit i) ks R fr h:=id rfl
def Ue:KO P W0 N ops ks R [] fr h=KN P W0 N ks R fr h:=id rfl
def cj {l:List Oper}:KO P W0 N ops ks R (o::l) fr h=KO1 P W0 N ops ks R o l fr h (wantA ops fr o):=id rfl
def bE {l l':List Oper}:KO P W0 N ops ks R (List.append (o::l) l') fr h=KO P W0 N ops ks R (o::List.append l l') fr h:=id rfl
def Q2 {l:List Oper}:KO P W0 N ops ks R (List.append [] l) fr h=KO P W0 N ops ks R l fr h:=id rfl
def HA {l:List Oper}:KO1 P W0 N ops ks R o l fr h (some true)=lU P W0 N ops ks R o l fr h (Zm o):=id rfl
def RW {l:List Oper}:KO1 P W0 N ops ks R o l fr h (some false)=Kp P W0 N ops ks R l h (putDst N fr o.dst Yx):=id rfl
def Px {l:List Oper}:lU P W0 N ops ks R o l fr h true=TC P W0 N ops ks R o l fr h:=id rfl
def re {l:List Oper}:lU P W0 N ops ks R o l fr h false=MQ P W0 N ops ks R o l fr (stepOp P fr h o):=id rfl
def OD {l:List Oper} {v:Value} {h':AHeap}:MQ P W0 N ops ks R o l fr (some (v,h'))=Kp P W0 N ops ks R l h' (putDst N fr o.dst v):=id rfl
def EV {l:List Oper}:Kp P W0 N ops ks R l h (some fr)=KO P W0 N ops ks R l fr h:=id rfl
end eqs
def VK.sound {c:Code} {R:Exit->lC->AHeap->Prop} (q:VK P W0 N c [] R fr h):ud P W0 N c fr h R:=VC.sound q
def Kl.intro {a b:Code} {t:Bool} {ks:List Kt} {R:Exit->lC->AHeap->Prop} (d:t=true->VK P W0 N a ks R fr h) (hf:t=false->VK P W0 N b ks R fr h):Kl P W0 N a b ks R fr h (some (.bool t)):=by
 cases t
 .exact hf rfl
 .exact d rfl
def TC.intro {ks:List Kt} {R:Exit->lC->AHeap->Prop} {o:Oper} {l:List Oper} {g:FuncId} {args:List Value} {fn:Func} {c:Code} {Rc:Value->AHeap->Prop} (d:calleeOf fr o=some (g,args)) (hg:Good P g fn c) (ha:AC P W0 g args h Rc)
  (e:∀v h',WF h'->Rc v h'->Kp P W0 N ops ks R l h' (putDst N fr o.dst v)):TC P W0 N ops ks R o l fr h:=.inl (rZ d hg ha e)
def TC.yield {ks:List Kt} {R:Exit->lC->AHeap->Prop} {o:Oper} {l:List Oper} {d:Nat} {args:List Value} {Rc:Value->AHeap->Prop} (e:yieldOf fr o=some (d,args)) (ha:AY P W0 d args h Rc)
  (f:∀v h',WF h'->Rc v h'->Kp P W0 N ops ks R l h' (putDst N fr o.dst v)):TC P W0 N ops ks R o l fr h:=.inr ⟨d,args,e,ha.post.mono fun v h' ⟨hw,g⟩=>f v h' hw g⟩
def UH (R:Value->AHeap->Prop):Exit->lC->AHeap->Prop:=fun e _ h=>e=.normal/\R (.bool true) h
def aB {R:Value->AHeap->Prop}:UH R .normal fr h=R (.bool true) h:=by simp[UH]
theorem VK.round {ps:Array Tmp} {assign body:Code} {args:List Value} {d:AHeap} {R:Value->AHeap->Prop} (q:VK P W0 N (.seq assign body) [] (UH R) (putPs ps.toList args fr) d):Rnd P W0 N ps fr assign body args d R:=by
 have g:VC P W0 N assign (vseq (VC P W0 N body (KE P W0 N (UH R) [])) (KE P W0 N (UH R) [])) (putPs ps.toList args fr) d:=q;refine(VC.sound g).mono fun e k h2 f=>?_;cases e with
 |normal=>exact⟨rfl,VC.sound f⟩
 |_=>exact absurd f.1 Ma
def VK.rangeFunc {ks:List Kt} {R:Exit->lC->AHeap->Prop} {g:Operand} {ps:Array Tmp} {assign body:Code} {gf:FuncId} {fn:Func} {c:Code} {first cap:Array Value}
  (hg:evalO fr g=some (.func (.func gf) first cap)) (d:Good P gf fn c) (l:ps.toList.all (fun p=>Nat.blt p N)=true)
  (m:∀(f:LA) (k:Nat),(∀(args:List Value) (e:AHeap) (R:Value->AHeap->Prop),args.length=ps.size->h.next<=e.next->VK P W0 N (.seq assign body) [] (UH R) (putPs ps.toList args fr) e->AY P f k args e R)->
   AC P f gf (first.toList++[Yg k]++cap.toList) h fun _ h'=>WF h'->KN P W0 N ks R fr h'):VK P W0 N (.rangeFunc g ps assign body) ks R fr h:=
 ud.rangeFunc hg d l fun f k n=>(m f k fun args e R' r s q=>n args e R' r s (VK.round q)).post.mono fun _ _ ⟨hw,u⟩=>u hw
def G8 (P:Program) (rs:List ResultVar) (R:Value->AHeap->Prop) (fr:lC) (h:AHeap):Prop:=
 match aresults P fr h rs with
 |some v=>R v h
 |none=>False
def retQ (P:Program) (rs:List ResultVar) (R:Value->AHeap->Prop):Exit->lC->AHeap->Prop
 |.normal,fr,h=>G8 P rs R fr h
 |.ret,fr,h=>G8 P rs R fr h
 |_,_,_=>False
theorem AC.vc {f:FuncId} {args:List Value} {fn:Func} {c:Code} {R:Value->AHeap->Prop} (hg:Good P f fn c) {n:Nat} (m:fn.ntmps=n) {rs:Array ResultVar} (d:fn.results=rs) (hlen:args.length<=n)
  (g:WF h->VK P W0 n c [] (retQ P rs.toList R) (me args) h):AC P W0 f args h R:=by
 subst m;subst d;refine AC.wf fun k=>?_;replace g:=g k;refine .body hg hlen ((VK.sound g).mono fun e fr' h' l=>?_);have key:∀fr h,G8 P fn.results.toList R fr h->∃v,aresults P fr h fn.results.toList=some v/\R v h:=by grind [G8]
 cases e with
 |normal=>exact⟨.inl rfl,key _ _ l⟩
 |ret=>exact⟨.inr rfl,key _ _ l⟩
 |_=>exact l.elim
def mkF:List (Nat×Value)->lC
 |[]=>.leaf
 |(t,v)::r=>(mkF r).set t v
def Fj (fr:lC):List (Nat×Value)->Prop
 |[]=>True
 |(t,v)::r=>fr.get t=some v/\Fj fr r
theorem Sub.mkF {fr:lC}:∀{l:List (Nat×Value)},Fj fr l->Sub (mkF l) fr
 |[],_,k,v,h=>by grind [mkF,Trie.get]
 |(t,u)::r,ha,k,v,h=>by
  simp only[Fw.mkF,Trie.YO]at h;by_cases d:k=t
  .subst d;rw[if_pos rfl]at h;injection h with h;subst h;exact ha.1
  .rw[if_neg d]at h;exact Sub.mkF ha.2 k v h
def tn {I:Nat->lC->AHeap->Prop} {k:Nat} {Q:Exit->lC->AHeap->Prop} (d:Nat) (l:List (Nat×Value)) (e:d<k) (f:Fj fr l) (hi:I d (mkF l) h):aeM I k Q .normal fr h:=
 ⟨d,e,_,Sub.mkF f,hi⟩
def NA {I:Nat->lC->AHeap->Prop} {k:Nat} {Q:Exit->lC->AHeap->Prop}:aeM I k Q .ret fr h=Q .ret fr h:=id rfl
def ac7 {I:Nat->lC->AHeap->Prop} {k i:Nat} {Q:Exit->lC->AHeap->Prop}:aeM I k Q (.exit i) fr h=Q (.exit i) fr h:=id rfl
def aab.intro {c:Code} {ks:List Kt} {R:Exit->lC->AHeap->Prop} (I:Nat->lC->AHeap->Prop) (k0:Nat) (l:List (Nat×Value)) (hs:Fj fr l) (d:I k0 (mkF l) h)
  (e:∀k fr h,WF h->I k fr h->VK P W0 N c [] (aeM I k (KE P W0 N R ks)) fr h):aab P W0 N c ks R fr h:=
 .loop I k0 _ (Sub.mkF hs) d fun k fr h hi=>ud.wf fun hw=>VC.sound (e k fr h hw hi)
def RDraw (P:Program) (W0:LA) (N:Nat) (ops:Array Oper) (Q:lC->AHeap->Prop):DT->II->lC->AHeap->Prop
 |.done,_,fr,h=>Q fr h
 |.no,_,_,_=>True
 |.fl i t,aac,fr,h=>
  onO ops[i]? fun o=>onO (wantA ops fr o) fun w=>
   Vm w (onO (stepOp P fr h o) fun p=>p.2=h/\onO (putDst N fr o.dst p.1) fun fr'=>RDraw P W0 N ops Q t (i::aac) fr' h)
    (onO (putDst N fr o.dst Yx) fun fr'=>RDraw P W0 N ops Q t (i::aac) fr' h)
 |.ch i pre t other,aac,fr,h=>
  (onO ops[i]? fun o=>onO (wantA ops fr o) fun w=>
   Vm w
    (Vm (Zm o) (cD P W0 N o fr h fun fr' h'=>HoldsAll P ops fr' h' (aac.filter fun p=>!pre.contains p)/\RDraw P W0 N ops Q t (aac.filter fun p=>!pre.contains p) fr' h')
     (onO (stepOp P fr h o) fun p=>onO (putDst N fr o.dst p.1) fun fr'=>HoldsAll P ops fr' p.2 (aac.filter fun p=>!pre.contains p)/\RDraw P W0 N ops Q t (aac.filter fun p=>!pre.contains p) fr' p.2))
    (onO (putDst N fr o.dst Yx) fun fr'=>RDraw P W0 N ops Q t (aac.filter fun p=>!pre.contains p) fr' h))/\
  RDraw P W0 N ops Q other aac fr h
theorem RDraw.sound {Q:lC->AHeap->Prop}:∀{t:DT} {aac:II} {fr:lC} {h:AHeap},RDraw P W0 N ops Q t aac fr h->DW P W0 N ops Q t aac fr h:=by
 intro t
 induction t with
 |done=>intro aac fr h q;exact q
 |no=>intro aac fr h _;exact trivial
 |fl i t p=>
  intro aac fr h q;simp only[RDraw]at q;obtain⟨o,d,q⟩:=G9.1 q;obtain⟨w,hw,q⟩:=G9.1 q;simp only[DW,d,hw];cases w with
  |false=>
   obtain⟨fr',k,q⟩:=G9.1 q
   grind
  |true=>
   obtain⟨⟨v,h'⟩,hs,rfl,q⟩:=G9.1 q
   grind [G9]
 |ch i pre t other l e=>
  intro aac fr h q;simp only[RDraw]at q;obtain⟨q,m⟩:=q;simp only[DW];refine⟨?_,e m⟩;obtain⟨o,d,q⟩:=G9.1 q;obtain⟨w,hw,q⟩:=G9.1 q;simp only[d,hw];cases w with
  |false=>
   obtain⟨fr',k,q⟩:=G9.1 q
   grind
  |true=>
   simp only[yF]at q;cases f:Zm o with
   |true=>
    rw[f]at q;obtain⟨g,args,fn,c,n,hg,ha⟩:=q
    grind [AC.mono,G9]
   |false=>
    rw[f]at q;obtain⟨⟨v,h'⟩,hs,q⟩:=G9.1 q
    grind [G9]
def KD (P:Program) (W0:LA) (N:Nat) (ops:Array Oper) (ks:List Kt) (R:Exit->lC->AHeap->Prop) (t:DT) (aac:II) (fr:lC) (h:AHeap):Prop:=RDraw P W0 N ops (KE P W0 N R ks .normal) t aac fr h
def KF1 (P:Program) (W0:LA) (N:Nat) (ops:Array Oper) (ks:List Kt) (R:Exit->lC->AHeap->Prop) (t:DT) (aac:II) (fr:lC) (h:AHeap) (x:Option Oper):Prop:=
 onO x fun o=>onO (wantA ops fr o) fun w=>
   Vm w (onO (stepOp P fr h o) fun p=>p.2=h/\onO (putDst N fr o.dst p.1) fun fr'=>KD P W0 N ops ks R t aac fr' h)
    (onO (putDst N fr o.dst Yx) fun fr'=>KD P W0 N ops ks R t aac fr' h)
def KF2 (P:Program) (W0:LA) (N:Nat) (ops:Array Oper) (ks:List Kt) (R:Exit->lC->AHeap->Prop) (t:DT) (aac:II) (fr:lC) (h:AHeap) (o:Oper) (w:Option Bool):Prop:=
  onO w fun w=>Vm w (onO (stepOp P fr h o) fun p=>p.2=h/\onO (putDst N fr o.dst p.1) fun fr'=>KD P W0 N ops ks R t aac fr' h)
        (onO (putDst N fr o.dst Yx) fun fr'=>KD P W0 N ops ks R t aac fr' h)
def KF3 (P:Program) (W0:LA) (N:Nat) (ops:Array Oper) (ks:List Kt) (R:Exit->lC->AHeap->Prop) (t:DT) (aac:II) (fr:lC) (h:AHeap) (o:Oper) (x:Option (Value×AHeap)):Prop:=
 onO x fun p=>p.2=h/\onO (putDst N fr o.dst p.1) fun fr'=>KD P W0 N ops ks R t aac fr' h
def KF4 (P:Program) (W0:LA) (N:Nat) (ops:Array Oper) (ks:List Kt) (R:Exit->lC->AHeap->Prop) (t:DT) (aac:II) (h:AHeap) (x:Option lC):Prop:=
 onO x fun fr'=>KD P W0 N ops ks R t aac fr' h
def KG1 (P:Program) (W0:LA) (N:Nat) (ops:Array Oper) (ks:List Kt) (R:Exit->lC->AHeap->Prop) (t:DT) (aac:II) (fr:lC) (h:AHeap) (x:Option Oper):Prop:=
 onO x fun o=>onO (wantA ops fr o) fun w=>
   Vm w
    (Vm (Zm o) (cD P W0 N o fr h fun fr' h'=>HoldsAll P ops fr' h' aac/\KD P W0 N ops ks R t aac fr' h')
     (onO (stepOp P fr h o) fun p=>onO (putDst N fr o.dst p.1) fun fr'=>HoldsAll P ops fr' p.2 aac/\KD P W0 N ops ks R t aac fr' p.2))
    (onO (putDst N fr o.dst Yx) fun fr'=>KD P W0 N ops ks R t aac fr' h)
def KG2 (P:Program) (W0:LA) (N:Nat) (ops:Array Oper) (ks:List Kt) (R:Exit->lC->AHeap->Prop) (t:DT) (aac:II) (fr:lC) (h:AHeap) (o:Oper) (w:Option Bool):Prop:=
  onO w fun w=>Vm w
        (Vm (Zm o) (cD P W0 N o fr h fun fr' h'=>HoldsAll P ops fr' h' aac/\KD P W0 N ops ks R t aac fr' h')
          (onO (stepOp P fr h o) fun p=>onO (putDst N fr o.dst p.1) fun fr'=>HoldsAll P ops fr' p.2 aac/\KD P W0 N ops ks R t aac fr' p.2))
        (onO (putDst N fr o.dst Yx) fun fr'=>KD P W0 N ops ks R t aac fr' h)
def KG3 (P:Program) (W0:LA) (N:Nat) (ops:Array Oper) (ks:List Kt) (R:Exit->lC->AHeap->Prop) (t:DT) (aac:II) (fr:lC) (h:AHeap) (o:Oper) (b:Bool):Prop:=
  Vm b (cD P W0 N o fr h fun fr' h'=>HoldsAll P ops fr' h' aac/\KD P W0 N ops ks R t aac fr' h')
          (onO (stepOp P fr h o) fun p=>onO (putDst N fr o.dst p.1) fun fr'=>HoldsAll P ops fr' p.2 aac/\KD P W0 N ops ks R t aac fr' p.2)
def VA (P:Program) (W0:LA) (N:Nat) (ops:Array Oper) (ks:List Kt) (R:Exit->lC->AHeap->Prop) (t:DT) (aac:II) (fr:lC) (h:AHeap) (o:Oper):Prop:=
 cD P W0 N o fr h fun fr' h'=>HoldsAll P ops fr' h' aac/\KD P W0 N ops ks R t aac fr' h'
def KG4 (P:Program) (W0:LA) (N:Nat) (ops:Array Oper) (ks:List Kt) (R:Exit->lC->AHeap->Prop) (t:DT) (aac:II) (fr:lC) (o:Oper) (x:Option (Value×AHeap)):Prop:=
 onO x fun p=>onO (putDst N fr o.dst p.1) fun fr'=>HoldsAll P ops fr' p.2 aac/\KD P W0 N ops ks R t aac fr' p.2
def KG5 (P:Program) (W0:LA) (N:Nat) (ops:Array Oper) (ks:List Kt) (R:Exit->lC->AHeap->Prop) (t:DT) (aac:II) (h:AHeap) (x:Option lC):Prop:=
 onO x fun fr'=>HoldsAll P ops fr' h aac/\KD P W0 N ops ks R t aac fr' h
section eqs
variable {ks : List Kt} {R : Exit → lC → AHeap → Prop} {o : Oper} {i : Nat} {t other : DT} {aac pre : List Nat} {v : Value} {h' : AHeap}
def KD_done:KD P W0 N ops ks R .done aac fr h=KN P W0 N ks R fr h:=id rfl
def KD_no:KD P W0 N ops ks R .no aac fr h=True:=id rfl
def KD_fl:KD P W0 N ops ks R (.fl i t) aac fr h=KF1 P W0 N ops ks R t (i::aac) fr h ops[i]?:=id rfl
def uS:KF1 P W0 N ops ks R t aac fr h (some o)=KF2 P W0 N ops ks R t aac fr h o (wantA ops fr o):=id rfl
def Ti:KF2 P W0 N ops ks R t aac fr h o (some true)=KF3 P W0 N ops ks R t aac fr h o (stepOp P fr h o):=id rfl
def T7:KF2 P W0 N ops ks R t aac fr h o (some false)=KF4 P W0 N ops ks R t aac h (putDst N fr o.dst Yx):=id rfl
def Kq:KF3 P W0 N ops ks R t aac fr h o (some (v,h))=KF4 P W0 N ops ks R t aac h (putDst N fr o.dst v):=by simp[KF3,KF4,onO]
def iG:KF4 P W0 N ops ks R t aac h (some fr)=KD P W0 N ops ks R t aac fr h:=id rfl
def KD_ch:KD P W0 N ops ks R (.ch i pre t other) aac fr h=(KG1 P W0 N ops ks R t (aac.filter fun p=>!pre.contains p) fr h ops[i]?/\KD P W0 N ops ks R other aac fr h):=id rfl
def Ds:KG1 P W0 N ops ks R t aac fr h (some o)=KG2 P W0 N ops ks R t aac fr h o (wantA ops fr o):=id rfl
def UE:KG2 P W0 N ops ks R t aac fr h o (some true)=KG3 P W0 N ops ks R t aac fr h o (Zm o):=id rfl
def YY:KG2 P W0 N ops ks R t aac fr h o (some false)=KF4 P W0 N ops ks R t aac h (putDst N fr o.dst Yx):=id rfl
def CD:KG3 P W0 N ops ks R t aac fr h o true=VA P W0 N ops ks R t aac fr h o:=id rfl
def fw:KG3 P W0 N ops ks R t aac fr h o false=KG4 P W0 N ops ks R t aac fr o (stepOp P fr h o):=id rfl
def uW:KG4 P W0 N ops ks R t aac fr o (some (v,h'))=KG5 P W0 N ops ks R t aac h' (putDst N fr o.dst v):=id rfl
def DV:KG5 P W0 N ops ks R t aac h (some fr)=(HoldsAll P ops fr h aac/\KD P W0 N ops ks R t aac fr h):=id rfl
end eqs
def HD (fr:lC) (d:Option Tmp) (v:Value):Prop:=∀k,d=some k->fr.get k=some v
def H3 (fr:lC) (h:AHeap) (d:Option Tmp) (x:Option (Value×AHeap)):Prop:=∃v,x=some (v,h)/\HD fr d v
def H2 (P:Program) (fr:lC) (h:AHeap) (o:Oper) (w:Option Bool):Prop:=
 match w with
 |some true=>H3 fr h o.dst (stepOp P fr h o)
 |some false=>HD fr o.dst Yx
 |none=>False
def H1 (P:Program) (ops:Array Oper) (fr:lC) (h:AHeap) (x:Option Oper):Prop:=
 match x with
 |some o=>H2 P fr h o (wantA ops fr o)
 |none=>False
theorem Km (p:Nat):Holds P ops fr h p=H1 P ops fr h ops[p]?:=by grind [Holds,H1,H2,H3,HD]
def H1_some {o:Oper}:H1 P ops fr h (some o)=H2 P fr h o (wantA ops fr o):=id rfl
def H2_true {o:Oper}:H2 P fr h o (some true)=H3 fr h o.dst (stepOp P fr h o):=id rfl
def Xb {o:Oper}:H2 P fr h o (some false)=HD fr o.dst Yx:=id rfl
def H3_some {d:Option Tmp} {v:Value}:H3 fr h d (some (v,h))=HD fr d v:=by simp[H3]
def HD_some {k:Tmp} {v:Value}:HD fr (some k) v=(fr.get k=some v):=by simp[HD]
def HD_none {v:Value}:HD fr none v=True:=by simp[HD]
def VA.intro {ks:List Kt} {R:Exit->lC->AHeap->Prop} {o:Oper} {t:DT} {aac:II} {g:FuncId} {args:List Value} {fn:Func} {c:Code} {Rc:Value->AHeap->Prop} (d:calleeOf fr o=some (g,args)) (hg:Good P g fn c) (ha:AC P W0 g args h Rc)
  (e:∀v h',WF h'->Rc v h'->KG5 P W0 N ops ks R t aac h' (putDst N fr o.dst v)):VA P W0 N ops ks R t aac fr h o:=rZ d hg ha e
def ZJ.intro {i:Nat} {ol:List Oper} {ks:List Kt} {R:Exit->lC->AHeap->Prop} (e:P.follows .mixedOrders=true) (t:DT) (d:gN ol.toArray t=true)
  (hd:KD P W0 N ol.toArray ks R t [] fr h):ZJ P W0 N i ol.toArray ks R fr h:=.draw e t d hd.sound
end Go.Fw
namespace Go.Fw
variable {P : Program} {h h' : AHeap}
theorem WF.alloc (hw:WF h) (o:fK):WF (h.alloc o):=by
 intro i hi
 by_cases e:i=h.next
 .subst e;exact mg _
 .rw[AHeap.Ve _ _ _ e]at hi;exact agr (hw i hi)
theorem WF.put (hw:WF h) {id:Nat} (o:fK) (a:id<h.next):WF (h.put id o):=by
 intro i hi;by_cases e:i=id
 .subst e;exact a
 .rw[AHeap.By _ _ _ _ e]at hi;exact hw i hi
theorem WF.kill (hw:WF h) (id:Nat):WF (h.kill id):=by
 intro i hi;by_cases e:i=id
 .grind [AHeap.Dg]
 .rw[AHeap.xJ _ _ _ e]at hi;exact hw i hi
theorem WF.lt (hw:WF h) {i:Nat} {o:fK} (a:h.own i=some o):i<h.next:=hw i (by rw[a];simp)
def om (o:fK):(h.alloc o).next=h.next+1:=rfl
theorem Mh (j:Nat) (o:fK):(h.alloc o).own j=if j=h.next then some o else h.own j:=by grind [AHeap.zT,AHeap.Ve]
theorem own_put (i j:Nat) (o:fK):(h.put i o).own j=if j=i then some o else h.own j:=by grind [AHeap.Y3,AHeap.By]
theorem uU (i j:Nat):(h.kill i).own j=if j=i then none else h.own j:=by grind [AHeap.Dg,AHeap.xJ]
theorem YP {id off:Nat} {c:List Value} (a:h.own id=some (.cells c)):h.read ⟨id,off,none⟩=c[off]?:=by grind [AHeap.read]
structure Le (g h:AHeap):Prop where
 ext:h.ext=g.ext
 own:∀i o,g.own i=some o->h.own i=some o
theorem Le.refl (h:AHeap):Le h h:=⟨rfl,fun _ _ h=>h⟩
theorem Le.trans {c h2 h3:AHeap} (a:Le c h2) (b:Le h2 h3):Le c h3:=⟨b.ext.trans a.ext,fun i o h=>b.own i o (a.own i o h)⟩
theorem Le.put {g:AHeap} (a:Le g h) {id:Nat} (o:fK) (b:g.own id=none):Le g (h.put id o):=
 ⟨a.ext,fun i c hi=>by grind [own_put,Le.own]⟩
theorem Le.kill {g:AHeap} (a:Le g h) {id:Nat} (b:g.own id=none):Le g (h.kill id):=
 ⟨a.ext,fun i c hi=>by grind [uU,Le.own]⟩
theorem Le.next {g:AHeap} (a:Le g h) (hw:WF h) {i:Nat} (hi:h.next<=i):g.own i=none:=by
 cases hg:g.own i with
 |none=>rfl
 |some o=>exact absurd (hw.lt (a.own i o hg)) NH
theorem Le.alloc {g:AHeap} (a:Le g h) (hw:WF h) (o:fK):Le g (h.alloc o):=
 ⟨a.ext,fun i b hi=>by grind [Mh,Le.next,Le.own]⟩
theorem Le.Qz (h:AHeap) (id:Nat):Le (h.kill id) h:=⟨rfl,fun i a hi=>by grind [uU]⟩
theorem Le.none {g:AHeap} (a:Le g h) {i:Nat} (hi:h.own i=none):g.own i=none:=by
 cases hg:g.own i<;>grind [Le.own]
theorem Le.read {g:AHeap} (a:Le g h) {ad:Addr} {x:Value} (b:g.read ad=some x):h.read ad=some x:=by grind [AHeap.read,Le.own,Le.ext]
def elemAddr (v:Value) (k:Nat):Addr:=match v with|.slice (some a) _ _=>Ip a k|_=>default
theorem fA (a:Addr) (n c k:Nat):elemAddr (.slice (some a) n c) k=Ip a k:=rfl
def xO (v:Value) (n:Nat):Prop:=∃a c,v=.slice a n c/\(0<n->a.isSome=true)
structure RS (h:AHeap) (v:Value) (vs:List Value):Prop where
 sl:xO v vs.length
 get:∀i x,vs[i]?=some x->h.read (elemAddr v i)=some x
theorem RS.le {v:Value} {vs:List Value} (a:RS h v vs) (e:Le h h'):RS h' v vs:=⟨a.sl,fun i x b=>e.read (a.get i x b)⟩
theorem RS.nil (h:AHeap):RS h (.slice none 0 0) []:=⟨⟨none,0,rfl,Ma⟩,fun i x a=>by simp at a⟩
theorem RS.own {id off n c:Nat} {cs:List Value} (b:h.own id=some (.cells cs)) (d:off+n<=cs.length):RS h (.slice (some ⟨id,off,none⟩) n c) ((cs.drop off).take n):=by
 have a:((cs.drop off).take n).length=n:=by simp;omega
 refine⟨⟨_,c,by rw[a],Ma⟩,fun i x e=>?_⟩
 grind [fA,Ip.eq_1,YP]
theorem RS.whole {id n c:Nat} {cs:List Value} (a:h.own id=some (.cells cs)) (b:cs.length=n):RS h (.slice (some ⟨id,0,none⟩) n c) cs:=by
 have:=RS.own (c:=c) (off:=0) (n:=n) a NH
 grind
theorem RS.len {v:Value} {vs:List Value} (b:RS h v vs) {t e:TypeId} (d:P.underlying t=some (.slice e)) (h':AHeap):aLen P h' t v=some (.int .i64 vs.length):=by
 obtain⟨a,c,rfl,_⟩:=b.sl;simp[aLen,d]
theorem RS.addr {v:Value} {vs:List Value} (b:RS h v vs) {t e:TypeId} {d:TypeDesc} (f:P.underlying t=some (.slice e)) (hd:P.underlying e=some d) (hs:UA P e=1) {k:IntKind} (i:Nat) (hi:i<vs.length):
  aIndexAddr P t v (.int k i)=some (.pointer (some (elemAddr v i))):=by
 obtain⟨a,c,rfl,hs'⟩:=b.sl;obtain⟨a,rfl⟩:=LH.1 (hs' NH);have g:(i:Int)<(vs.length:Int):=NH;simp[aIndexAddr,f,g,hd,elemAddr,hs]
theorem Bj {e:TypeId} {d:TypeDesc} (b:P.underlying e=some d) (hd:isAggD d=false) (a:Addr):aload P h e a=h.read a:=by grind [aload]
theorem RS.load {v:Value} {vs:List Value} (a:RS h v vs) {e:TypeId} {d:TypeDesc} (b:P.underlying e=some d) (hd:isAggD d=false) (i:Nat) (hi:i<vs.length):
  aload P h e (elemAddr v i)=some vs[i]:=by grind [Bj,RS.get]
def RL {α:Type} (R:AHeap->Value->α->Prop) (h:AHeap) (v:Value) (xs:List α):Prop:=
 ∃vs:List Value,RS h v vs/\vs.length=xs.length/\∀(i:Nat) (x:α) (u:Value),xs[i]?=some x->vs[i]?=some u->R h u x
def RP (_:AHeap) (v:Value) (n:Int):Prop:=v=.int .i64 n
def Nn {α:Type} (R:AHeap->Value->α->Prop):Prop:=∀h h' v x,R h v x->Le h h'->R h' v x
theorem Nn.RP:Nn Fw.RP:=fun _ _ _ _ r _=>r
def Nn.RL {α:Type} {R:AHeap->Value->α->Prop} (s:Nn R):Nn (Fw.RL R):=
 fun h h' v x ⟨vs,r,a,b⟩ e=>⟨vs,r.le e,a,fun i x u c d=>s h h' u x (b i x u c d) e⟩
section RL
variable {α : Type} {R : AHeap → Value → α → Prop} {v : Value} {xs : List α}
theorem RL.sl (a:RL R h v xs):xO v xs.length:=by obtain⟨vs,r,b,_⟩:=a;grind [RS.sl]
theorem RL.len (a:RL R h v xs) {t e:TypeId} (b:P.underlying t=some (.slice e)) (h':AHeap):aLen P h' t v=some (.int .i64 xs.length):=by
 obtain⟨vs,r,c,_⟩:=a;grind [RS.len]
theorem RL.addr (a:RL R h v xs) {t e:TypeId} {d:TypeDesc} (b:P.underlying t=some (.slice e)) (hd:P.underlying e=some d) (hs:UA P e=1) {k:IntKind} (i:Nat) (hi:i<xs.length):
  aIndexAddr P t v (.int k i)=some (.pointer (some (elemAddr v i))):=by
 obtain⟨vs,r,c,_⟩:=a;grind [RS.addr]
theorem RL.load (a:RL R h v xs) {e:TypeId} {d:TypeDesc} (b:P.underlying e=some d) (hd:isAggD d=false) (i:Nat) (hi:i<xs.length):
  ∃u,aload P h e (elemAddr v i)=some u/\R h u xs[i]:=by
 obtain⟨vs,r,f,c⟩:=a;exact⟨_,r.load b hd i NH,c i _ _ (BS hi) (BS NH)⟩
def RL.loadI {xs:RZ} (a:RL RP h v xs) {e:TypeId} {d:TypeDesc} (b:P.underlying e=some d) (hd:isAggD d=false) (i:Nat) (hi:i<xs.length):
  aload P h e (elemAddr v i)=some (.int .i64 xs[i]):=by obtain⟨u,c,h2⟩:=a.load b hd i hi;rw[c,h2]
theorem RL.nil:RL R h (.slice none 0 0) []:=⟨[],RS.nil h,rfl,fun i x u a=>by simp at a⟩
end RL
def RL.Wh {v:Value} {xs:RZ} (r:RS h v (xs.map (Value.int .i64))):RL RP h v xs:=
 ⟨_,r,Ma,fun i x u b a=>by rw[Yq,b]at a;simp at a;exact a.symm⟩
theorem RL.cellsI {v:Value} {xs:RZ} (r:RL RP h v xs):RS h v (xs.map (Value.int .i64)):=by
 obtain⟨vs,r,a,b⟩:=r;have:vs=xs.map (Value.int .i64):=by
  apply aeB
  .simp[a]
  .intro i c h2
   have d:i<xs.length:=NH;have:=b i xs[i] vs[i] (BS d) (BS c)
   grind [RP]
 grind
theorem aaa (k:Nat) (a:k<4611686018427387904):awrap .i64 ((k:Int)+1)=((k+1:Nat):Int):=by grind [ie]
theorem qF {id:Nat} {c:List Value} (b:h.own id=some (.cells c)):∀(n off:Nat),off+n<=c.length->readN h ⟨id,off,none⟩ n=some ((c.drop off).take n)
 |0,off,_=>by simp[readN]
 |n+1,off,d=>by
  have a:off<c.length:=NH;have e:=qF b n (off+1) NH;simp only[readN,YP b,BS a,Ip]
  grind [List.drop_eq_getElem_cons]
theorem Wx {t:TypeId} {d:TypeDesc} {k id off:Nat} {c:List Value} (a:P.underlying t=some d) (hd:isAggD d=true) (hs:UA P t=k) (b:h.own id=some (.cells c)) (e:off+k<=c.length):
  aload P h t ⟨id,off,none⟩=some (.agg ((c.drop off).take k).toArray):=by grind [aload,qF]
theorem Fq {t:TypeId} {d:TypeDesc} {id off:Nat} {c:List Value} (a:P.underlying t=some d) (hd:isAggD d=false) (b:h.own id=some (.cells c)):aload P h t ⟨id,off,none⟩=c[off]?:=by grind [Bj,YP]
def aeO (x:Int):awrap .u8 x=x%256:=by rw[Qt];simp[IntKind.wrap,IntKind.bits,IntKind.signed]
theorem cT (x:Int) (a:0<=x) (h2:x<=4611686018427387904):awrap .i64 x=x:=ie x NH NH
theorem xO.one {v:Value} {n:Nat} (b:xO v n):v.oneCell'=true:=by obtain⟨a,c,rfl,_⟩:=b;rfl
theorem RL.one {α:Type} {R:AHeap->Value->α->Prop} {v:Value} {xs:List α} (a:RL R h v xs):v.oneCell'=true:=a.sl.one
theorem RL.le {α:Type} {R:AHeap->Value->α->Prop} (s:Nn R) {v:Value} {xs:List α} (a:RL R h v xs) (e:Le h h'):RL R h' v xs:=(Nn.RL s) _ _ _ _ a e
def aBox3 {a b c:Value} (ha:a.oneCell'=true) (hb:b.oneCell'=true) (d:c.oneCell'=true):zF h (.agg #[a,b,c])=some (.pointer (some ⟨h.next,0,none⟩),h.alloc (.cells [a,b,c])):=by simp[zF,IF,Value.cells,ha,hb,d]
theorem QB {t:TypeId} {d:TypeDesc} {id off:Nat} {c:List Value} {x:Value} (b:P.underlying t=some d) (hs:UA P t=1) (e:h.own id=some (.cells c)) (a:off<c.length) (f:x.cells=#[x]) (g:x.oneCell'=true):
  aStore P h t (.pointer (some ⟨id,off,none⟩)) x=some (h.put id (.cells (c.set off x))):=by grind [aStore,putCells]
end Go.Fw
namespace Go.Fw
section
variable {P : Program} {h h' : AHeap}
structure CS (k:Nat) (h:AHeap) (v:Value) (n:Nat) (cs:List Value):Prop where
 sl:xO v n
 len:cs.length=n*k
 get:∀i x,cs[i]?=some x->h.read (elemAddr v i)=some x
theorem CS.le {k n:Nat} {v:Value} {cs:List Value} (c:CS k h v n cs) (e:Le h h'):CS k h' v n cs:=⟨c.sl,c.len,fun i x a=>e.read (c.get i x a)⟩
def RS.cs {v:Value} {vs:List Value} (r:RS h v vs):CS 1 h v vs.length vs:=⟨r.sl,Ma,r.get⟩
theorem CS.rs {v:Value} {n:Nat} {vs:List Value} (r:CS 1 h v n vs):RS h v vs:=by
 have:vs.length=n:=by grind [CS.len]
 subst this;exact⟨r.sl,r.get⟩
theorem CS.nil (k:Nat) (h:AHeap):CS k h (.slice none 0 0) 0 []:=⟨⟨none,0,rfl,Ma⟩,Ma,fun i x a=>by simp at a⟩
theorem ua:∀(cs:List Value) (a:Addr),(∀i x,cs[i]?=some x->h.read (Ip a i)=some x)->readN h a cs.length=some cs
 |[],_,_=>rfl
 |c::cs,a,hg=>by
  have b:=hg 0 c rfl;have d:=ua cs (Ip a 1) fun i x e=>by
   have:=hg (i+1) x pw
   grind [Ip]
  grind [readN,AHeap.read,Ip]
theorem CS.readN {k n:Nat} {a:Addr} {cap:Nat} {cs:List Value} (c:CS k h (.slice (some a) n cap) n cs):readN h a (n*k)=some cs:=by rw[<-c.len];exact ua cs a fun i x b=>c.get i x b
theorem CS.src {k n:Nat} {v:Value} {cs:List Value} {e:TypeId} (b:UA P e=k) (c:CS k h v n cs):srcCells P h e v=some (n,cs):=by
 obtain⟨a,cap,rfl,hs⟩:=c.sl;cases a with
 |none=>
  have d:n=0:=by cases n<;>grind
  subst d;have:cs=[]:=by simpa using c.len
  grind [srcCells]
 |some a=>simp[srcCells,b,c.readN]
theorem CS.first {k n:Nat} {v:Value} {cs:List Value} (c:CS k h v n cs) (e:n≠0) (m:Nat) (b:m<=n):firstN h k m v=some (cs.take (m*k)):=by
 obtain⟨a,cap,rfl,hs⟩:=c.sl;obtain⟨a,rfl⟩:=LH.1 (hs NH);have hle:m*k<=n*k:=WS _ b;have d:(cs.take (m*k)).length=m*k:=by grind [CS.len]
 simp only[firstN,b,if_true]
 conv=>lhs;rw[<-d]
 refine ua _ _ fun i x f=>c.get i x ?_
 grind
def blk:Value->Option Nat
 |.slice (some ⟨b,_,none⟩) _ _=>some b
 |_=>none
def Z2 (g:AHeap) (v:Value):Prop:=∀b,blk v=some b->g.own b=none
def GS (k:Nat) (h:AHeap) (v:Value) (n:Nat) (cs:List Value):Prop:=
 cs.length=n*k/\((v=.slice none 0 0/\n=0)\/
  ∃id c cap,v=.slice (some ⟨id,0,none⟩) n cap/\h.own id=some (.cells c)/\c.take (n*k)=cs/\(cap=RA+k\/cap=n/\n<1000000000000))
theorem GS.nil (k:Nat) (h:AHeap):GS k h (.slice none 0 0) 0 []:=⟨Ma,.inl ⟨rfl,rfl⟩⟩
theorem GS.full {k n id:Nat} {c:List Value} (a:h.own id=some (.cells c)) (b:c.length=n*k) (d:n<1000000000000):GS k h (.slice (some ⟨id,0,none⟩) n n) n c:=
 ⟨b,.inr ⟨id,c,n,rfl,a,pw,.inr ⟨rfl,d⟩⟩⟩
theorem GS.le {k n:Nat} {v:Value} {cs:List Value} (g:GS k h v n cs) (e:Le h h'):GS k h' v n cs:=by
 obtain⟨a,g|⟨id,c,cap,rfl,b,r⟩⟩:=g
 .exact⟨a,.inl g⟩
 .exact⟨a,.inr ⟨id,c,cap,rfl,e.own _ _ b,r⟩⟩
theorem GS.cs {k n:Nat} {v:Value} {cs:List Value} (g:GS k h v n cs):CS k h v n cs:=by
 obtain⟨a,⟨rfl,rfl⟩|⟨id,c,cap,rfl,b,rfl,d⟩⟩:=g
 .grind [CS.nil]
 .refine ⟨⟨_, cap, rfl, Ma⟩, a, fun i x e => ?_⟩
  grind [fA,Ip.eq_1,YP]
def apT (P:Program) (t xt:TypeId) (k:Nat):Bool:=
  match P.underlying t,P.underlying xt with
  |some (.slice e),some dx=>match azero P e with
    |some z=>z.cells.size==UA P e&&z.cells.toList.all (·.oneCell')&&(P.underlying e).isSome&&notIntD dx&&UA P e==k&&decide (P.bytesOf e<=100000)
    |none=>false
  |_,_=>false
theorem GS.append {t xt:TypeId} {k n d:Nat} {v x:Value} {cs news:List Value} (i:apT P t xt k=true) (g:GS k h v n cs) (hs:∀e,UA P e=k->srcCells P h e x=some (d,news))
  (G:cs.all (·.oneCell')=true) (H:news.all (·.oneCell')=true) (p:news.length=d*k) (hb:n+d<=1000000000):
  ∃v' h',aAppend P h t xt v x=some (v',h')/\GS k h' v' (n+d) (cs++news)/\(∀f,WF h->Le f h->Z2 f v->Le f h'/\Z2 f v'):=by
 unfold apT at i;split at i
 .rename_i e dx j l
  split at i
  .rename_i z m
   simp only[Lm,beq_iff_eq,decide_eq_true_eq]at i;obtain⟨⟨⟨⟨⟨q,r⟩,hd⟩,s⟩,I⟩,u⟩:=i;have hs:=hs e I;have J:(n+d)*P.bytesOf e<=140737488355328:=Hs (KV hb u) WY;have K:n+d<=140737488355328:=NH;have o:z.cells.size=UA P e/\z.cells.toList.all (·.oneCell')/\(P.underlying e).isSome/\notIntD dx/\news.all (·.oneCell')/\(n+d)*P.bytesOf e<=140737488355328/\n+d<=140737488355328/\news.length=d*UA P e:=
    ⟨q,r,hd,s,H,J,K,pw⟩
   have hlen:(cs++news).length=(n+d)*k:=by rw[j9,g.1,p,Ua]
   by_cases L:d=0
   .subst L
    have w:news=[]:=pw;subst w;refine⟨v,h,?_,by simpa using g,fun f _ e a=>⟨e,a⟩⟩;obtain⟨M,⟨rfl,rfl⟩|⟨id,c,cap,rfl,D,i,E⟩⟩:=g
    .simp[aAppend,j,l,m,hs,o]
    .have : n <= cap := by grind [RA]
     simp only[aAppend,j,l,m,hs]
     grind
   .obtain ⟨M, ⟨rfl, rfl⟩ | ⟨id, c, cap, rfl, D, y, E⟩⟩ := g
    .have A : cs = [] := pw
     subst A
     refine⟨_,_,?_,⟨hlen,.inr ⟨h.next,news,RA+k,by rfl,AHeap.zT _ _,pw,.inl rfl⟩⟩,fun f hw e a=>⟨e.alloc hw _,?_⟩⟩
     .have B : ¬ RA <= 0 := by decide
      have F:¬(0+d<=0):=NH;simp only[aAppend,j,l,m,hs]
      grind [GB]
     .intro b hb;grind [blk,Le.next]
    .have N:Fw.readN h ⟨id,0,none⟩ (n*k)=some cs:=by
      have:n*k<=c.length:=pw;rw[qF D (n*k) 0 NH];simp[y]
     rcases E with rfl|⟨rfl,C⟩
     .refine ⟨_, (h.kill id).alloc (.cells (cs ++ news)), ?_, ⟨hlen, .inr ⟨h.next, cs ++ news, RA + k, by rfl, by exact AHeap.zT _ _, pw, .inl rfl⟩⟩, fun f hw e a => ⟨(e.kill (a _ rfl)).alloc (hw.kill _) _, ?_⟩⟩
      .simp only [aAppend, j, l, m, hs]
       grind
      .intro b hb;grind [blk,Le.next]
     .have B : ¬ RA <= cap := Fk.2 (V9 C WY)
      refine⟨_,_,?_,⟨hlen,.inr ⟨h.next,cs++news,RA+k,by rfl,AHeap.zT _ _,pw,.inl rfl⟩⟩,fun f hw e a=>⟨e.alloc hw _,?_⟩⟩
      .simp only [aAppend, j, l, m, hs]
       grind [GB]
      .intro b hb;grind [blk,Le.next]
  .cases i
 .cases i
theorem all_rep {v:Value} (a:v.oneCell'=true) (n:Nat):(List.replicate n v).all (·.oneCell')=true:=pw
theorem Ye {t e:TypeId} {z:Value} {d:TypeDesc} (h:AHeap) (a:P.underlying t=some (.slice e)) (b:azero P e=some z) (c:z.cells=#[z]) (hf:flat z=true) (f:z.oneCell'=true) (hs:UA P e=1) (hd:P.underlying e=some d) (hb:(P.bytesOf e).ble 1000=true) (n:Nat) (g:n<=1000000):
  aMakeSlice P h t (.int .i64 n) (.int .i64 n)=some (.slice (some ⟨h.next,0,none⟩) n n,h.alloc (.cells (List.replicate n z))):=by
 have i:(P.bytesOf e:Int)*n<=140737488355328:=by
  have:P.bytesOf e*n<=1000*1000000:=KV (qL232 hb) g
  grind
 have j:(n:Int)<=140737488355328:=NH;simp[aMakeSlice,a,b,c,hf,hs,hd,i,j,IF,HW,f]
theorem IQ {t e:TypeId} {d:TypeDesc} {k n id off dl dc:Nat} {c cs:List Value} {v:Value} (i:P.underlying t=some (.slice e)) (hd:P.underlying e=some d) (j:UA P e=k) (s:h.own id=some (.cells c)) (g:CS k h v n cs) (l:cs.all (·.oneCell')=true)
  (m:Nat) (o:min n dl=m) (p:m≠0) (hb:off+m*k<=c.length):
  aCopy P h t (.slice (some ⟨id,off,none⟩) dl dc) v=some (.int .i64 m,h.put id (.cells (c.take off++cs.take (m*k)++c.drop (off+m*k)))):=by
 have q:n≠0:=NH;have b:m<=n:=NH;have hlen:aLenOf v=some n:=by obtain⟨a,cap,rfl,_⟩:=g.sl;rfl
 have hf:=g.first q m b
 have hle:m*k<=n*k:=WS _ b;have u:(cs.take (m*k)).length=m*k:=by grind [CS.len]
 have r:(cs.take (m*k)).all (·.oneCell')=true:=pw;have f:off+(cs.take (m*k)).length<=c.length/\(cs.take (m*k)).all (·.oneCell')/\m≠0:=⟨pw,r,p⟩;simp only[aCopy,i,hlen,hd,Cj,if_true,o,j]
 grind [IW]
def afl {t e:TypeId} {d:TypeDesc} {dl dc n:Nat} {a:Option Addr} {v:Value} (b:P.underlying t=some (.slice e)) (hd:P.underlying e=some d) (c:UA P e≠0) (f:xO v n) (g:min n dl=0):
  aCopy P h t (.slice a dl dc) v=some (.int .i64 (0:Nat),h):=by
 obtain⟨a,cap,rfl,_⟩:=f;simp[aCopy,b,aLenOf,hd,g,c]
def yj {t e:TypeId} {d:TypeDesc} {n cap:Nat} {a:Option Addr} (b:P.underlying t=some (.slice e)) (hd:P.underlying e=some d) (c:UA P e=1) {k:IntKind} (i:Nat) (hi:i<=n) (l:n<cap\/i<n) (f:n<=cap) (hs:cap<RA):
  aSlice P t (.slice a n cap) (some (.int k i)) none none=some (.slice (a.map (fun a=>Ip a i)) (n-i) (cap-i)):=by
 have g:¬RA<=cap:=NH;have h2:(0:Int)<=i:=NH;have h3:(i:Int)<=n:=NH;have j:¬(cap=i):=NH;simp[aSlice,b,g,f,hd,aBounds,aBound,h2,h3,j,c]
def pn {t e:TypeId} {d:TypeDesc} {n cap:Nat} {a:Addr} (b:P.underlying t=some (.slice e)) (hd:P.underlying e=some d) {k:IntKind} (i:Nat) (hi:i<=cap) (c:n<=cap) (hs:cap<RA):
  aSlice P t (.slice (some a) n cap) none (some (.int k i)) none=some (.slice (some a) i cap):=by
 have f:¬RA<=cap:=NH;have h2:(0:Int)<=i:=NH;have h3:(i:Int)<=cap:=NH;simp[aSlice,b,f,c,hd,aBounds,aBound,h2,h3,Ip]
theorem CS.own {k id off n cap:Nat} {c:List Value} (b:h.own id=some (.cells c)) (d:off+n*k<=c.length):CS k h (.slice (some ⟨id,off,none⟩) n cap) n ((c.drop off).take (n*k)):=by
 have a:((c.drop off).take (n*k)).length=n*k:=by simp;omega
 refine⟨⟨_,cap,rfl,Ma⟩,a,fun i x e=>?_⟩
 grind [fA,Ip.eq_1,YP]
def Wc {t e:TypeId} {d:TypeDesc} {a:Addr} {n cap:Nat} (b:P.underlying t=some (.slice e)) (hd:P.underlying e=some d) (hs:UA P e=1) {k:IntKind} (i:Nat) (hi:i<n):
  aIndexAddr P t (.slice (some a) n cap) (.int k i)=some (.pointer (some (Ip a i))):=by
 have c:(i:Int)<(n:Int):=NH;simp[aIndexAddr,b,c,hd,hs]
def Jg {t e:TypeId} {a:Option Addr} {n cap:Nat} (b:P.underlying t=some (.slice e)) (h:AHeap):aLen P h t (.slice a n cap)=some (.int .i64 n):=by simp[aLen,b]
theorem aG {v v':Value} (hf:∀f,WF h->Le f h->Z2 f v->Le f h'/\Z2 f v') (hw:WF h) {a:Nat} {o:fK} (g:h.own a=some o) (hb:blk v≠some a):h'.own a=some o/\blk v'≠some a:=by
 cases j:blk v with
 |none=>
  obtain⟨d,h2⟩:=hf h hw (Le.refl h) (fun b hb=>by grind);exact⟨d.own _ _ g,fun e=>by have:=h2 a e;grind⟩
 |some b=>
  have i:a≠b:=pw;obtain⟨d,h2⟩:=hf (h.kill b) hw (Le.Qz h b) (fun c k=>by grind [AHeap.Dg]);have:(h.kill b).own a=some o:=by grind [AHeap.xJ]
  exact⟨d.own _ _ this,fun e=>by have h3:=h2 a e;grind⟩
theorem GS.push {t:TypeId} {n id:Nat} {v x:Value} {cs:List Value} (b:apT P t t 1=true) (g:GS 1 h v n cs) (c:h.own id=some (.cells [x])) (a:cs.all (·.oneCell')=true) (d:x.oneCell'=true) (hb:n+1<=1000000000):
  ∃v' h',aAppend P h t t v (.slice (some ⟨id,0,none⟩) 1 1)=some (v',h')/\GS 1 h' v' (n+1) (cs++[x])/\(∀f,WF h->Le f h->Z2 f v->Le f h'/\Z2 f v'):=
 g.append b (fun e i=>(CS.own (k:=1) (off:=0) (n:=1) (cap:=1) c Ma).src i) a (by simp[d]) Ma hb
theorem RL.load' {α:Type} {R:AHeap->Value->α->Prop} {g:AHeap} {v:Value} {xs:List α} (a:RL R g v xs) {e:TypeId} {d:TypeDesc} (b:P.underlying e=some d) (hd:isAggD d=false) (i:Nat) (hi:i<xs.length):
  ∃u,(∀h,Le g h->aload P h e (elemAddr v i)=some u)/\R g u xs[i]:=by grind [RL.load,Bj,Le.read]
def rem (l:II) (h:AHeap):AHeap:=l.foldr (fun i g=>g.kill i) h
theorem vL (l:II):(rem l h).ext=h.ext:=by
 induction l with
 |nil=>rfl
 |cons a l b=>exact b
theorem DC (l:II) (i:Nat):(rem l h).own i=if i∈l then none else h.own i:=by
 induction l<;>grind [rem,uU]
theorem Th {l:II} {i:Nat} {o:fK}:(rem l h).own i=some o↔h.own i=some o/\i∉l:=by grind [DC]
theorem Sa (l:II) (h:AHeap):Le (rem l h) h:=⟨(vL l).symm,fun i o hi=>(Th.1 hi).1⟩
theorem Le.rem {l l':II} (a:h'.ext=h.ext) (b:∀i o,h.own i=some o->i∉l->h'.own i=some o/\i∉l'):Le (Fw.rem l h) (Fw.rem l' h'):=
 ⟨by grind [vL],fun i o hi=>by grind [Th]⟩
theorem Le.iV {g:AHeap} {l:II} (e:Le g h) (a:∀i∈l,g.own i=Option.none):Le g (Fw.rem l h):=
 ⟨by grind [vL,Le.ext],fun i o hi=>Th.2 ⟨e.own _ _ hi,fun b=>by grind⟩⟩
def Le.Xm {l:II} (e:Le h h'):Le (Fw.rem l h) (Fw.rem l h'):=Le.rem e.ext fun i o hi a=>⟨e.own _ _ hi,a⟩
def bl (v:Value):II:=(blk v).toList
theorem Zr {v:Value} {i:Nat}:i∈bl v↔blk v=some i:=by simp[bl]
def GS.Fi {k n:Nat} {v:Value} {cs:List Value} {l:II} (g:GS k h v n cs) (hb:∀b,blk v=some b->b∉l):GS k (rem l h) v n cs:=by
 obtain⟨a,g|⟨id,c,cap,rfl,d,r⟩⟩:=g
 .exact⟨a,.inl g⟩
 .exact⟨a,.inr ⟨id,c,cap,rfl,Th.2 ⟨d,hb id rfl⟩,r⟩⟩
theorem GS.Sy {k n:Nat} {v:Value} {cs:List Value} (g:GS k h v n cs) {b:Nat} (hb:blk v=some b):h.own b≠none:=by
 obtain⟨a,⟨rfl,_⟩|⟨id,c,cap,rfl,d,r⟩⟩:=g
 .cases hb
 .injection hb with hb;grind
def cu (v:Value):Prop:=v=.slice none 0 0\/∃a n c,v=.slice a n c/\RA<=c
theorem uZ {t xt:TypeId} {v x v':Value} (e:aAppend P h t xt v x=some (v',h')) (d:cu v):cu v':=by
 have key:∀base len cap,v=.slice base len cap->(v=.slice none 0 0\/RA<=cap)->cu v':=by
  intro base len cap f g;subst f;unfold aAppend at e;split at e
  .rename_i heq
   injection heq with i h2 h3;subst i h2 h3;split at e
   .split at e
    .split at e
     .grind
     .split at e
      .split at e
       .split at e
        .split at e
         .split at e
          .injection e with e;injection e with b j;subst b;exact .inr ⟨_,_,_,rfl,by assumption⟩
          .cases e
         .cases e
        .cases e
       .cases e
      .split at e
       .grind
       .split at e
        .split at e
         .injection e with e;injection e with b j;subst b;exact .inr ⟨_,_,_,rfl,agY _ _⟩
         .cases e
        .cases e
    .cases e
   .cases e
  .cases e
 rcases d with rfl|⟨a,n,c,rfl,k⟩
 all_goals grind
theorem Ub (a:Addr) (i j:Nat):Ip (Ip a i) j=Ip a (i+j):=by grind [Ip]
theorem RS.part {a:Addr} {n cap cap' lo hi:Nat} {vs:List Value} (r:RS h (.slice (some a) n cap) vs) (d:lo<=hi) (h2:hi<=n) (e:vs.length=n):RS h (.slice (some (Ip a lo)) (hi-lo) cap') ((vs.drop lo).take (hi-lo)):=by
 have c:((vs.drop lo).take (hi-lo)).length=hi-lo:=by simp;omega
 refine⟨⟨_,cap',by rw[c],Ma⟩,fun i x b=>?_⟩;rw[fA,Ub];rw[Dj]at b;split at b
 .rw[abZ]at b;have:=r.get (lo+i) x b;grind [fA]
 .cases b
def RS.none' {a:Option Addr} {n cap cap':Nat} {a':Option Addr} (b:n=0):RS h (.slice a' n cap') []:=by
 subst b;exact⟨⟨a',cap',rfl,Ma⟩,fun i x c=>by simp at c⟩
theorem Hx {n:Nat} {v:Value} {cs:List Value} {t e:TypeId} {d:TypeDesc} (i:P.underlying t=some (.slice e)) (hd:P.underlying e=some d) (hs:UA P e=1) (g:GS 1 h v n cs) (p:n≠0) (lo hi:Nat) (l:lo<=hi) (h2:hi<=n):
  ∃v',aSlice P t v (some (.int .i64 lo)) (some (.int .i64 hi)) none=some v'/\RS h v' ((cs.drop lo).take (hi-lo)):=by
 have gc:=g.cs.rs;obtain⟨q,⟨rfl,rfl⟩|⟨id,c,cap,rfl,r,s,m⟩⟩:=g
 .grind
 .have n1 : (0 : Int) <= lo := NH
  have j:(lo:Int)<=hi:=NH;have n3:(hi:Int)<=n:=NH;have k:(0:Int)<=hi:=NH;have b:cs.length=n:=pw;rcases m with rfl|⟨rfl,o⟩
  .refine ⟨.slice (some (Ip ⟨id, 0, none⟩ lo)) (hi - lo) (RA + 1), ?_, gc.part l h2 b⟩
   simp[aSlice,i,hd,hs,aBounds,aBound,n1,j,n3,k]
  .have f : ¬ RA <= cap := Fk.2 (V9 o WY)
   refine⟨.slice (if cap=lo then some ⟨id,0,none⟩else some (Ip ⟨id,0,none⟩ lo)) (hi-lo) (cap-lo),?_,?_⟩
   .simp[aSlice,i,hd,hs,aBounds,aBound,n1,j,n3,k,f]
   .split
    .have : hi - lo = 0 := NH
     rw[this];simp only[ahO];exact RS.none' (a:=none) (cap:=0) rfl
    grind [RS.part]
end
def kA:=@cond_true
def kB:=@cond_false
def kC:=@Trie.YO
def kD:=@Dk
def kE:=@List.append_eq
def kF:=@WZ
def kG:=@aey
def kH:=@im
def kI:=@FD
def kJ:=@TN
def kK:=@beq_self_eq_true
def kL:=@List.filter_nil
def kM:=@Bc
def kN:=@List.contains_cons
def kO:=@List.contains_nil
def kS1:=XC @lW (XC @fst_mk (XC @snd_mk (XC @Mc (XC @vJ (XC @af3 (XC @RI (XC @SC (XC @qS (XC @af4 (XC @L5 (XC @Fe (XC @Wi (XC @T4 (XC @aho (XC @KN_seq (XC @EF (XC @sn (XC @Vy (XC @Y6 (XC @Kw (XC @zz (XC @acE (XC @J1 (XC @Ys (XC @mK (XC @Ue (XC @cj (XC @bE (XC @Q2 (XC @HA (XC @RW (XC @Px (XC @re (XC @OD (XC @EV (XC @NA (XC @ac7 (XC @ahK (XC @Nat.zero_ne_one (XC @Bool.not_true (XC @ahN (XC @aeO (XC @Bool.true_beq (XC @Bool.false_beq (XC @beq_true (XC @beq_false (XC @decide_true (XC @decide_false (XC @Bool.not_not (XC @ahG (XC @Bool.true_and (XC @Bool.and_false (@Bool.false_and)))))))))))))))))))))))))))))))))))))))))))))))))))))
def kJ1:=XC @lW (XC @fst_mk (XC @snd_mk (XC @Mc (XC @vJ (XC @af3 (XC @RI (XC @SC (XC @qS (XC @af4 (XC @L5 (XC @Fe (XC @Wi (XC @T4 (XC @aho (XC @EF (XC @sn (XC @Vy (XC @Y6 (XC @Kw (XC @zz (XC @acE (XC @J1 (XC @Ys (XC @mK (XC @Ue (XC @cj (XC @bE (XC @Q2 (XC @HA (XC @RW (XC @Px (XC @re (XC @OD (XC @EV (XC @NA (XC @ac7 (XC @ahK (XC @Nat.zero_ne_one (XC @Bool.not_true (XC @ahN (XC @aeO (XC @Bool.true_beq (XC @Bool.false_beq (XC @beq_true (XC @beq_false (XC @decide_true (XC @decide_false (XC @Bool.not_not (XC @ahG (XC @Bool.true_and (XC @Bool.and_false (@Bool.false_and))))))))))))))))))))))))))))))))))))))))))))))))))))
def kD1:=XC @tA.eq_1 (XC @tA.eq_2 (XC @JQ.eq_1 (XC @Bool.or_self (XC @adN (XC @KD_done (XC @KD_no (XC @KD_fl (XC @uS (XC @Ti (XC @T7 (XC @Kq (XC @iG (XC @KD_ch (XC @Ds (XC @UE (XC @YY (XC @CD (XC @fw (XC @uW (XC @DV (XC @Km (XC @H1_some (XC @H2_true (XC @Xb (XC @H3_some (XC @HD_some (XC @HD_none (XC @Bool.or_false (XC @Bool.false_or (XC @Bool.true_or (XC @Bool.or_true (XC @true_and (@and_true)))))))))))))))))))))))))))))))))
def kS2:=XC @cond_true.{1} (XC @cond_false.{1} (XC @Trie.YO (XC @Dk.{0} (XC @List.append_eq.{0} (XC @WZ.{0} (XC @aey.{0} (XC @im.{0} (XC @FD.{0} (XC @TN.{0,0} (XC @beq_self_eq_true.{0} (XC @bLookup.eq_1 (XC @bMapSet.eq_1 (XC @wantA.eq_1 (XC @Zm.eq_1 (XC @stepOp.eq_1 (XC @evalO.eq_1 (XC @evalO.eq_2 (XC @evalO.eq_3 (XC @evalO.eq_4 (XC @evalL.eq_1 (XC @evalL.eq_2 (XC @evalP.eq_1 (XC @evalP.eq_2 (XC @evalM.eq_1 (XC @evalM.eq_2 (XC @putDst.eq_1 (XC @putDst.eq_2 (XC @flat.eq_1 (XC @flat.eq_2 (XC @flat.eq_3 (XC @flat.eq_4 (XC @flat.eq_5 (XC @flat.eq_6 (XC @flat.eq_7 (XC @flat.eq_8 (XC @flat.eq_9 (XC @aBuiltin.eq_1 (XC @aBuiltin.eq_2 (XC @aBuiltin.eq_3 (XC @aBuiltin.eq_4 (XC @aBuiltin.eq_5 (XC @aBuiltin.eq_6 (XC @aBuiltin.eq_7 (XC @aBuiltin.eq_8 (XC @mM.eq_1 (XC @guardFree.eq_1 (XC @guardFree.eq_2 (XC @abin.eq_1 (XC @abin.eq_2 (XC @abin.eq_3 (XC @abin.eq_4 (XC @abin.eq_5 (XC @abin.eq_6 (XC @abin.eq_7 (XC @aInt.eq_1 (XC @aInt.eq_2 (XC @aInt.eq_3 (XC @aInt.eq_4 (XC @aInt.eq_5 (XC @aInt.eq_6 (XC @aInt.eq_7 (XC @aInt.eq_8 (XC @aInt.eq_9 (XC @aInt.eq_10 (XC @aInt.eq_11 (XC @aInt.eq_12 (XC @aInt.eq_13 (XC @aInt.eq_14 (XC @aInt.eq_15 (XC @aInt.eq_16 (XC @aUn.eq_1 (XC @aUn.eq_2 (XC @aUn.eq_3 (XC @aNilCheck.eq_1 (XC @aNilCheck.eq_2 (XC @aNilCheck.eq_3 (XC @retQ.eq_1 (XC @retQ.eq_2 (XC @retQ.eq_3 (XC @G8.eq_1 (XC @aresults.eq_1 (XC @aresultL.eq_1 (XC @aresultL.eq_2 (XC @aresult.eq_1 (XC @aresult.eq_2 (XC @mkF.eq_1 (XC @mkF.eq_2 (XC @Yx.eq_1 (XC @aExtract.eq_1 (XC @aExtract.eq_2 (@calleeOf.eq_1)))))))))))))))))))))))))))))))))))))))))))))))))))))))))))))))))))))))))))))))))))))))))))
def HO:=XC @kS1 @kS2
def Qg:=XC @kD1 (XC @HoldsAll.eq_1 (XC @HoldsAll.eq_2 (XC @List.filter_nil.{0} (XC @Bc.{0} (XC @List.contains_cons.{0} @List.contains_nil.{0})))))
def kJJ:=XC @kJ1 @kS2
theorem fD {p:Prop} (h:p:=by simp only[Fj,HO,Nat.reduceLT,↓reduceIte,Nat.reduceEqDiff,reduceCtorEq];simp):p:=h
theorem PJ {p:Prop} (h:p:=by simp only[HO,Nat.reduceLT,↓reduceIte,Nat.reduceEqDiff,reduceCtorEq]<;>rfl):p:=h
theorem sbL {fr:lC}:Sub .leaf fr:=fun k v h=>by simp[Trie.get]at h
theorem sbS {t fr:lC} {k:Nat} {v:Value} (h:Sub t fr) (e:fr.get k=some v):Sub (t.set k v) fr:=fun k' v' h'=>by
  rw[Trie.YO]at h'
  by_cases hk:k'=k
  ·subst hk;rw[if_pos rfl]at h';injection h' with h';subst h';exact e
  ·rw[if_neg hk]at h';exact h k' v' h'
theorem lgA {I:Nat→lC→AHeap→Prop} {k k':Nat} {Q:Exit→lC→AHeap→Prop} {fr fr':lC} {h:AHeap} (hk:k'<k) (hi:I k' fr' h) (hl:Sub fr' fr:=by(repeat refine sbS ?_ (by simp only[HO,Nat.reduceLT,↓reduceIte,Nat.reduceEqDiff,reduceCtorEq]<;>simp));exact sbL):aeM I k Q .normal fr h:=⟨k',hk,_,hl,hi⟩
theorem lIn {P:Program} {W0:LA} {N:Nat} {fr fr':lC} {h:AHeap} {c:Code} {ks:List Kt} {R:Exit→lC→AHeap→Prop} (I:Nat→lC→AHeap→Prop) {k0:Nat} (h0:I k0 fr' h) (hr:∀k fr h,WF h→I k fr h→VK P W0 N c [] (aeM I k (KE P W0 N R ks)) fr h) (hl:Sub fr' fr:=by(repeat refine sbS ?_ (by simp only[HO,Nat.reduceLT,↓reduceIte,Nat.reduceEqDiff,reduceCtorEq]<;>simp));exact sbL):aab P W0 N c ks R fr h:=.loop I k0 _ hl h0 fun k fr h hi=>ud.wf fun hw=>VC.sound (hr k fr h hw hi)
theorem Uy {p q:Prop} (x:q) (e:p=q:=by simp only[HO,Nat.reduceLT,↓reduceIte,Nat.reduceEqDiff,reduceCtorEq];rfl):p:=e.mpr x
theorem Sk {f p q:Prop} (F:f) (x:q) (e:f→p=q:=by intro k;simp only[HO,Nat.reduceLT,↓reduceIte,Nat.reduceEqDiff,reduceCtorEq,k];rfl):p:=(e F).mpr x
theorem CO {f p q:Prop} (F:f) (x:q) (e:f→p=q:=by intro k;simp only[HO,Nat.reduceLT,↓reduceIte,Nat.reduceEqDiff,reduceCtorEq,Nat.reduceBEq,Qg,k];rfl):p:=(e F).mpr x
def Br:=XC @me.eq_1 (XC @argFrom.eq_1 @argFrom.eq_2)
theorem AC.vE {P:Program} {W0:LA} {h:AHeap} {f:FuncId} {args:List Value} {fn:Func} {c:Code} {R:Value→AHeap→Prop} (hg:Good P f fn c) {n:Nat} (hn:fn.ntmps=n) {rs:Array ResultVar} (hrs:fn.results=rs)
    (hc:WF h→VK P W0 n c [] (retQ P rs.toList R) (me args) h) (hlen:args.length≤n:=by simp):AC P W0 f args h R:=AC.vc hg hn hrs hlen hc
section
variable {P : Program} {h h' : AHeap}
def GT (k:Nat) (h:AHeap) (v:Value) (n:Nat) (cs:List Value):Prop:=
 cs.length=n*k/\((v=.slice none 0 0/\n=0)\/
  ∃id c cap,v=.slice (some ⟨id,0,none⟩) n cap/\h.own id=some (.cells c)/\c.take (n*k)=cs/\(cap=RA+k\/(n<=cap/\cap<1000000000000/\cap*k<=c.length)))
theorem GS.gt {k n:Nat} {v:Value} {cs:List Value} (g:GS k h v n cs):GT k h v n cs:=by
 obtain⟨a,g|⟨id,c,cap,rfl,b,d,r⟩⟩:=g
 .exact⟨a,.inl g⟩
 .refine ⟨a, .inr ⟨id, c, cap, rfl, b, d, ?_⟩⟩
  grind
theorem GT.le {k n:Nat} {v:Value} {cs:List Value} (g:GT k h v n cs) (e:Le h h'):GT k h' v n cs:=by
 obtain⟨a,g|⟨id,c,cap,rfl,b,r⟩⟩:=g
 .exact⟨a,.inl g⟩
 .exact⟨a,.inr ⟨id,c,cap,rfl,e.own _ _ b,r⟩⟩
theorem GT.kept {k n:Nat} {v:Value} {cs:List Value} (g:GT k h v n cs) (d:∀b o,blk v=some b->h.own b=some o->h'.own b=some o):GT k h' v n cs:=by
 obtain⟨a,q|⟨i,c,cap,rfl,e,rr⟩⟩:=g
 .exact⟨a,.inl q⟩
 .exact⟨a,.inr ⟨i,c,cap,rfl,d i _ rfl e,rr⟩⟩
theorem GT.put {k n:Nat} {v:Value} {cs:List Value} (g:GT k h v n cs) {id:Nat} (o:fK) (hb:blk v≠some id):GT k (h.put id o) v n cs:=
 g.kept fun b a c d=>by grind [AHeap.By]
theorem GT.cs {k n:Nat} {v:Value} {cs:List Value} (g:GT k h v n cs):CS k h v n cs:=by
 obtain⟨a,⟨rfl,rfl⟩|⟨id,c,cap,rfl,b,rfl,d⟩⟩:=g
 .grind [CS.nil]
 .refine ⟨⟨_, cap, rfl, Ma⟩, a, fun i x e => ?_⟩
  grind [fA,Ip.eq_1,YP]
theorem GT.Sy {k n:Nat} {v:Value} {cs:List Value} (g:GT k h v n cs) {b:Nat} (hb:blk v=some b):∃c,h.own b=some (.cells c):=by
 obtain⟨a,⟨rfl,rfl⟩|⟨i,c,cap,rfl,d,rr⟩⟩:=g
 .cases hb
 .injection hb with hb;grind
theorem GT.append {t xt:TypeId} {k n i:Nat} {v x:Value} {cs news:List Value} (o:apT P t xt k=true) (g:GT k h v n cs) (hs:∀e,UA P e=k->srcCells P h e x=some (i,news))
  (p:cs.all (·.oneCell')=true) (B:news.all (·.oneCell')=true) (d:news.length=i*k) (hb:n+i<=1000000000):
  ∃v' h',aAppend P h t xt v x=some (v',h')/\GT k h' v' (n+i) (cs++news)/\(∀f,WF h->Le f h->Z2 f v->Le f h'/\Z2 f v'):=by
 obtain⟨s,⟨rfl,rfl⟩|⟨id,c,cap,rfl,y,j,Q⟩⟩:=g
 .have C : cs = [] := by simpa using s
  subst C;obtain⟨v',h',D,E,e3⟩:=GS.append o (GS.nil k h) hs p B d hb;exact⟨v',h',D,E.gt,e3⟩
 .rcases Q with rfl | ⟨u, q, r⟩
  .obtain ⟨v', h', D, E, e3⟩ := GS.append o ⟨s, .inr ⟨id, c, _, rfl, y, j, .inl rfl⟩⟩ hs p B d hb
   exact⟨v',h',D,E.gt,e3⟩
  .unfold apT at o
   split at o
   .rename_i e dx F G
    split at o
    .rename_i z H
     simp only[Lm,beq_iff_eq,decide_eq_true_eq]at o;obtain⟨⟨⟨⟨⟨I,J⟩,hd⟩,K⟩,A⟩,L⟩:=o;have hs:=hs e A;have R:(n+i)*P.bytesOf e<=140737488355328:=Hs (KV hb L) WY;have S:n+i<=140737488355328:=NH;have l:z.cells.size=UA P e/\z.cells.toList.all (·.oneCell')/\(P.underlying e).isSome/\notIntD dx/\news.all (·.oneCell')/\(n+i)*P.bytesOf e<=140737488355328/\n+i<=140737488355328/\news.length=i*UA P e:=
      ⟨I,J,hd,K,B,R,S,by rw[A];exact d⟩
     have hlen:(cs++news).length=(n+i)*k:=by rw[j9,s,d,Ua]
     have w:¬RA<=cap:=Fk.2 (V9 q WY);have M:Fw.readN h ⟨id,0,none⟩ (n*k)=some cs:=by
      have:n*k<=c.length:=by have:=s;rw[<-j,PN]at this;omega
      rw[qF y (n*k) 0 NH];simp[j]
     by_cases N:i=0
     .subst N
      have O:news=[]:=by simpa using d
      subst O;refine⟨_,h,?_,⟨by simpa using s,.inr ⟨id,c,cap,rfl,y,by simpa using j,.inr ⟨u,q,r⟩⟩⟩,fun f _ e a=>⟨e,a⟩⟩;simp only[aAppend,F,G,H,hs];rw[if_pos l,if_pos trivial,if_pos u];rfl
     .by_cases hf : n + i <= cap
      .have m : n * k + news.length <= c.length := by rw [d, <- Ua]; exact Hs (WS _ hf) r
       refine⟨.slice (some ⟨id,0,none⟩) (n+i) cap,h.put id (.cells (putCells c (n*k) news)),?_,⟨hlen,.inr ⟨id,_,cap,rfl,AHeap.Y3 _ _ _,?_,.inr ⟨hf,q,by rw[O7];exact r⟩⟩⟩,fun f _ e a=>⟨e.put _ (a _ rfl),a⟩⟩
       .simp only [aAppend, F, G, H, hs]
        rw[if_pos l,if_neg N,if_neg w,if_pos hf];simp only[y,A,XJ,m,if_true]
       .rw [IW _ _ _ m]
        rw[gX (by simp[d];rw[Ua];omega)];rw[yM (by simp[d];rw[Ua];omega),j]
      .refine ⟨_, _, ?_, ⟨hlen, .inr ⟨h.next, cs ++ news, RA + k, rfl, AHeap.zT _ _, by rw [<- hlen, agR], .inl rfl⟩⟩, fun f hw e a => ⟨e.alloc hw _, ?_⟩⟩
       .simp only [aAppend, F, G, H, hs]
        rw[if_pos l,if_neg N,if_neg w,if_neg hf];simp only[GB,A,M,p,if_true]
       .intro b hb;simp[blk]at hb;subst hb;exact e.next hw (qL0 _)
    .cases o
   .cases o
theorem GT.push {t:TypeId} {n id:Nat} {v x:Value} {cs:List Value} (b:apT P t t 1=true) (g:GT 1 h v n cs) (c:h.own id=some (.cells [x])) (a:cs.all (·.oneCell')=true) (i:x.oneCell'=true) (hb:n+1<=1000000000):
  ∃v' h',aAppend P h t t v (.slice (some ⟨id,0,none⟩) 1 1)=some (v',h')/\GT 1 h' v' (n+1) (cs++[x])/\(∀f,WF h->Le f h->Z2 f v->Le f h'/\Z2 f v'):=
 GT.append b g (fun e d=>CS.src d (CS.own (k:=1) (off:=0) (n:=1) (cap:=1) c Ma)) a pw Ma hb
theorem GT.cut {k n:Nat} {v:Value} {cs:List Value} {t e:TypeId} {d:TypeDesc} (i:P.underlying t=some (.slice e)) (hd:P.underlying e=some d) (hs:UA P e=k) (g:GT k h v n cs) (m:Nat) (p:m<=n):
  ∃v',aSlice P t v none (some (.int .i64 m)) none=some v'/\GT k h v' m (cs.take (m*k))/\blk v'=blk v:=by
 obtain⟨u,⟨rfl,rfl⟩|⟨id,c,cap,rfl,o,w,q⟩⟩:=g
 .obtain rfl : m = 0 := NH
  refine⟨.slice none 0 0,?_,⟨Ma,.inl ⟨rfl,rfl⟩⟩,rfl⟩;have:¬RA<=0:=by decide
  simp[aSlice,i,hd,this,aBounds,aBound]
 .have h2 : (0 : Int) <= m := NH
  have r:m*k<=n*k:=WS _ p;have a:cs.take (m*k)=c.take (m*k):=pw;have b:(cs.take (m*k)).length=m*k:=pw;rcases q with rfl|⟨j,f,l⟩
  .have h3 : (m : Int) <= n := NH
   refine⟨.slice (some ⟨id,0,none⟩) m (RA+k),?_,⟨b,.inr ⟨id,c,_,rfl,o,a.symm,.inl rfl⟩⟩,rfl⟩;simp[aSlice,i,hd,hs,aBounds,aBound,Ip,h2,h3]
  .have s : ¬ RA <= cap := Fk.2 (V9 f WY)
   have h3:(m:Int)<=cap:=NH;refine⟨.slice (some ⟨id,0,none⟩) m cap,?_,⟨b,.inr ⟨id,c,_,rfl,o,a.symm,.inr ⟨NH,f,l⟩⟩⟩,rfl⟩;simp[aSlice,i,s,j,hd,aBounds,aBound,h2,h3,Ip]
end
end Go.Fw
namespace Go.Fw
variable {P : Program} {h h' : AHeap}
def Lj {α:Type} (R:AHeap->Value->α->Prop) (h:AHeap) (v:Value) (xs:List α):Prop:=
 ∃us:List Value,GS 1 h v us.length us/\us.length=xs.length/\us.all (·.oneCell')=true/\∀(i:Nat) x u,xs[i]?=some x->us[i]?=some u->R (rem (bl v) h) u x
section
variable {α : Type} {R : AHeap → Value → α → Prop} {v : Value} {xs : List α}
theorem Lj.rl (s:Nn R) (g:Lj R h v xs):RL R h v xs:=by
 obtain⟨us,a,b,_,c⟩:=g;exact⟨us,a.cs.rs,b,fun i x u d e=>s _ _ _ _ (c i x u d e) (Sa _ _)⟩
theorem Lj.le (s:Nn R) (g:Lj R h v xs) (e:Le h h'):Lj R h' v xs:=by
 obtain⟨us,a,b,c,d⟩:=g;exact⟨us,a.le e,b,c,fun i x u f j=>s _ _ _ _ (d i x u f j) e.Xm⟩
theorem Lj.empty (R:AHeap->Value->α->Prop) {id:Nat} (a:h.own id=some (.cells [])):Lj R h (.slice (some ⟨id,0,none⟩) 0 0) []:=⟨[],GS.full a rfl WY,rfl,rfl,fun i x u b=>by simp at b⟩
theorem Lj.push (s:Nn R) {t:TypeId} (n:apT P t t 1=true) (g:Lj R h v xs) (c:WF h) {u:Value} {x:α} (p:R (rem (bl v) h) u x) (u1:u.oneCell'=true) (F:xs.length<=100000000):
  ∃k v' a,h.alloc (.cells [u])=k/\aAppend P k t t v (.slice (some ⟨h.next,0,none⟩) 1 1)=some (v',a)/\Lj R a v' (xs++[x])/\Le h k/\WF k/\
   (∀f,Le f h->Z2 f v->Le f a/\Z2 f v')/\(∀b o,h.own b=some o->blk v≠some b->a.own b=some o/\blk v'≠some b):=by
 obtain⟨us,q,m,r,z⟩:=g;have l4:Le h (h.alloc (.cells [u])):=(Le.refl h).alloc c _;have l:WF (h.alloc (.cells [u])):=c.alloc _
 have A:(h.alloc (.cells [u])).own h.next=some (.cells [u]):=AHeap.zT _ _
 obtain⟨v',a,B,G,hf⟩:=GS.push (P:=P) n (q.le l4) A r u1 NH;refine⟨_,v',a,rfl,B,⟨us++[u],?_,by simp[m],pw,fun i y w d hw=>?_⟩,l4,l,fun f C af=>hf f l (C.trans l4) af,fun b o D hb=>aG hf l (l4.own _ _ D) hb⟩
 .grind
 .have j : Z2 (rem (bl v) h) v := fun b hb => by grind [DC, Zr]
  obtain⟨l5,E⟩:=hf _ l ((Sa (bl v) h).trans l4) j;have le:Le (rem (bl v) h) (rem (bl v') a):=l5.iV fun i hi=>E i (Zr.1 hi);by_cases hi:i<us.length
  .rw [Eh hi] at hw
   rw[Eh NH]at d;exact s _ _ _ _ (z i y w d hw) le
  .have e : i = us.length := pw
   subst e;rw[vZ NH]at hw;rw[vZ NH,m]at d;simp at hw d;subst hw d;exact s _ _ _ _ p le
def RMR (l:II) (R:AHeap->Value->α->Prop):AHeap->Value->α->Prop:=fun h u x=>R (rem l h) u x
def RMR.stays (s:Nn R) (l:II):Nn (RMR l R):=fun _ _ _ _ r e=>s _ _ _ _ r e.Xm
theorem xk (l l':II) (h:AHeap):Le (rem l (rem l' h)) (rem l' (rem l h)):=
 ⟨by simp[vL],fun i o hi=>by grind [Th]⟩
def Lj.remI (s:Nn R) {l:II} (g:Lj R (rem l h) v xs):Lj (RMR l R) h v xs:=by
 obtain⟨us,a,b,c,d⟩:=g;exact⟨us,a.le (Sa _ _),b,c,fun i x u e f=>s _ _ _ _ (d i x u e f) (xk _ _ _)⟩
def Lj.remE (s:Nn R) {l:II} (g:Lj (RMR l R) h v xs) (hb:∀b,blk v=some b->b∉l):Lj R (rem l h) v xs:=by
 obtain⟨us,a,c,d,e⟩:=g;exact⟨us,a.Fi hb,c,d,fun i x u f j=>s _ _ _ _ (e i x u f j) (xk _ _ _)⟩
theorem Lj.mG (s:Nn R) {l:II} {t:TypeId} (e:apT P t t 1=true) (g:Lj R (rem l h) v xs) (d:WF h) {u:Value} {x:α} (i:R (rem l (rem (bl v) h)) u x) (u1:u.oneCell'=true) (j:xs.length<=100000000)
  (hb:∀b,blk v=some b->b∉l) (r:∀b∈l,h.own b≠none):
  ∃a v' c,h.alloc (.cells [u])=a/\aAppend P a t t v (.slice (some ⟨h.next,0,none⟩) 1 1)=some (v',c)/\Lj R (rem l c) v' (xs++[x])/\Le h a/\WF a/\
   (∀f,Le f h->Z2 f v->Le f c/\Z2 f v')/\(∀b o,h.own b=some o->blk v≠some b->c.own b=some o/\blk v'≠some b):=by
 obtain⟨a,v',c,e4,k,m,l4,n,p,q⟩:=Lj.push (RMR.stays s l) e (g.remI s) d (u:=u) (x:=x) i u1 j;refine⟨a,v',c,e4,k,m.remE s fun b sZ w=>?_,l4,n,p,q⟩;cases y:h.own b<;>grind
end
end Go.Fw
