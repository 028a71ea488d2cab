/- A text. -/
import Derived.OrdersIn
import Derived.Orders
import Derived.Test.YtkccdnmaaelbiaaGreatFwRules
set_option linter.all false
set_option maxRecDepth 99999
set_option maxHeartbeats 9999999
namespace Go.Fw
section
variable {P : Program} {W0 : LA} {N : Nat} {ops : Array Oper} {fr : lC} {h : AHeap}
theorem aM {fr fr':lC} {x:Operand} (a:∀t,x=.tmp t->fr'.get t=fr.get t):evalO fr' x=evalO fr x:=by
 cases x with
 |tmp t=>exact a t rfl
 |_=>rfl
theorem YK {fr fr':lC}:∀{l:List Operand},(∀t,Operand.tmp t∈l->fr'.get t=fr.get t)->evalL fr' l=evalL fr l
 |[],_=>rfl
 |x::r,a=>by
  simp only[evalL];rw[aM (fun t e=>a t (by simp[e])),YK (fun t e=>a t (by simp[e]))]
theorem MU {fr fr':lC}:∀{l:List (Nat×Operand)},(∀t,Operand.tmp t∈l.map (·.2)->fr'.get t=fr.get t)->evalP fr' l=evalP fr l
 |[],_=>rfl
 |(i,x)::r,a=>by
  simp only[evalP];rw[aM (fun t e=>a t (by simp[e])),MU (fun t e=>a t pw)]
theorem tt {fr fr':lC} {x:Option Operand} (a:∀t,x=some (.tmp t)->fr'.get t=fr.get t):evalM fr' x=evalM fr x:=by
 cases x<;>grind [evalM,aM]
theorem qP {o:Oper} {t:Tmp} (h:Operand.tmp t∈o.op.operands.toList):t∈o.looksAt ops:=by
 unfold Oper.looksAt
 grind
theorem yE {fr fr':lC} {o:Oper} (g:∀t,t∈o.looksAt ops->fr'.get t=fr.get t):stepOp P fr' h o=stepOp P fr h o:=by
 have d:∀t,Operand.tmp t∈o.op.operands.toList->fr'.get t=fr.get t:=fun t j=>g t (qP j);unfold stepOp;cases m:o.op<;>rw[m]at d<;>simp only[Op.operands]at d
 case call c=>
  cases c with
  |mk callee args ats=>
   cases callee with
   |builtin b=>
    simp only[Call.operands]at d
    grind [YK]
   |_=>rfl
 case pick c a b=>
  grind [aM]
 case build t ps=>grind [MU]
 case buildSlice t n ps=>grind [MU]
 case makeFunc f a b=>grind [YK]
 case slice t x l hh mm=>
  simp only[];rw[aM (x:=x) (fun t e=>d t (by simp[e])),tt (x:=l) (fun t e=>d t (by simp[e])),tt (x:=hh) (fun t e=>d t (by simp[e])),tt (x:=mm) (fun t e=>d t (by simp[e]))]
 case lookup t x i ok=>
  grind [aM]
 case mapUpdate t x k y=>
  grind [aM]
 all_goals first
  |rfl
  |(rename_i x;simp only[];rw[aM (x:=x) (fun t e=>d t (by simp[e]))];done)
  |(rename_i _ x;simp only[];rw[aM (x:=x) (fun t e=>d t (by simp[e]))];done)
  |(rename_i x _;simp only[];rw[aM (x:=x) (fun t e=>d t (by simp[e]))];done)
  |(rename_i _ x _;simp only[];rw[aM (x:=x) (fun t e=>d t (by simp[e]))];done)
  |(rename_i _ _ x;simp only[];rw[aM (x:=x) (fun t e=>d t (by simp[e]))];done)
  |(rename_i _ x y;simp only[];rw[aM (x:=x) (fun t e=>d t (by simp[e])),aM (x:=y) (fun t e=>d t (by simp[e]))];done)
  |grind [aM]
theorem Us {fr fr':lC} {o:Oper} (a:∀t,t∈o.looksAt ops->fr'.get t=fr.get t):wantA ops fr' o=wantA ops fr o:=by
 unfold wantA;cases hg:o.guard with
 |none=>rfl
 |some p=>
  obtain⟨j,w⟩:=p;simp only[];cases hd:(ops[j]?).bind (·.dst)with
  |none=>rfl
  |some d=>
   simp only[];rw[a d (by unfold Oper.looksAt;grind)]
theorem Wf {fr fr':lC} {o:Oper} (b:∀t,t∈o.looksAt ops->fr'.get t=fr.get t):calleeOf fr' o=calleeOf fr o:=by
 have a:∀t,Operand.tmp t∈o.op.operands.toList->fr'.get t=fr.get t:=by grind [qP]
 unfold calleeOf
 cases d:o.op<;>try rfl
 rename_i c;cases c with
 |mk callee args ats=>
  cases callee with
  |value f=>
   simp only[Op.operands,Call.operands]at a
   grind [aM,YK]
  |_=>rfl
inductive DT where
 |done
 |no
 |fl (i:Nat) (t:DT)
 |ch (i:Nat) (pre:II) (t other:DT)
def ze (o:Oper):II:=(o.after.toList.filter fun e=>Region.binds .any e).map (·.on)
def predsAt (ops:Array Oper) (i:Nat):II:=match ops[i]? with|some o=>ze o|none=>[]
def Y1 (ops:Array Oper) (i:Nat):Option Tmp:=match ops[i]? with|some o=>o.dst|none=>none
def Vz (ops:Array Oper) (i:Nat):List Tmp:=match ops[i]? with|some o=>o.looksAt ops|none=>[]
def isFloat (o:Oper):Bool:=
 match o.op with
 |.move _|.assign _|.pick ..|.load ..|.nilCheck _|.binOp ..|.unOp ..|.makeInterface ..|.makeFunc ..|.slice ..|.fieldAddr ..|.field ..|.indexAddr ..|.index ..|.extract ..|.build ..=>true
 |.convert _ _ _=>true
 |.call {callee:=.builtin .len,..}|.call {callee:=.builtin .min,..}|.call {callee:=.builtin .max,..}=>true
 |_=>false
def noWar (ops:Array Oper) (i:Nat):Bool:=
 match Y1 ops i with
 |some d=>(List.range ops.size).all fun j=>!(Vz ops j).contains d||(j !=i&&(predsAt ops j).contains i)
 |none=>true
def lV (ops:Array Oper) (i:Nat):Bool:=
 match ops[i]? with
 |some o=>isFloat o&&noWar ops i
 |none=>false
def xx (ops:Array Oper) (rest:II):II:=rest.filter fun x=>(predsAt ops x).all fun p=>!rest.contains p
def isTop:DT->Bool
 |.no=>false
 |_=>true
def isAlt:DT->Bool
 |.no=>true
 |.ch ..=>true
 |_=>false
def treeOK (ops:Array Oper):II->II->DT->Bool
  |rest,_,.done=>rest.isEmpty
  |_,cs,.no=>cs.isEmpty
  |rest,_,.fl i t=>rest.contains i&&lV ops i&&(predsAt ops i).all (fun p=>!rest.contains p)&&isTop t&&treeOK ops (rest.filter fun x=>x !=i) (xx ops (rest.filter fun x=>x !=i)) t
  |rest,cs,.ch i pre t other=>rest.contains i&&(predsAt ops i).all (fun p=>!rest.contains p)&&pre.all (fun q=>(predsAt ops i).contains q)&&
      isTop t&&treeOK ops (rest.filter fun x=>x !=i) (xx ops (rest.filter fun x=>x !=i)) t&&isAlt other&&treeOK ops rest (cs.filter fun x=>x !=i) other
def ui (ops:Array Oper) (rest:II) (t:DT):Bool:=isTop t&&treeOK ops rest (xx ops rest) t
def gN (ops:Array Oper) (t:DT):Bool:=
 (List.range ops.size).all (fun i=>(predsAt ops i).all fun p=>Nat.blt p i)&&
 (List.range ops.size).all (fun i=>(List.range ops.size).all fun j=>i==j||
  match Y1 ops j with
  |some d=>(!(Vz ops i).contains d||(predsAt ops i).contains j||(predsAt ops j).contains i)&&Y1 ops i !=some d
  |none=>true)&&
 ui ops (List.range ops.size) t
def Holds (P:Program) (ops:Array Oper) (fr:lC) (h:AHeap) (p:Nat):Prop:=
  match ops[p]? with
  |some o=>match wantA ops fr o with
    |some true=>∃v,stepOp P fr h o=some (v,h)/\∀d,o.dst=some d->fr.get d=some v
    |some false=>∀d,o.dst=some d->fr.get d=some Yx
    |none=>False
  |none=>False
def HoldsAll (P:Program) (ops:Array Oper) (fr:lC) (h:AHeap):II->Prop
 |[]=>True
 |p::r=>Holds P ops fr h p/\HoldsAll P ops fr h r
def DW (P:Program) (W0:LA) (N:Nat) (ops:Array Oper) (Q:lC->AHeap->Prop):DT->II->lC->AHeap->Prop
  |.done,_,fr,h=>Q fr h
  |.no,_,_,_=>True
  |.fl i t,aad,fr,h=>
    match ops[i]? with
    |none=>False
    |some o=>
      match wantA ops fr o with
      |none=>False
      |some false=>match putDst N fr o.dst Yx with
        |none=>False
        |some fr'=>DW P W0 N ops Q t (i::aad) fr' h
      |some true=>match stepOp P fr h o with
          |none=>False
          |some (v,h')=>h'=h/\match putDst N fr o.dst v with
            |none=>False
            |some fr'=>DW P W0 N ops Q t (i::aad) fr' h
  |.ch i pre t other,aad,fr,h=>
    (match ops[i]? with
    |none=>False
    |some o=>
      match wantA ops fr o with
      |none=>False
      |some false=>match putDst N fr o.dst Yx with
        |none=>False
        |some fr'=>DW P W0 N ops Q t (aad.filter fun p=>!pre.contains p) fr' h
      |some true=>
          match Zm o with
          |true=>∃g args fn c,calleeOf fr o=some (g,args)/\Good P g fn c/\AC P W0 g args h fun v h'=>∃fr',putDst N fr o.dst v=some fr'/\
              HoldsAll P ops fr' h' (aad.filter fun p=>!pre.contains p)/\DW P W0 N ops Q t (aad.filter fun p=>!pre.contains p) fr' h'
          |false=>match stepOp P fr h o with
            |none=>False
            |some (v,h')=>match putDst N fr o.dst v with
              |none=>False
              |some fr'=>HoldsAll P ops fr' h' (aad.filter fun p=>!pre.contains p)/\DW P W0 N ops Q t (aad.filter fun p=>!pre.contains p) fr' h')/\
    DW P W0 N ops Q other aad fr h
theorem HoldsAll.mem {fr:lC} {h:AHeap}:∀{l:II},HoldsAll P ops fr h l->∀p∈l,Holds P ops fr h p
 |[],_,p,a=>by simp at a
 |q::r,hh,p,a=>by
  rcases WA.1 a with rfl|a
  .exact hh.1
  .exact HoldsAll.mem hh.2 p a
def delAll (fr:lC):List Tmp->lC
 |[]=>fr
 |d::r=>(delAll fr r).del d
theorem W6 (fr:lC) (k:Nat):∀(l:List Tmp),(delAll fr l).get k=if k∈l then none else fr.get k
 |[]=>by simp[delAll]
 |d::r=>by
  simp only[delAll,Trie.Ik,W6 fr k r,WA]
  grind
def KA (listed:Array Bool) (i:Nat):Bool:=!listed.getD i true
theorem J3 {a:Array Bool} {i j:Nat} (hi:KA a i=true):KA (a.setIfInBounds i true) j=(KA a j&&j !=i):=by
 unfold KA;simp only[WZ,adK]
 grind
def OT (n:Nat) (a:Array Bool):Nat:=(List.range n).countP (KA a)
theorem Hk {p q:Nat->Bool} {i:Nat}:∀{l:II},l.Nodup->i∈l->p i=true->q i=false->(∀j,j≠i->q j=p j)->l.countP q+1=l.countP p
 |[],_,h,_,_,_=>by simp at h
 |x::r,a,h,b,c,d=>by
  rw[ZT]at a;by_cases e:x=i
  .grind [List.countP_congr]
  .have hi : i ∈ r := pw
   have:=Hk a.2 hi b c d
   grind
theorem u7 {n i:Nat} {a:Array Bool} (hi:i<n) (b:KA a i=true):OT n (a.setIfInBounds i true)+1=OT n a:=by
 refine Hk Tn (uV.2 hi) b ?_ ?_
 all_goals grind [J3]
theorem sk {n:Nat} {a:Array Bool} (h:OT n a=0) (i:Nat) (hi:i<n):KA a i=false:=by grind [OT,List.countP_eq_zero]
theorem QX {i:Nat} {o:Oper} (h:ops[i]?=some o):predsAt ops i=ze o:=by grind [predsAt]
theorem Rs {i:Nat} {o:Oper} (h:ops[i]?=some o):Y1 ops i=o.dst:=by grind [Y1]
theorem YZ {i:Nat} {o:Oper} (h:ops[i]?=some o):Vz ops i=o.looksAt ops:=by grind [Vz]
structure CK (ops:Array Oper):Prop where
 preds:∀i p,i<ops.size->p∈predsAt ops i->p<i
 pair:∀i j d,i<ops.size->j<ops.size->i≠j->Y1 ops j=some d->(d∈Vz ops i->j∈predsAt ops i\/i∈predsAt ops j)/\Y1 ops i≠some d
theorem CK.of {t:DT} (h:gN ops t=true):CK ops/\ui ops (List.range ops.size) t=true:=by
 simp only[gN,Yi,LH,uV,beq_iff_eq,uu,TV,Nat.blt_eq]at h;obtain⟨⟨c,e⟩,a⟩:=h;refine⟨⟨pw,fun i j d hi f b hd=>?_⟩,a⟩
 grind
theorem PF {rest:II} {x:Nat}:x∈xx ops rest↔x∈rest/\∀p∈predsAt ops x,p∉rest:=by grind [xx]
structure Inv (P:Program) (N:Nat) (ops:Array Oper) (rest aad:II) (fr:lC) (h:AHeap) (listed:Array Bool):Prop where
 every:∀i,i<ops.size->KA listed i=true->i∈aad\/i∈rest
 Cf:∀i∈rest,KA listed i=true/\i<ops.size
 OF:∀p∈aad,p<ops.size/\p∉rest/\(∀q∈predsAt ops p,q∉rest)/\(∀d,Y1 ops p=some d->d<N)/\noWar ops p=true
 holds:∀p∈aad,KA listed p=true->Holds P ops fr h p
def BG (ops:Array Oper) (aad:II) (a:Array Bool):List Tmp:=(aad.filter (KA a)).filterMap (Y1 ops)
theorem WN {aad:II} {a:Array Bool} {t:Tmp}:t∈BG ops aad a↔∃p∈aad,KA a p=true/\Y1 ops p=some t:=by grind [BG]
theorem BV {fr fr':lC} {d:Option Tmp} {v:Value} (h:putDst N fr d v=some fr'):(∀k,d≠some k->fr'.get k=fr.get k)/\∀k,d=some k->fr'.get k=some v/\k<N:=by
 cases d<;>grind [putDst,Trie.bR,Trie.Xw]
theorem Holds.congr {fr fr':lC} {h:AHeap} {p:Nat} (hh:Holds P ops fr h p) (a:∀t∈Vz ops p,fr'.get t=fr.get t) (hd:∀d,Y1 ops p=some d->fr'.get d=fr.get d):Holds P ops fr' h p:=by
 unfold Holds at*;cases c:ops[p]? with
 |none=>grind
 |some o=>
  rw[c]at hh;simp only[]at hh ⊢;rw[YZ c]at a;rw[Rs c]at hd;rw[Us a];cases hw:wantA ops fr o with
  |none=>grind
  |some b=>
   rw[hw]at hh;cases b with
   |false=>grind
   |true=>obtain⟨v,e,h2⟩:=hh;exact⟨v,by rw[yE a];exact e,pw⟩
theorem Inv.yW {rest aad:II} {fr fr':lC} {h:AHeap} {g:Array Bool} {i:Nat} {o:Oper} {v:Value} (ok:CK ops)
  (l:Inv P N ops rest aad fr h g) (m:i∈rest) (n:∀p∈predsAt ops i,p∉rest) (A:ops[i]?=some o) (u:noWar ops i=true) (w:putDst N fr o.dst v=some fr') (y:Holds P ops fr' h i):
  Inv P N ops (rest.filter fun x=>x !=i) (i::aad) fr' h g:=by
 obtain⟨k,z⟩:=BV w;have hi:=l.Cf i m;have r:∀x,x∈rest.filter (fun x=>x !=i)↔x∈rest/\x≠i:=fun x=>by simp
 refine⟨fun j B s=>?_,(by grind [Inv.Cf]),fun p f=>?_,fun p f s=>?_⟩
 .grind [Inv.every]
 .rcases WA.1 f with rfl | f
  .grind [Rs]
  .obtain ⟨a, b, c, d⟩ := l.OF p f
   grind
 .rcases WA.1 f with rfl | f
  .exact y
  .obtain ⟨a, b, c, _⟩ := l.OF p f
   have q:p≠i:=pw;refine(l.holds p f s).congr (fun t C=>k t fun e=>?_) (fun d hd=>k d fun e=>?_)
   .grind [noWar,Rs]
   .exact(ok.pair i p d hi.2 a (fj q) hd).2 (by grind [Rs])
theorem SI {a:Array Bool} {q:Nat} (hs:q<a.size) (h:KA a q=false):a.getD q false=true:=by grind [KA]
theorem zG {a:Array Bool} {i:Nat} (h:i∈Region.ready .any ops a):KA a i=true/\i<ops.size/\∃o,ops[i]?=some o/\∀q∈ze o,KA a q=false:=by grind [Go.mem_ready,KA,ze]
theorem QS {a:Array Bool} (ok:CK ops) (hs:a.size=ops.size) (h:Region.ready .any ops a=[]):∀i,i<ops.size->KA a i=false:=by
 intro i
 induction i using Nat.strongRecOn with
 |_ i b=>
  intro hi;cases c:KA a i with
  |false=>rfl
  |true=>
   have:i∈Region.ready .any ops a:=by
    refine mem_ready.2 ⟨by grind [KA],ops[i],y5 hi,fun e d hb=>?_⟩;have f:e.on∈predsAt ops i:=by
     rw[QX (y5 hi)]
     grind [ze]
    grind [CK.preds,SI]
   grind
theorem PV {m:rC} {n:Nat} {o:Oper} {fr c:lC} {tmps:Array Value} {b:Bool} (F:FR n m c tmps) (d:∀t∈o.looksAt ops,c.get t=fr.get t) (hw:wantA ops fr o=some b):
  Region.wanted o (yielded ops tmps)=b:=
 tz (a:=⟨tmps,[]⟩) F (by grind [Us])
theorem Bz {p j:Nat} {d:Tmp} (h:noWar ops p=true) (hd:Y1 ops p=some d) (a:j<ops.size) (b:d∈Vz ops j):j≠p/\p∈predsAt ops j:=by grind [noWar]
theorem St.fill {f:Cx} {m e:rC} {b c:lC} {h h':AHeap} {a:Act} {w w':World} (s:St W0 f N m b h a w) (R':Rel (W0.add f.ex) e h' w') (g:ZK h.next m e) (j:h.next<=h'.next) {d:Option Tmp} {v v':Value} (l:VR h'.next e v v')
  (hf:∀k u,c.get k=some u->(d=some k/\u=v/\k<N)\/(d≠some k/\b.get k=some u)):St W0 f N e c h' (a.put d v') w':=by
 have F:=s.frame.mono j g;refine⟨R',fun k u n=>?_,?_,?_,?_⟩
 .rcases hf k u n with ⟨rfl, rfl, o⟩ | ⟨hd, hg⟩
  .exact⟨v',by simp[Act.put,s.size,o],l⟩
  .obtain ⟨u', i, h2⟩ := F k u hg
   refine⟨u',?_,h2⟩;cases d with
   |none=>exact i
   |some d=>
    have:d≠k:=pw;simp[Act.put,this,i]
 .cases d<;>exact s.defers
 .cases d<;>simp[Act.put,s.size]
 .exact s.round
theorem call_wp {k:Cx} {nn:Nat} {m:rC} {fr:lC} {h:AHeap} {a:Act} {w:World} (s:St W0 k N m fr h a w) {o:Oper} {g:FuncId} {args:List Value} {fn:Func} {c:Code} (d:calleeOf fr o=some (g,args)) (hg:Good P g fn c)
  {R:Value->AHeap->Prop} (u:AC P W0 g args h R) {r:Act->World->Prop} {K:Exit->Act->World->Prop}
  (D:∀v v' l h' w',ZK h.next m l->h.next<=h'.next->Rel (W0.add k.ex) l h' w'->VR h'.next l v v'->R v h'->r (a.put o.dst v') w'):o.wpIn (Xc k.ro) nn P a w r K:=by
 unfold calleeOf at d;split at d
 .rename_i f as ats n
  split at d
  .rename_i t first cap vs hf p
   injection d with d;simp only[qy]at d;obtain⟨rfl,rfl⟩:=d;have i:=Ns s.frame hf;have y:=PZ s.frame p;refine ph pw ?_
   have key:∃b cap',a.eval f=.func (.func t) b cap'/\AK h.next m first.toList b.toList/\AK h.next m cap.toList cap'.toList:=by
    generalize a.eval f=x at i;cases i with
    |flat hf=>grind [flat]
    |func E h2 h3 F=>
     exact⟨_,_,rfl,⟨pw,pw⟩,⟨pw,pw⟩⟩
   obtain⟨b,cap',q,z,A⟩:=key
   have j:(execOp a.eval o).run P w=.ok (.enter t ((b.toList++as.toList.map a.eval++cap'.toList).toArray)) w:=by
    have B:(b++as.map a.eval++cap')=(b.toList++as.toList.map a.eval++cap'.toList).toArray:=by simp
    simp only[execOp,n,resolve,q,Deferred.ofValue,Sem.run_bind,Sem.run_pure,Result.andThen_ok,invoke,callFunc,run_program,hg.func,hg.name,xH,if_false,hg.body,dr,B]
   rw[j]
   have e:=u k.ex m w (b.toList++as.toList.map a.eval++cap'.toList) s.rel (by grind [AK.append])
   refine⟨(fun C=>by cases C),qN (e.mono ?_)⟩
   grind
  .cases d
 .cases d
theorem YF {g:Cx} {nn:Nat} {Q:lC->AHeap->Prop} {K:Exit->Act->World->Prop} {fuel:Nat}
  (U:∀(t:DT) (rest aad:II) (fr:lC) (h:AHeap) (b:Array Bool) (m:rC) (a:Act) (w:World),
   OT ops.size b=fuel->b.size=ops.size->Inv P N ops rest aad fr h b->ui ops rest t=true->DW P W0 N ops Q t aad fr h->St W0 g N m (delAll fr (BG ops aad b)) h a w->
   (∀l fr' h' a' w',ZK h.next m l->h.next<=h'.next->St W0 g N l fr' h' a' w'->Q fr' h'->K .normal a' w')->wpAnyIn (Xc g.ro) nn P .any ops K fuel b a w)
  {t:DT} {rest aad:II} {fr:lC} {h:AHeap} {b:Array Bool} {m:rC} {a:Act} {w:World}
  (hc:OT ops.size b=fuel+1) (hs:b.size=ops.size) (r:Inv P N ops rest aad fr h b) (x:ui ops rest t=true) (V:DW P W0 N ops Q t aad fr h) (s:St W0 g N m (delAll fr (BG ops aad b)) h a w)
  (W:∀l fr' h' a' w',ZK h.next m l->h.next<=h'.next->St W0 g N l fr' h' a' w'->Q fr' h'->K .normal a' w')
  {j:Nat} (X:j∈Region.ready .any ops b) (y:j∈aad):wpOpIn (Xc g.ro) nn P ops K j (wpAnyIn (Xc g.ro) nn P .any ops K fuel (b.setIfInBounds j true)) a w:=by
 obtain⟨Y,B,o,L,M⟩:=zG X;have C:OT ops.size (b.setIfInBounds j true)=fuel:=by grind [u7]
 have hs':(b.setIfInBounds j true).size=ops.size:=pw;have Z:j∉rest:=(r.OF j y).2.1;have D:Inv P N ops rest aad fr h (b.setIfInBounds j true):=by
  refine⟨fun i hi ae=>?_,fun i hi=>⟨?_,(r.Cf i hi).2⟩,r.OF,fun p O E=>?_⟩
  .grind [J3,Inv.every]
  .grind [J3,Inv.Cf]
  grind [J3,Inv.holds]
 have c:∀t∈o.looksAt ops,(delAll fr (BG ops aad b)).get t=fr.get t:=by
  intro t ht;rw[W6,if_neg];intro hh;obtain⟨p,O,E,F⟩:=WN.1 hh;obtain⟨_,_,_,_,G⟩:=r.OF p O;obtain⟨ag,R⟩:=Bz G F B (by grind [YZ])
  grind [QX]
 have f:∀v,(∀d,o.dst=some d->fr.get d=some v)->∀k u,(delAll fr (BG ops aad (b.setIfInBounds j true))).get k=some u->
   (o.dst=some k/\u=v/\k<N)\/(o.dst≠some k/\(delAll fr (BG ops aad b)).get k=some u):=by
  intro v S k u n;rw[W6]at n;split at n
  .cases n
  .by_cases hd : o.dst = some k
   .grind [Inv.OF,Rs]
   grind [W6,WN,J3,Rs]
 have q:=r.holds j y Y;unfold Holds at q;rw[L]at q;simp only[]at q;unfold wpOpIn;rw[L];simp only[];split at q
 .rename_i hw
  obtain⟨v,z,H⟩:=q;rw[if_pos (PV s.frame c hw)];obtain⟨l,v',w',e,R',A,I,S⟩:=stepOp_does (P:=P) (a:=a) s.rel s.frame (by rw[yE c];exact z);have T:=s.fill R' A I S (f v H);have:=U t rest aad fr h _ l (a.put o.dst v') w' C hs' D x V T fun m2 J h2 a2 w2 e1 e2 e3 e4=>W m2 J h2 a2 w2 (A.trans e1 I) (jz I e2) e3 e4;refine ph (Nw z) ?_;rcases e with e|⟨e,rfl⟩<;>rw[e]<;>exact this
 .rename_i hw
  rw[if_neg (by rw[PV s.frame c hw];simp)];have T:=s.fill s.rel (.refl _ _) (qL0 _) (v:=Yx) (v':=undef) (.tuple rfl pw) (f Yx q);refine⟨fun _ _=>trivial,?_⟩
  grind
 grind
theorem draw_do {D:Cx} {nn:Nat} (ok:CK ops) {Q:lC->AHeap->Prop} {K:Exit->Act->World->Prop} {fuel:Nat}
  (ih:∀(t:DT) (rest aad:II) (fr:lC) (h:AHeap) (b:Array Bool) (m:rC) (a:Act) (w:World),
   OT ops.size b=fuel->b.size=ops.size->Inv P N ops rest aad fr h b->ui ops rest t=true->DW P W0 N ops Q t aad fr h->St W0 D N m (delAll fr (BG ops aad b)) h a w->
   (∀C fr' h' a' w',ZK h.next m C->h.next<=h'.next->St W0 D N C fr' h' a' w'->Q fr' h'->K .normal a' w')->wpAnyIn (Xc D.ro) nn P .any ops K fuel b a w)
  {t other:DT} {j:Nat} {pre:II} {rest aad:II} {fr:lC} {h:AHeap} {b:Array Bool} {m:rC} {a:Act} {w:World}
  (hc:OT ops.size b=fuel+1) (hs:b.size=ops.size) (H:Inv P N ops rest aad fr h b) (al:j∈rest) (S:∀q∈pre,q∈predsAt ops j)
  (z:ui ops (rest.filter fun x=>x !=j) t=true) (i:DW P W0 N ops Q (.ch j pre t other) aad fr h) (s:St W0 D N m (delAll fr (BG ops aad b)) h a w)
  (hK:∀C fr' h' a' w',ZK h.next m C->h.next<=h'.next->St W0 D N C fr' h' a' w'->Q fr' h'->K .normal a' w')
  (hj:j∈Region.ready .any ops b):wpOpIn (Xc D.ro) nn P ops K j (wpAnyIn (Xc D.ro) nn P .any ops K fuel (b.setIfInBounds j true)) a w:=by
 obtain⟨hu,T,o,ho,ag⟩:=zG hj;have aj:∀x,x∈rest.filter (fun x=>x !=j)↔x∈rest/\x≠j:=fun x=>by simp
 have I:OT ops.size (b.setIfInBounds j true)=fuel:=by grind [u7]
 have hs':(b.setIfInBounds j true).size=ops.size:=pw;have aq:∀p∈aad,p≠j:=by grind [Inv.OF]
 have U:∀p∈aad,KA b p=true->p∈aad.filter fun p=>!pre.contains p:=by grind [QX]
 have f:∀t∈o.looksAt ops,(delAll fr (BG ops aad b)).get t=fr.get t:=by
  intro t ht;rw[W6,if_neg];intro hh;obtain⟨p,n,A,ar⟩:=WN.1 hh;obtain⟨_,_,_,_,av⟩:=H.OF p n
  grind [Bz,YZ,QX]
 have hinv:∀fr' h',(∀p∈aad.filter (fun p=>!pre.contains p),KA (b.setIfInBounds j true) p=true->Holds P ops fr' h' p)->Inv P N ops (rest.filter fun x=>x !=j) (aad.filter fun p=>!pre.contains p) fr' h' (b.setIfInBounds j true):=by
  intro fr' h' r;refine⟨fun i' V ay=>?_,fun i' V=>⟨?_,(H.Cf i' pw).2⟩,fun p n=>?_,r⟩
  .grind [J3,Inv.every]
  .grind [J3,Inv.Cf]
  .obtain ⟨a1, a2, a3, a4, a5⟩ := H.OF p (VU.1 n).1
   grind
 have l:∀{v:Value} {fr':lC},putDst N fr o.dst v=some fr'->∀k u,(delAll fr' (BG ops (aad.filter fun p=>!pre.contains p) (b.setIfInBounds j true))).get k=some u->
   (o.dst=some k/\u=v/\k<N)\/(o.dst≠some k/\(delAll fr (BG ops aad b)).get k=some u):=by
  intro v fr' n k u E;obtain⟨F,W⟩:=BV n;rw[W6]at E;split at E
  .cases E
  grind [W6,WN,J3]
 simp only[DW,ho]at i;replace i:=i.1;unfold wpOpIn;rw[ho];simp only[];split at i
 .exact i.elim
 .rename_i hw
  rw[if_neg (by rw[PV s.frame f hw];simp)];split at i
  .exact i.elim
  .rename_i fr' n
   obtain⟨F,W⟩:=BV n;have R:=s.fill s.rel (.refl _ _) (qL0 _) (v:=Yx) (v':=undef) (.tuple rfl pw) (l n);refine⟨fun _ _=>trivial,ih t _ _ fr' h _ m _ w I hs' (hinv fr' h fun p X A=>?_) z i R hK⟩;rw[J3 hu]at A;simp at A;have J:=(VU.1 X).1;obtain⟨a1,a2,a3,_⟩:=H.OF p J;refine(H.holds p J A.1).congr (fun t ht=>F t fun e=>?_) (fun d hd=>F d fun e=>?_)
   .grind [CK.pair,Rs,QX]
   .exact(ok.pair j p d T a1 (fj A.2) hd).2 (by grind [Rs])
 .rename_i hw
  rw[if_pos (PV s.frame f hw)];split at i
  .obtain ⟨g, args, fn, c, Y, G, Z⟩ := i
   refine call_wp s (by rw[Wf f];exact Y) G Z ?_;rintro v v' C h' w' B L R' hv ⟨fr',n,r,M⟩;have R:=s.fill R' B L hv (l n)
   grind [HoldsAll.mem,ZK.trans]
  .split at i
   .exact i.elim
   .rename_i v h' O
    split at i
    .exact i.elim
    .rename_i fr' n
     obtain⟨r,M⟩:=i;obtain⟨C,v',w',y,R',B,L,hv⟩:=stepOp_does (P:=P) (a:=a) s.rel s.frame (by rw[yE f];exact O);have R:=s.fill R' B L hv (l n);have:=ih t _ _ fr' h' _ C (a.put o.dst v') w' I hs' (hinv fr' h' fun p n _=>r.mem p n) z M R fun m2 ae h2 a2 w2 e1 e2 e3 e4=>hK m2 ae h2 a2 w2 (B.trans e1 L) (jz L e2) e3 e4;refine ph (Nw O) ?_;rcases y with y|⟨y,rfl⟩<;>rw[y]<;>exact this
theorem iR {Q:lC->AHeap->Prop} {rest aad:II} {fr:lC} {h:AHeap} {j:Nat}:∀{t:DT} {cs:II},j∈cs->treeOK ops rest cs t=true->DW P W0 N ops Q t aad fr h->isAlt t=true->
  ∃pre a other,(∀q∈pre,q∈predsAt ops j)/\ui ops (rest.filter fun x=>x !=j) a=true/\DW P W0 N ops Q (.ch j pre a other) aad fr h:=by
 intro t
 induction t with
 |done=>intro cs _ _ _ ha;cases ha
 |fl i t _=>intro cs _ _ _ ha;cases ha
 |no=>grind [treeOK]
 |ch i pre t other _ b=>
  grind [treeOK,ui,DW]
theorem gG {G:Cx} {nn:Nat} (ok:CK ops) {Q:lC->AHeap->Prop} {K:Exit->Act->World->Prop}:∀(fuel:Nat) (t:DT) (rest aad:II) (fr:lC) (h:AHeap) (b:Array Bool) (m:rC) (a:Act) (w:World),
  OT ops.size b=fuel->b.size=ops.size->Inv P N ops rest aad fr h b->ui ops rest t=true->DW P W0 N ops Q t aad fr h->St W0 G N m (delAll fr (BG ops aad b)) h a w->
  (∀U fr' h' a' w',ZK h.next m U->h.next<=h'.next->St W0 G N U fr' h' a' w'->Q fr' h'->K .normal a' w')->
  wpAnyIn (Xc G.ro) nn P .any ops K fuel b a w:=by
 intro fuel
 induction fuel with
 |zero=>
  intro t
  induction t with
  |no=>grind [ui,isTop]
  |done=>
   intro rest aad fr h b m a w l hs g d c s q;have n:=sk l;have hh:BG ops aad b=[]:=by
    apply Lm.2;intro t d;obtain⟨p,r,B,_⟩:=WN.1 d;rw[n p (g.OF p r).1]at B;cases B
   rw[hh]at s;refine⟨?_,q m fr h a w (.refl _ _) (qL0 _) s c⟩;apply Lm.2;intro i hi;obtain⟨V,h2,_⟩:=zG hi
   grind
  |fl i t _=>
   intro rest aad fr h b m a w l hs g d c s q;have n:=sk l;simp only[ui,treeOK,Yi,TV,decide_eq_true_eq]at d;have:=g.Cf i d.2.1.1.1.1
   grind
  |ch i pre t other _ _=>
   intro rest aad fr h b m a w l hs g d c s q;have n:=sk l;simp only[ui,treeOK,Yi,TV,decide_eq_true_eq]at d;have:=g.Cf i d.2.1.1.1.1.1.1
   grind
 |succ fuel I=>
  intro t
  induction t with
  |no=>grind [ui,isTop]
  |done=>
   intro rest aad fr h b m a w l hs g d c s q;have J:rest=[]:=by grind [ui,treeOK]
   refine⟨fun Z=>?_,fun j C=>?_⟩
   .grind [QS,OT,List.countP_eq_zero]
   .obtain ⟨B, y, _⟩ := zG C
    rcases g.every j y B with z|D
    .exact YF I l hs g d c s q C z
    grind
  |fl i t ae=>
   intro rest aad fr h b m a w l hs g d c s q;simp only[ui,treeOK,Yi,TV,decide_eq_true_eq]at d;obtain⟨_,⟨⟨⟨L,ag⟩,aj⟩,W⟩,e⟩:=d;have M:ui ops (rest.filter fun x=>x !=i) t=true:=by grind [ui]
   have O:∀p∈predsAt ops i,p∉rest:=fun p r=>by grind
   have hi:=g.Cf i L;have R:ops[i]?=some ops[i]:=y5 hi.2;generalize ops[i]'hi.2=o at R
   have al:noWar ops i=true:=by grind [lV]
   have S:∀{fr':lC} {v:Value},putDst N fr o.dst v=some fr'->St W0 G N m (delAll fr' (BG ops (i::aad) b)) h a w:=by
    intro fr' v r;obtain⟨E,F⟩:=BV r;refine⟨s.rel,fun k u hk=>s.frame k u ?_,s.defers,s.size,s.round⟩
    grind [W6,WN,Rs]
   simp only[DW,R]at c;split at c
   .exact c.elim
   .rename_i hw
    split at c
    .exact c.elim
    .rename_i fr' r
     obtain⟨E,F⟩:=BV r;have f:∀t∈o.looksAt ops,fr'.get t=fr.get t:=by grind [Bz,Rs,YZ]
     have hH:Holds P ops fr' h i:=by grind [Holds,Us]
     grind [Inv.yW]
   .rename_i hw
    split at c
    .exact c.elim
    .rename_i v h' T
     obtain⟨rfl,c⟩:=c;split at c
     .exact c.elim
     .rename_i fr' r
      obtain⟨E,F⟩:=BV r;have f:∀t∈o.looksAt ops,fr'.get t=fr.get t:=by grind [Bz,Rs,YZ]
      have hH:Holds P ops fr' h' i:=by
       unfold Holds;rw[R];simp only[];rw[Us f,hw];exact⟨v,by rw[yE f];exact T,pw⟩
      grind [Inv.yW]
  |ch i pre t other _ _=>
   intro rest aad fr h b m a w l hs g d c s q;refine⟨fun Z=>?_,fun j C=>?_⟩
   .grind [QS,OT,List.countP_eq_zero]
   .obtain ⟨B, y, oj, aq, X⟩ := zG C
    rcases g.every j y B with z|D
    .exact YF I l hs g d c s q C z
    .have A : j ∈ xx ops rest := by grind [PF, QX, Inv.Cf]
     have e:=d;simp only[ui,Yi]at e;obtain⟨Y,t',H,V,h2,h3⟩:=iR A e.2 c rfl;exact draw_do ok I l hs g D V h2 h3 s q C
theorem ud.draw {i:Nat} {ol:List Oper} {Q:Exit->lC->AHeap->Prop} (f:P.follows .mixedOrders=true) (t:DT) (c:gN ol.toArray t=true)
  (hd:DW P W0 N ol.toArray (Q .normal) t [] fr h):ud P W0 N (.region i ol.toArray true) fr h Q:=by
 intro g nn m a w s K k;obtain⟨ok,b⟩:=CK.of c;refine wpIn_region_any f ?_;have l:∀j,j<ol.toArray.size->KA (Array.replicate ol.toArray.size false) j=true:=by
  intro j r;have d:j<ol.length:=pw;simp[KA,WZ,d]
 have s0:St W0 g N m (delAll fr (BG ol.toArray [] (Array.replicate ol.toArray.size false))) h a w.drew:=⟨s.rel.drew,s.frame,s.defers,s.size,s.round⟩;refine gG ok ol.toArray.size t (List.range ol.toArray.size) [] fr h (Array.replicate ol.toArray.size false) m a w.drew ?_ Ma ?_ b hd s0 ?_
 .grind [OT,List.countP_eq_length]
 .refine⟨pw,pw,pw,pw⟩
 .intro n fr' h' a' w' e o p q
  exact k [] .normal n fr' h' a' w' e o p.nil q
end
end Go.Fw
