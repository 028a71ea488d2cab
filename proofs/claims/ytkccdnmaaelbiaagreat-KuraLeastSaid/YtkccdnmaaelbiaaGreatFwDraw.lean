/- A text. -/
import Derived.OrdersIn
import Derived.Orders
import Derived.Test.YtkccdnmaaelbiaaGreatFwRules
set_option linter.all false
set_option maxRecDepth 99999
set_option maxHeartbeats 9999999
namespace Go.Fw
section
variable {P : Program} {W0 : LA} {N : Nat} {ops : Array Oper} {fr : lC} {h : AHeap}
theorem aM {fr fr':lC} {x:Operand} (a:∀t,x=.tmp t->fr'.get t=fr.get t):evalO fr' x=evalO fr x:=by
 cases x with
 |tmp t=>exact a t rfl
 |_=>rfl
theorem YK {fr fr':lC}:∀{l:List Operand},(∀t,Operand.tmp t∈l->fr'.get t=fr.get t)->evalL fr' l=evalL fr l
 |[],_=>rfl
 |x::r,a=>by
  simp only[evalL];rw[aM (fun t e=>a t (by simp[e])),YK (fun t e=>a t (by simp[e]))]
theorem MU {fr fr':lC}:∀{l:List (Nat×Operand)},(∀t,Operand.tmp t∈l.map (·.2)->fr'.get t=fr.get t)->evalP fr' l=evalP fr l
 |[],_=>rfl
 |(i,x)::r,a=>by
  simp only[evalP];rw[aM (fun t e=>a t (by simp[e])),MU (fun t e=>a t pw)]
theorem tt {fr fr':lC} {x:Option Operand} (a:∀t,x=some (.tmp t)->fr'.get t=fr.get t):evalM fr' x=evalM fr x:=by
 cases x<;>grind [evalM,aM]
theorem qP {o:Oper} {t:Tmp} (h:Operand.tmp t∈o.op.operands.toList):t∈o.looksAt ops:=by
 unfold Oper.looksAt
 grind
theorem yE {fr fr':lC} {o:Oper} (g:∀t,t∈o.looksAt ops->fr'.get t=fr.get t):stepOp P fr' h o=stepOp P fr h o:=by
 have d:∀t,Operand.tmp t∈o.op.operands.toList->fr'.get t=fr.get t:=fun t j=>g t (qP j);unfold stepOp;cases m:o.op<;>rw[m]at d<;>simp only[Op.operands]at d
 case call c=>
  cases c with
  |mk callee args ats=>
   cases callee with
   |builtin b=>
    simp only[Call.operands]at d
    grind [YK]
   |_=>rfl
 case pick c a b=>
  grind [aM]
 case build t ps=>grind [MU]
 case buildSlice t n ps=>grind [MU]
 case makeFunc f a b=>grind [YK]
 case slice t x l hh mm=>
  simp only[];rw[aM (x:=x) (fun t e=>d t (by simp[e])),tt (x:=l) (fun t e=>d t (by simp[e])),tt (x:=hh) (fun t e=>d t (by simp[e])),tt (x:=mm) (fun t e=>d t (by simp[e]))]
 case lookup t x i ok=>
  grind [aM]
 case mapUpdate t x k y=>
  grind [aM]
 all_goals first
  |rfl
  |(rename_i x;simp only[];rw[aM (x:=x) (fun t e=>d t (by simp[e]))];done)
  |(rename_i _ x;simp only[];rw[aM (x:=x) (fun t e=>d t (by simp[e]))];done)
  |(rename_i x _;simp only[];rw[aM (x:=x) (fun t e=>d t (by simp[e]))];done)
  |(rename_i _ x _;simp only[];rw[aM (x:=x) (fun t e=>d t (by simp[e]))];done)
  |(rename_i _ _ x;simp only[];rw[aM (x:=x) (fun t e=>d t (by simp[e]))];done)
  |(rename_i _ x y;simp only[];rw[aM (x:=x) (fun t e=>d t (by simp[e])),aM (x:=y) (fun t e=>d t (by simp[e]))];done)
  |grind [aM]
theorem Us {fr fr':lC} {o:Oper} (a:∀t,t∈o.looksAt ops->fr'.get t=fr.get t):wantA ops fr' o=wantA ops fr o:=by
 unfold wantA;cases hg:o.guard with
 |none=>rfl
 |some p=>
  obtain⟨j,w⟩:=p;simp only[];cases hd:(ops[j]?).bind (·.dst)with
  |none=>rfl
  |some d=>
   simp only[];rw[a d (by unfold Oper.looksAt;grind)]
theorem Wf {fr fr':lC} {o:Oper} (b:∀t,t∈o.looksAt ops->fr'.get t=fr.get t):calleeOf fr' o=calleeOf fr o:=by
 have a:∀t,Operand.tmp t∈o.op.operands.toList->fr'.get t=fr.get t:=fun t d=>b t (qP d);unfold calleeOf
 cases e:o.op<;>try rfl
 rename_i c;rw[e]at a;cases c with
 |mk callee args ats=>
  cases callee with
  |value f=>
   simp only[Op.operands,Call.operands]at a
   grind [aM,YK]
  |_=>rfl
inductive DT where
 |done
 |no
 |fl (i:Nat) (t:DT)
 |ch (i:Nat) (pre:II) (t other:DT)
def ze (o:Oper):II:=(o.after.toList.filter fun e=>Region.binds .any e).map (·.on)
def predsAt (ops:Array Oper) (i:Nat):II:=match ops[i]? with|some o=>ze o|none=>[]
def Y1 (ops:Array Oper) (i:Nat):Option Tmp:=match ops[i]? with|some o=>o.dst|none=>none
def Vz (ops:Array Oper) (i:Nat):List Tmp:=match ops[i]? with|some o=>o.looksAt ops|none=>[]
def isFloat (o:Oper):Bool:=
 match o.op with
 |.move _|.assign _|.pick ..|.load ..|.nilCheck _|.binOp ..|.unOp ..|.makeInterface ..|.makeFunc ..|.slice ..|.fieldAddr ..|.field ..|.indexAddr ..|.index ..|.extract ..|.build ..=>true
 |.convert _ _ _=>true
 |.call {callee:=.builtin .len,..}|.call {callee:=.builtin .min,..}|.call {callee:=.builtin .max,..}=>true
 |_=>false
def noWar (ops:Array Oper) (i:Nat):Bool:=
 match Y1 ops i with
 |some d=>(List.range ops.size).all fun j=>!(Vz ops j).contains d||(j !=i&&(predsAt ops j).contains i)
 |none=>true
def lV (ops:Array Oper) (i:Nat):Bool:=
 match ops[i]? with
 |some o=>isFloat o&&noWar ops i
 |none=>false
def xx (ops:Array Oper) (rest:II):II:=rest.filter fun x=>(predsAt ops x).all fun p=>!rest.contains p
def isTop:DT->Bool
 |.no=>false
 |_=>true
def isAlt:DT->Bool
 |.no=>true
 |.ch ..=>true
 |_=>false
def treeOK (ops:Array Oper):II->II->DT->Bool
  |rest,_,.done=>rest.isEmpty
  |_,cs,.no=>cs.isEmpty
  |rest,_,.fl i t=>rest.contains i&&lV ops i&&(predsAt ops i).all (fun p=>!rest.contains p)&&isTop t&&treeOK ops (rest.filter fun x=>x !=i) (xx ops (rest.filter fun x=>x !=i)) t
  |rest,cs,.ch i pre t other=>rest.contains i&&(predsAt ops i).all (fun p=>!rest.contains p)&&pre.all (fun q=>(predsAt ops i).contains q)&&
      isTop t&&treeOK ops (rest.filter fun x=>x !=i) (xx ops (rest.filter fun x=>x !=i)) t&&isAlt other&&treeOK ops rest (cs.filter fun x=>x !=i) other
def ui (ops:Array Oper) (rest:II) (t:DT):Bool:=isTop t&&treeOK ops rest (xx ops rest) t
def gN (ops:Array Oper) (t:DT):Bool:=
 (List.range ops.size).all (fun i=>(predsAt ops i).all fun p=>Nat.blt p i)&&
 (List.range ops.size).all (fun i=>(List.range ops.size).all fun j=>i==j||
  match Y1 ops j with
  |some d=>(!(Vz ops i).contains d||(predsAt ops i).contains j||(predsAt ops j).contains i)&&Y1 ops i !=some d
  |none=>true)&&
 ui ops (List.range ops.size) t
def Holds (P:Program) (ops:Array Oper) (fr:lC) (h:AHeap) (p:Nat):Prop:=
  match ops[p]? with
  |some o=>match wantA ops fr o with
    |some true=>∃v,stepOp P fr h o=some (v,h)/\∀d,o.dst=some d->fr.get d=some v
    |some false=>∀d,o.dst=some d->fr.get d=some Yx
    |none=>False
  |none=>False
def HoldsAll (P:Program) (ops:Array Oper) (fr:lC) (h:AHeap):II->Prop
 |[]=>True
 |p::r=>Holds P ops fr h p/\HoldsAll P ops fr h r
def DW (P:Program) (W0:LA) (N:Nat) (ops:Array Oper) (Q:lC->AHeap->Prop):DT->II->lC->AHeap->Prop
  |.done,_,fr,h=>Q fr h
  |.no,_,_,_=>True
  |.fl i t,aab,fr,h=>
    match ops[i]? with
    |none=>False
    |some o=>
      match wantA ops fr o with
      |none=>False
      |some false=>match putDst N fr o.dst Yx with
        |none=>False
        |some fr'=>DW P W0 N ops Q t (i::aab) fr' h
      |some true=>match stepOp P fr h o with
          |none=>False
          |some (v,h')=>h'=h/\match putDst N fr o.dst v with
            |none=>False
            |some fr'=>DW P W0 N ops Q t (i::aab) fr' h
  |.ch i pre t other,aab,fr,h=>
    (match ops[i]? with
    |none=>False
    |some o=>
      match wantA ops fr o with
      |none=>False
      |some false=>match putDst N fr o.dst Yx with
        |none=>False
        |some fr'=>DW P W0 N ops Q t (aab.filter fun p=>!pre.contains p) fr' h
      |some true=>
          match Zm o with
          |true=>∃g args fn c,calleeOf fr o=some (g,args)/\Good P g fn c/\AC P W0 g args h fun v h'=>∃fr',putDst N fr o.dst v=some fr'/\
              HoldsAll P ops fr' h' (aab.filter fun p=>!pre.contains p)/\DW P W0 N ops Q t (aab.filter fun p=>!pre.contains p) fr' h'
          |false=>match stepOp P fr h o with
            |none=>False
            |some (v,h')=>match putDst N fr o.dst v with
              |none=>False
              |some fr'=>HoldsAll P ops fr' h' (aab.filter fun p=>!pre.contains p)/\DW P W0 N ops Q t (aab.filter fun p=>!pre.contains p) fr' h')/\
    DW P W0 N ops Q other aab fr h
theorem HoldsAll.mem {fr:lC} {h:AHeap}:∀{l:II},HoldsAll P ops fr h l->∀p∈l,Holds P ops fr h p
 |[],_,p,a=>by simp at a
 |q::r,hh,p,a=>by
  rcases Z6.1 a with rfl|a
  .exact hh.1
  .exact HoldsAll.mem hh.2 p a
def delAll (fr:lC):List Tmp->lC
 |[]=>fr
 |d::r=>(delAll fr r).del d
theorem W6 (fr:lC) (k:Nat):∀(l:List Tmp),(delAll fr l).get k=if k∈l then none else fr.get k
 |[]=>by simp[delAll]
 |d::r=>by
  simp only[delAll,Trie.Ik,W6 fr k r,Z6]
  grind
def KA (listed:Array Bool) (i:Nat):Bool:=!listed.getD i true
theorem J3 {a:Array Bool} {i j:Nat} (hi:KA a i=true):KA (a.setIfInBounds i true) j=(KA a j&&j !=i):=by
 have b:i<a.size:=by grind [KA]
 unfold KA;simp only[Fu,aeA]
 grind
def OT (n:Nat) (a:Array Bool):Nat:=(List.range n).countP (KA a)
theorem Hk {p q:Nat->Bool} {i:Nat}:∀{l:II},l.Nodup->i∈l->p i=true->q i=false->(∀j,j≠i->q j=p j)->l.countP q+1=l.countP p
 |[],_,h,_,_,_=>by simp at h
 |x::r,a,h,b,c,d=>by
  rw[xD]at a;by_cases e:x=i
  .grind [List.countP_congr]
  .have hi : i ∈ r := pw
   have:=Hk a.2 hi b c d
   grind
theorem u7 {n i:Nat} {a:Array Bool} (hi:i<n) (b:KA a i=true):OT n (a.setIfInBounds i true)+1=OT n a:=by
 refine Hk jz (j9.2 hi) b ?_ ?_
 all_goals grind [J3]
theorem sk {n:Nat} {a:Array Bool} (h:OT n a=0) (i:Nat) (hi:i<n):KA a i=false:=by grind [OT,List.countP_eq_zero]
theorem QX {i:Nat} {o:Oper} (h:ops[i]?=some o):predsAt ops i=ze o:=by grind [predsAt]
theorem Rs {i:Nat} {o:Oper} (h:ops[i]?=some o):Y1 ops i=o.dst:=by grind [Y1]
theorem YZ {i:Nat} {o:Oper} (h:ops[i]?=some o):Vz ops i=o.looksAt ops:=by grind [Vz]
structure CK (ops:Array Oper):Prop where
 preds:∀i p,i<ops.size->p∈predsAt ops i->p<i
 pair:∀i j d,i<ops.size->j<ops.size->i≠j->Y1 ops j=some d->(d∈Vz ops i->j∈predsAt ops i\/i∈predsAt ops j)/\Y1 ops i≠some d
theorem CK.of {t:DT} (h:gN ops t=true):CK ops/\ui ops (List.range ops.size) t=true:=by
 simp only[gN,im,uV,j9,beq_iff_eq,MY,mT,Nat.blt_eq]at h;obtain⟨⟨a,f⟩,b⟩:=h;refine⟨⟨fun i p hi c=>a i hi p c,fun i j d hi g e hd=>?_⟩,b⟩
 grind
theorem PF {rest:II} {x:Nat}:x∈xx ops rest↔x∈rest/\∀p∈predsAt ops x,p∉rest:=by grind [xx]
structure Inv (P:Program) (N:Nat) (ops:Array Oper) (rest aab:II) (fr:lC) (h:AHeap) (listed:Array Bool):Prop where
 every:∀i,i<ops.size->KA listed i=true->i∈aab\/i∈rest
 Cf:∀i∈rest,KA listed i=true/\i<ops.size
 OF:∀p∈aab,p<ops.size/\p∉rest/\(∀q∈predsAt ops p,q∉rest)/\(∀d,Y1 ops p=some d->d<N)/\noWar ops p=true
 holds:∀p∈aab,KA listed p=true->Holds P ops fr h p
def BG (ops:Array Oper) (aab:II) (a:Array Bool):List Tmp:=(aab.filter (KA a)).filterMap (Y1 ops)
theorem WN {aab:II} {a:Array Bool} {t:Tmp}:t∈BG ops aab a↔∃p∈aab,KA a p=true/\Y1 ops p=some t:=by grind [BG]
theorem BV {fr fr':lC} {d:Option Tmp} {v:Value} (h:putDst N fr d v=some fr'):(∀k,d≠some k->fr'.get k=fr.get k)/\∀k,d=some k->fr'.get k=some v/\k<N:=by
 cases d<;>grind [putDst,Trie.bR,Trie.Xw]
theorem Holds.congr {fr fr':lC} {h:AHeap} {p:Nat} (hh:Holds P ops fr h p) (a:∀t∈Vz ops p,fr'.get t=fr.get t) (hd:∀d,Y1 ops p=some d->fr'.get d=fr.get d):Holds P ops fr' h p:=by
 unfold Holds at*;cases c:ops[p]? with
 |none=>grind
 |some o=>
  rw[c]at hh;simp only[]at hh ⊢;rw[YZ c]at a;rw[Rs c]at hd;rw[Us a];cases hw:wantA ops fr o with
  |none=>grind
  |some b=>
   rw[hw]at hh;cases b with
   |false=>grind
   |true=>obtain⟨v,f,h2⟩:=hh;exact⟨v,by rw[yE a];exact f,fun d e=>by grind⟩
theorem Inv.yW {rest aab:II} {fr fr':lC} {h:AHeap} {g:Array Bool} {i:Nat} {o:Oper} {v:Value} (ok:CK ops)
  (k:Inv P N ops rest aab fr h g) (l:i∈rest) (q:∀p∈predsAt ops i,p∉rest) (B:ops[i]?=some o) (w:noWar ops i=true) (y:putDst N fr o.dst v=some fr') (z:Holds P ops fr' h i):
  Inv P N ops (rest.filter fun x=>x !=i) (i::aab) fr' h g:=by
 obtain⟨m,A⟩:=BV y;have hi:=k.Cf i l;have n:∀x,x∈rest.filter (fun x=>x !=i)↔x∈rest/\x≠i:=fun x=>by simp
 refine⟨fun j s u=>?_,fun j s=>k.Cf j ((n j).1 s).1,fun p f=>?_,fun p f u=>?_⟩
 .grind [Inv.every]
 .rcases Z6.1 f with rfl | f
  .grind [Rs]
  .obtain ⟨a, b, c, d⟩ := k.OF p f
   grind
 .rcases Z6.1 f with rfl | f
  .exact z
  .obtain ⟨a, b, c, _⟩ := k.OF p f
   have r:p≠i:=fun e=>b (e▸l);refine(k.holds p f u).congr (fun t C=>m t fun e=>?_) (fun d hd=>m d fun e=>?_)
   .grind [noWar,Rs]
   .exact(ok.pair i p d hi.2 a (Hs r) hd).2 (by grind [Rs])
theorem SI {a:Array Bool} {q:Nat} (hs:q<a.size) (h:KA a q=false):a.getD q false=true:=by grind [KA]
theorem zG {a:Array Bool} {i:Nat} (h:i∈Region.ready .any ops a):KA a i=true/\i<ops.size/\∃o,ops[i]?=some o/\∀q∈ze o,KA a q=false:=by grind [Go.mem_ready,KA,ze]
theorem QS {a:Array Bool} (ok:CK ops) (hs:a.size=ops.size) (h:Region.ready .any ops a=[]):∀i,i<ops.size->KA a i=false:=by
 intro i
 induction i using Nat.strongRecOn with
 |_ i b=>
  intro hi;cases c:KA a i with
  |false=>rfl
  |true=>
   exfalso;have:i∈Region.ready .any ops a:=by
    refine mem_ready.2 ⟨by grind [KA],ops[i],xP hi,fun e d hb=>?_⟩;have f:e.on∈predsAt ops i:=by
     rw[QX (xP hi)]
     grind [ze]
    grind [CK.preds,SI]
   grind
theorem PV {m:rC} {n:Nat} {o:Oper} {fr c:lC} {tmps:Array Value} {b:Bool} (F:FR n m c tmps) (d:∀t∈o.looksAt ops,c.get t=fr.get t) (hw:wantA ops fr o=some b):
  Region.wanted o (yielded ops tmps)=b:=
 tz (a:=⟨tmps,[]⟩) F (by grind [Us])
theorem Bz {p j:Nat} {d:Tmp} (h:noWar ops p=true) (hd:Y1 ops p=some d) (a:j<ops.size) (b:d∈Vz ops j):j≠p/\p∈predsAt ops j:=by grind [noWar]
def St.fill {g:Cx} {m f:rC} {b c:lC} {h h':AHeap} {a:Act} {w w':World} (s:St W0 g N m b h a w) (R':Rel (W0.add g.ex) f h' w') (i:ZK h.next m f) (l:h.next<=h'.next) {d:Option Tmp} {v v':Value} (n:VR h'.next f v v')
  (hf:∀k u,c.get k=some u->(d=some k/\u=v/\k<N)\/(d≠some k/\b.get k=some u)):St W0 g N f c h' (a.put d v') w':=by
 have F:=s.frame.mono l i;refine⟨R',fun k u o=>?_,?_,?_,?_⟩
 .rcases hf k u o with ⟨rfl, rfl, p⟩ | ⟨hd, hg⟩
  .exact⟨v',by simp[Act.put,s.size,p],n⟩
  .obtain ⟨u', j, h2⟩ := F k u hg
   refine⟨u',?_,h2⟩;cases d with
   |none=>exact j
   |some d=>
    have:d≠k:=fun e=>hd (by rw[e]);simp[Act.put,this,j]
 .cases d<;>exact s.defers
 .cases d<;>simp[Act.put,s.size]
 .exact s.round
theorem call_wp {n:Cx} {nn:Nat} {m:rC} {fr:lC} {h:AHeap} {a:Act} {w:World} (s:St W0 n N m fr h a w) {o:Oper} {g:FuncId} {args:List Value} {fn:Func} {c:Code} (d:calleeOf fr o=some (g,args)) (hg:Good P g fn c)
  {R:Value->AHeap->Prop} (C:AC P W0 g args h R) {A:Act->World->Prop} {K:Exit->Act->World->Prop}
  (G:∀v v' p h' w',ZK h.next m p->h.next<=h'.next->Rel (W0.add n.ex) p h' w'->VR h'.next p v v'->R v h'->A (a.put o.dst v') w'):o.wpIn (Xc n.ro) nn P a w A K:=by
 unfold calleeOf at d;split at d
 .rename_i f as ats q
  split at d
  .rename_i B first cap vs hf r
   injection d with d;simp only[si]at d;obtain⟨rfl,rfl⟩:=d;have k:=Ns s.frame hf;have t:=PZ s.frame r;refine ph (fun c e=>by grind) ?_
   have key:∃b cap',a.eval f=.func (.func B) b cap'/\AK h.next m first.toList b.toList/\AK h.next m cap.toList cap'.toList:=by
    generalize a.eval f=x at k;cases k with
    |flat hf=>grind [flat]
    |func H h2 h3 D=>
     exact⟨_,_,rfl,⟨pw,fun i v v' e e'=>h3 i v v' (by simpa using e) pw⟩,⟨pw,fun i v v' e e'=>D i v v' (by simpa using e) pw⟩⟩
   obtain⟨b,cap',u,y,z⟩:=key
   have l:(execOp a.eval o).run P w=.ok (.enter B ((b.toList++as.toList.map a.eval++cap'.toList).toArray)) w:=by
    have E:(b++as.map a.eval++cap')=(b.toList++as.toList.map a.eval++cap'.toList).toArray:=by
     apply M1.1;simp
    simp only[execOp,q,resolve,u,Deferred.ofValue,Sem.run_bind,Sem.run_pure,Result.andThen_ok,invoke,callFunc,run_program,hg.func,hg.name,ab3,if_false,hg.body,acO,E]
   rw[l]
   have j:=C n.ex m w (b.toList++as.toList.map a.eval++cap'.toList) s.rel ((y.append t).append z)
   refine⟨(fun F=>by cases F),qN (j.mono ?_)⟩
   grind
  .cases d
 .cases d
theorem YF {g:Cx} {nn:Nat} {Q:lC->AHeap->Prop} {K:Exit->Act->World->Prop} {fuel:Nat}
  (U:∀(t:DT) (rest aab:II) (fr:lC) (h:AHeap) (b:Array Bool) (m:rC) (a:Act) (w:World),
   OT ops.size b=fuel->b.size=ops.size->Inv P N ops rest aab fr h b->ui ops rest t=true->DW P W0 N ops Q t aab fr h->St W0 g N m (delAll fr (BG ops aab b)) h a w->
   (∀l fr' h' a' w',ZK h.next m l->h.next<=h'.next->St W0 g N l fr' h' a' w'->Q fr' h'->K .normal a' w')->wpAnyIn (Xc g.ro) nn P .any ops K fuel b a w)
  {t:DT} {rest aab:II} {fr:lC} {h:AHeap} {b:Array Bool} {m:rC} {a:Act} {w:World}
  (hc:OT ops.size b=fuel+1) (hs:b.size=ops.size) (r:Inv P N ops rest aab fr h b) (x:ui ops rest t=true) (V:DW P W0 N ops Q t aab fr h) (s:St W0 g N m (delAll fr (BG ops aab b)) h a w)
  (W:∀l fr' h' a' w',ZK h.next m l->h.next<=h'.next->St W0 g N l fr' h' a' w'->Q fr' h'->K .normal a' w')
  {j:Nat} (X:j∈Region.ready .any ops b) (y:j∈aab):wpOpIn (Xc g.ro) nn P ops K j (wpAnyIn (Xc g.ro) nn P .any ops K fuel (b.setIfInBounds j true)) a w:=by
 obtain⟨Y,B,o,L,M⟩:=zG X;have C:OT ops.size (b.setIfInBounds j true)=fuel:=by grind [u7]
 have hs':(b.setIfInBounds j true).size=ops.size:=pw;have Z:j∉rest:=(r.OF j y).2.1;have D:Inv P N ops rest aab fr h (b.setIfInBounds j true):=by
  refine⟨fun i hi ae=>?_,fun i hi=>⟨?_,(r.Cf i hi).2⟩,r.OF,fun p O E=>?_⟩
  .grind [J3,Inv.every]
  .grind [J3,Inv.Cf]
  grind [J3,Inv.holds]
 have c:∀t∈o.looksAt ops,(delAll fr (BG ops aab b)).get t=fr.get t:=by
  intro t ht;rw[W6,if_neg];intro hh;obtain⟨p,O,E,F⟩:=WN.1 hh;obtain⟨_,_,_,_,G⟩:=r.OF p O;obtain⟨ag,R⟩:=Bz G F B (by grind [YZ])
  grind [QX]
 have f:∀v,(∀d,o.dst=some d->fr.get d=some v)->∀k u,(delAll fr (BG ops aab (b.setIfInBounds j true))).get k=some u->
   (o.dst=some k/\u=v/\k<N)\/(o.dst≠some k/\(delAll fr (BG ops aab b)).get k=some u):=by
  intro v S k u n;rw[W6]at n;split at n
  .cases n
  .rename_i hk
   by_cases hd:o.dst=some k
   .grind [Inv.OF,Rs]
   grind [W6,WN,J3,Rs]
 have q:=r.holds j y Y;unfold Holds at q;rw[L]at q;simp only[]at q;unfold wpOpIn;rw[L];simp only[];split at q
 .rename_i hw
  obtain⟨v,z,H⟩:=q;rw[if_pos (PV s.frame c hw)];obtain⟨l,v',w',e,R',A,I,S⟩:=stepOp_does (P:=P) (a:=a) s.rel s.frame (by rw[yE c];exact z);have T:=s.fill R' A I S (f v H);have:=U t rest aab fr h _ l (a.put o.dst v') w' C hs' D x V T fun m2 J h2 a2 w2 e1 e2 e3 e4=>W m2 J h2 a2 w2 (A.trans e1 I) (VU I e2) e3 e4;refine ph (Nw z) ?_;rcases e with e|⟨e,rfl⟩<;>rw[e]<;>exact this
 .rename_i hw
  rw[if_neg (by rw[PV s.frame c hw];simp)];have T:=s.fill s.rel (.refl _ _) (Ny _) (v:=Yx) (v':=undef) (.tuple rfl (fun i v v' h=>by simp at h)) (f Yx q);refine⟨fun _ _=>trivial,?_⟩
  grind
 grind
theorem draw_do {E:Cx} {nn:Nat} (ok:CK ops) {Q:lC->AHeap->Prop} {K:Exit->Act->World->Prop} {fuel:Nat}
  (ih:∀(t:DT) (rest aab:II) (fr:lC) (h:AHeap) (b:Array Bool) (m:rC) (a:Act) (w:World),
   OT ops.size b=fuel->b.size=ops.size->Inv P N ops rest aab fr h b->ui ops rest t=true->DW P W0 N ops Q t aab fr h->St W0 E N m (delAll fr (BG ops aab b)) h a w->
   (∀D fr' h' a' w',ZK h.next m D->h.next<=h'.next->St W0 E N D fr' h' a' w'->Q fr' h'->K .normal a' w')->wpAnyIn (Xc E.ro) nn P .any ops K fuel b a w)
  {t other:DT} {j:Nat} {pre:II} {rest aab:II} {fr:lC} {h:AHeap} {b:Array Bool} {m:rC} {a:Act} {w:World}
  (hc:OT ops.size b=fuel+1) (hs:b.size=ops.size) (I:Inv P N ops rest aab fr h b) (V:j∈rest) (W:∀q∈pre,q∈predsAt ops j)
  (A:ui ops (rest.filter fun x=>x !=j) t=true) (n:DW P W0 N ops Q (.ch j pre t other) aab fr h) (s:St W0 E N m (delAll fr (BG ops aab b)) h a w)
  (hK:∀D fr' h' a' w',ZK h.next m D->h.next<=h'.next->St W0 E N D fr' h' a' w'->Q fr' h'->K .normal a' w')
  (hj:j∈Region.ready .any ops b):wpOpIn (Xc E.ro) nn P ops K j (wpAnyIn (Xc E.ro) nn P .any ops K fuel (b.setIfInBounds j true)) a w:=by
 obtain⟨hu,X,o,ho,ar⟩:=zG hj;have J:∀x,x∈rest.filter (fun x=>x !=j)↔x∈rest/\x≠j:=fun x=>by simp
 have L:OT ops.size (b.setIfInBounds j true)=fuel:=by grind [u7]
 have hs':(b.setIfInBounds j true).size=ops.size:=pw;have av:∀p∈aab,p≠j:=fun p l e=>(I.OF p l).2.1 (e▸V);have Y:∀p∈aab,KA b p=true->p∈aab.filter fun p=>!pre.contains p:=by grind [QX]
 have f:∀t∈o.looksAt ops,(delAll fr (BG ops aab b)).get t=fr.get t:=by
  intro t ht;rw[W6,if_neg];intro hh;obtain⟨p,l,B,ay⟩:=WN.1 hh;obtain⟨_,_,_,_,az⟩:=I.OF p l
  grind [Bz,YZ,QX]
 have hinv:∀fr' h',(∀p∈aab.filter (fun p=>!pre.contains p),KA (b.setIfInBounds j true) p=true->Holds P ops fr' h' p)->Inv P N ops (rest.filter fun x=>x !=j) (aab.filter fun p=>!pre.contains p) fr' h' (b.setIfInBounds j true):=by
  intro fr' h' y;refine⟨fun Z M aD=>?_,fun Z M=>⟨?_,(I.Cf Z ((J Z).1 M).1).2⟩,fun p l=>?_,y⟩
  .grind [J3,Inv.every]
  .grind [J3,Inv.Cf]
  .obtain ⟨a1, a2, a3, a4, a5⟩ := I.OF p (iy.1 l).1
   grind
 have r:∀{v:Value} {fr':lC},putDst N fr o.dst v=some fr'->∀k u,(delAll fr' (BG ops (aab.filter fun p=>!pre.contains p) (b.setIfInBounds j true))).get k=some u->
   (o.dst=some k/\u=v/\k<N)\/(o.dst≠some k/\(delAll fr (BG ops aab b)).get k=some u):=by
  intro v fr' l k u F;obtain⟨G,ae⟩:=BV l;rw[W6]at F;split at F
  .cases F
  grind [W6,WN,J3]
 simp only[DW,ho]at n;replace n:=n.1;unfold wpOpIn;rw[ho];simp only[];split at n
 .exact n.elim
 .rename_i hw
  rw[if_neg (by rw[PV s.frame f hw];simp)];split at n
  .exact n.elim
  .rename_i fr' l
   obtain⟨G,ae⟩:=BV l;have U:=s.fill s.rel (.refl _ _) (Ny _) (v:=Yx) (v':=undef) (.tuple rfl (fun i v v' h=>by simp at h)) (r l);refine⟨fun _ _=>trivial,ih t _ _ fr' h _ m _ w L hs' (hinv fr' h fun p ag B=>?_) A n U hK⟩;rw[J3 hu]at B;simp at B;have O:=(iy.1 ag).1;obtain⟨a1,a2,a3,_⟩:=I.OF p O;refine(I.holds p O B.1).congr (fun t ht=>G t fun e=>?_) (fun d hd=>G d fun e=>?_)
   .grind [CK.pair,Rs,QX]
   .exact(ok.pair j p d X a1 (Hs B.2) hd).2 (by grind [Rs])
 .rename_i hw
  rw[if_pos (PV s.frame f hw)];split at n
  .obtain ⟨g, args, fn, c, aj, H, al⟩ := n
   refine call_wp s (by rw[Wf f];exact aj) H al ?_;rintro v v' D h' w' C R R' hv ⟨fr',l,y,S⟩;have U:=s.fill R' C R hv (r l)
   grind [HoldsAll.mem,ZK.trans]
  .split at n
   .exact n.elim
   .rename_i v h' T
    split at n
    .exact n.elim
    .rename_i fr' l
     obtain⟨y,S⟩:=n;obtain⟨D,v',w',z,R',C,R,hv⟩:=stepOp_does (P:=P) (a:=a) s.rel s.frame (by rw[yE f];exact T);have U:=s.fill R' C R hv (r l);have:=ih t _ _ fr' h' _ D (a.put o.dst v') w' L hs' (hinv fr' h' fun p l _=>y.mem p l) A S U fun m2 aq h2 a2 w2 e1 e2 e3 e4=>hK m2 aq h2 a2 w2 (C.trans e1 R) (VU R e2) e3 e4;refine ph (Nw T) ?_;rcases z with z|⟨z,rfl⟩<;>rw[z]<;>exact this
theorem iR {Q:lC->AHeap->Prop} {rest aab:II} {fr:lC} {h:AHeap} {j:Nat}:∀{t:DT} {cs:II},j∈cs->treeOK ops rest cs t=true->DW P W0 N ops Q t aab fr h->isAlt t=true->
  ∃pre a other,(∀q∈pre,q∈predsAt ops j)/\ui ops (rest.filter fun x=>x !=j) a=true/\DW P W0 N ops Q (.ch j pre a other) aab fr h:=by
 intro t
 induction t with
 |done=>intro cs _ _ _ ha;cases ha
 |fl i t _=>intro cs _ _ _ ha;cases ha
 |no=>grind [treeOK]
 |ch i pre t other _ b=>
  intro cs c d e _
  grind [treeOK,ui,DW]
theorem gG {L:Cx} {nn:Nat} (ok:CK ops) {Q:lC->AHeap->Prop} {K:Exit->Act->World->Prop}:∀(fuel:Nat) (t:DT) (rest aab:II) (fr:lC) (h:AHeap) (b:Array Bool) (m:rC) (a:Act) (w:World),
  OT ops.size b=fuel->b.size=ops.size->Inv P N ops rest aab fr h b->ui ops rest t=true->DW P W0 N ops Q t aab fr h->St W0 L N m (delAll fr (BG ops aab b)) h a w->
  (∀Y fr' h' a' w',ZK h.next m Y->h.next<=h'.next->St W0 L N Y fr' h' a' w'->Q fr' h'->K .normal a' w')->
  wpAnyIn (Xc L.ro) nn P .any ops K fuel b a w:=by
 intro fuel
 induction fuel with
 |zero=>
  intro t
  induction t with
  |no=>grind [ui,isTop]
  |done=>
   intro rest aab fr h b m a w q hs n f c s y;have r:=sk q;have hh:BG ops aab b=[]:=by
    apply Vn.2;intro t f;obtain⟨p,z,G,_⟩:=WN.1 f;rw[r p (n.OF p z).1]at G;cases G
   rw[hh]at s;refine⟨?_,y m fr h a w (.refl _ _) (Ny _) s c⟩;apply Vn.2;intro i hi;obtain⟨Z,h2,_⟩:=zG hi
   grind
  |fl i t _=>
   intro rest aab fr h b m a w q hs n f c s y;have r:=sk q;simp only[ui,treeOK,im,mT,decide_eq_true_eq]at f;have:=n.Cf i f.2.1.1.1.1
   grind
  |ch i pre t other _ _=>
   intro rest aab fr h b m a w q hs n f c s y;have r:=sk q;simp only[ui,treeOK,im,mT,decide_eq_true_eq]at f;have:=n.Cf i f.2.1.1.1.1.1.1
   grind
 |succ fuel O=>
  intro t
  induction t with
  |no=>grind [ui,isTop]
  |done=>
   intro rest aab fr h b m a w q hs n f c s y;have R:rest=[]:=by grind [ui,treeOK]
   refine⟨fun hr=>?_,fun j H=>?_⟩
   .grind [QS,OT,List.countP_eq_zero]
   .obtain ⟨G, B, _⟩ := zG H
    rcases n.every j B G with C|D
    .exact YF O q hs n f c s y H C
    grind
  |fl i t al=>
   intro rest aab fr h b m a w q hs n f c s y;simp only[ui,treeOK,im,mT,decide_eq_true_eq]at f;obtain⟨_,⟨⟨⟨S,aq⟩,T⟩,ae⟩,g⟩:=f;have U:ui ops (rest.filter fun x=>x !=i) t=true:=by grind [ui]
   have V:∀p∈predsAt ops i,p∉rest:=fun p z=>by grind
   have hi:=n.Cf i S;have I:ops[i]?=some ops[i]:=xP hi.2;generalize ops[i]'hi.2=o at I
   have J:noWar ops i=true:=by grind [lV]
   have W:∀{fr':lC} {v:Value},putDst N fr o.dst v=some fr'->St W0 L N m (delAll fr' (BG ops (i::aab) b)) h a w:=by
    intro fr' v z;obtain⟨A,E⟩:=BV z;refine⟨s.rel,fun k u hk=>s.frame k u ?_,s.defers,s.size,s.round⟩
    grind [W6,WN,Rs]
   simp only[DW,I]at c;split at c
   .exact c.elim
   .rename_i hw
    split at c
    .exact c.elim
    .rename_i fr' z
     obtain⟨A,E⟩:=BV z;have l:∀t∈o.looksAt ops,fr'.get t=fr.get t:=fun t f=>A t fun e=>(Bz J (by rw[Rs I];exact e) hi.2 (by grind [YZ])).1 rfl;have hH:Holds P ops fr' h i:=by grind [Holds,Us]
     grind [Inv.yW]
   .rename_i hw
    split at c
    .exact c.elim
    .rename_i v h' X
     obtain⟨rfl,c⟩:=c;split at c
     .exact c.elim
     .rename_i fr' z
      obtain⟨A,E⟩:=BV z;have l:∀t∈o.looksAt ops,fr'.get t=fr.get t:=fun t f=>A t fun e=>(Bz J (by rw[Rs I];exact e) hi.2 (by grind [YZ])).1 rfl;have hH:Holds P ops fr' h' i:=by
       unfold Holds;rw[I];simp only[];rw[Us l,hw];exact⟨v,by rw[yE l];exact X,fun d hd=>(E d hd).1⟩
      grind [Inv.yW]
  |ch i pre t other _ _=>
   intro rest aab fr h b m a w q hs n f c s y;refine⟨fun hr=>?_,fun j H=>?_⟩
   .grind [QS,OT,List.countP_eq_zero]
   .obtain ⟨G, B, oj, ar, ag⟩ := zG H
    rcases n.every j B G with C|D
    .exact YF O q hs n f c s y H C
    .have F : j ∈ xx ops rest := PF.2 ⟨D, fun p z T => by grind [QX, Inv.Cf]⟩
     have g:=f;simp only[ui,im]at g;obtain⟨aj,t',M,Z,h2,h3⟩:=iR F g.2 c rfl;exact draw_do ok O q hs n D Z h2 h3 s y H
theorem ud.draw {i:Nat} {ol:List Oper} {Q:Exit->lC->AHeap->Prop} (l:P.follows .mixedOrders=true) (t:DT) (d:gN ol.toArray t=true)
  (hd:DW P W0 N ol.toArray (Q .normal) t [] fr h):ud P W0 N (.region i ol.toArray true) fr h Q:=by
 intro n nn m a w s K o;obtain⟨ok,b⟩:=CK.of d;refine wpIn_region_any l ?_;have e:∀j,j<ol.toArray.size->KA (Array.replicate ol.toArray.size false) j=true:=by
  intro j c;have f:j<ol.length:=pw;simp[KA,Fu,f]
 have s0:St W0 n N m (delAll fr (BG ol.toArray [] (Array.replicate ol.toArray.size false))) h a w.drew:=⟨s.rel.drew,s.frame,s.defers,s.size,s.round⟩;refine gG ok ol.toArray.size t (List.range ol.toArray.size) [] fr h (Array.replicate ol.toArray.size false) m a w.drew ?_ Ma ?_ b hd s0 ?_
 .grind [OT,List.countP_eq_length]
 .refine⟨fun j c _=>.inr (j9.2 c),fun j c=>⟨e j (j9.1 c),j9.1 c⟩,fun p g=>by simp at g,fun p g=>by simp at g⟩
 .intro q fr' h' a' w' k r u v
  exact o [] .normal q fr' h' a' w' k r u.nil v
end
end Go.Fw
