/- A text. -/
import Derived.OrdersIn
import Derived.Orders
import Derived.Test.YtkccdnmaaelbiaaGreatFwRules
set_option linter.all false
set_option maxRecDepth 99999
set_option maxHeartbeats 9999999
namespace Go.Fw
section
variable {P : Program} {W0 : LA} {N : Nat} {ops : Array Oper} {fr : aaa} {h : AHeap}
theorem aM {fr fr':aaa} {x:Operand} (a:∀t,x=.tmp t->fr'.get t=fr.get t):evalO fr' x=evalO fr x:=by
 cases x with
 |tmp t=>exact a t rfl
 |_=>rfl
theorem YK {fr fr':aaa}:∀{l:List Operand},(∀t,Operand.tmp t∈l->fr'.get t=fr.get t)->evalL fr' l=evalL fr l
 |[],_=>rfl
 |x::r,a=>by
  simp only[evalL];rw[aM (fun t e=>a t (by simp[e])),YK (fun t e=>a t (by simp[e]))]
theorem MU {fr fr':aaa}:∀{l:List (Nat×Operand)},(∀t,Operand.tmp t∈l.map (·.2)->fr'.get t=fr.get t)->evalP fr' l=evalP fr l
 |[],_=>rfl
 |(i,x)::r,a=>by
  simp only[evalP];rw[aM (fun t e=>a t (by simp[e])),MU (fun t e=>a t pw)]
theorem tt {fr fr':aaa} {x:Option Operand} (a:∀t,x=some (.tmp t)->fr'.get t=fr.get t):evalM fr' x=evalM fr x:=by
 cases x<;>grind [evalM,aM]
theorem qP {o:Oper} {t:Tmp} (h:Operand.tmp t∈o.op.operands.toList):t∈o.looksAt ops:=by
 unfold Oper.looksAt
 grind
theorem yE {fr fr':aaa} {o:Oper} (g:∀t,t∈o.looksAt ops->fr'.get t=fr.get t):stepOp P fr' h o=stepOp P fr h o:=by
 have d:∀t,Operand.tmp t∈o.op.operands.toList->fr'.get t=fr.get t:=fun t j=>g t (qP j);unfold stepOp;cases m:o.op<;>rw[m]at d<;>simp only[Op.operands]at d
 case call c=>
  cases c with
  |mk callee args ats=>
   cases callee with
   |builtin b=>
    simp only[Call.operands]at d
    grind [YK]
   |_=>rfl
 case pick c a b=>
  grind [aM]
 case build t ps=>grind [MU]
 case buildSlice t n ps=>grind [MU]
 case makeFunc f a b=>grind [YK]
 case slice t x l hh mm=>
  simp only[];rw[aM (x:=x) (fun t e=>d t (by simp[e])),tt (x:=l) (fun t e=>d t (by simp[e])),tt (x:=hh) (fun t e=>d t (by simp[e])),tt (x:=mm) (fun t e=>d t (by simp[e]))]
 case lookup t x i ok=>
  grind [aM]
 case mapUpdate t x k y=>
  grind [aM]
 all_goals first
  |rfl
  |(rename_i x;simp only[];rw[aM (x:=x) (fun t e=>d t (by simp[e]))];done)
  |(rename_i _ x;simp only[];rw[aM (x:=x) (fun t e=>d t (by simp[e]))];done)
  |(rename_i x _;simp only[];rw[aM (x:=x) (fun t e=>d t (by simp[e]))];done)
  |(rename_i _ x _;simp only[];rw[aM (x:=x) (fun t e=>d t (by simp[e]))];done)
  |(rename_i _ _ x;simp only[];rw[aM (x:=x) (fun t e=>d t (by simp[e]))];done)
  |(rename_i _ x y;simp only[];rw[aM (x:=x) (fun t e=>d t (by simp[e])),aM (x:=y) (fun t e=>d t (by simp[e]))];done)
  |grind [aM]
theorem Us {fr fr':aaa} {o:Oper} (a:∀t,t∈o.looksAt ops->fr'.get t=fr.get t):wantA ops fr' o=wantA ops fr o:=by
 unfold wantA;cases hg:o.guard with
 |none=>rfl
 |some p=>
  obtain⟨j,w⟩:=p;simp only[];cases hd:(ops[j]?).bind (·.dst)with
  |none=>rfl
  |some d=>
   simp only[];rw[a d (by unfold Oper.looksAt;grind)]
theorem Wf {fr fr':aaa} {o:Oper} (b:∀t,t∈o.looksAt ops->fr'.get t=fr.get t):calleeOf fr' o=calleeOf fr o:=by
 have a:∀t,Operand.tmp t∈o.op.operands.toList->fr'.get t=fr.get t:=fun t d=>b t (qP d);unfold calleeOf
 cases e:o.op<;>try rfl
 rename_i c;rw[e]at a;cases c with
 |mk callee args ats=>
  cases callee with
  |value f=>
   simp only[Op.operands,Call.operands]at a
   grind [aM,YK]
  |_=>rfl
inductive DT where
 |done
 |no
 |fl (i:Nat) (t:DT)
 |ch (i:Nat) (pre:II) (t other:DT)
def ze (o:Oper):II:=(o.after.toList.filter fun e=>Region.binds .any e).map (·.on)
def predsAt (ops:Array Oper) (i:Nat):II:=match ops[i]? with|some o=>ze o|none=>[]
def Y1 (ops:Array Oper) (i:Nat):Option Tmp:=match ops[i]? with|some o=>o.dst|none=>none
def Vz (ops:Array Oper) (i:Nat):List Tmp:=match ops[i]? with|some o=>o.looksAt ops|none=>[]
def afV (o:Oper):Bool:=
 match o.op with
 |.move _|.assign _|.pick ..|.load ..|.nilCheck _|.binOp ..|.unOp ..|.makeInterface ..|.makeFunc ..|.slice ..|.fieldAddr ..|.field ..|.indexAddr ..|.index ..|.extract ..|.build ..=>true
 |.convert _ _ _=>true
 |.call {callee:=.builtin .len,..}|.call {callee:=.builtin .min,..}|.call {callee:=.builtin .max,..}=>true
 |_=>false
def noWar (ops:Array Oper) (i:Nat):Bool:=
 match Y1 ops i with
 |some d=>(List.range ops.size).all fun j=>!(Vz ops j).contains d||(j !=i&&(predsAt ops j).contains i)
 |none=>true
def lV (ops:Array Oper) (i:Nat):Bool:=
 match ops[i]? with
 |some o=>afV o&&noWar ops i
 |none=>false
def xx (ops:Array Oper) (rest:II):II:=rest.filter fun x=>(predsAt ops x).all fun p=>!rest.contains p
def isTop:DT->Bool
 |.no=>false
 |_=>true
def isAlt:DT->Bool
 |.no=>true
 |.ch ..=>true
 |_=>false
def treeOK (ops:Array Oper):II->II->DT->Bool
  |rest,_,.done=>rest.isEmpty
  |_,cs,.no=>cs.isEmpty
  |rest,_,.fl i t=>rest.contains i&&lV ops i&&(predsAt ops i).all (fun p=>!rest.contains p)&&isTop t&&treeOK ops (rest.filter fun x=>x !=i) (xx ops (rest.filter fun x=>x !=i)) t
  |rest,cs,.ch i pre t other=>rest.contains i&&(predsAt ops i).all (fun p=>!rest.contains p)&&pre.all (fun q=>(predsAt ops i).contains q)&&
      isTop t&&treeOK ops (rest.filter fun x=>x !=i) (xx ops (rest.filter fun x=>x !=i)) t&&isAlt other&&treeOK ops rest (cs.filter fun x=>x !=i) other
def ui (ops:Array Oper) (rest:II) (t:DT):Bool:=isTop t&&treeOK ops rest (xx ops rest) t
def aaG (ops:Array Oper) (t:DT):Bool:=
 (List.range ops.size).all (fun i=>(predsAt ops i).all fun p=>Nat.blt p i)&&
 (List.range ops.size).all (fun i=>(List.range ops.size).all fun j=>i==j||
  match Y1 ops j with
  |some d=>(!(Vz ops i).contains d||(predsAt ops i).contains j||(predsAt ops j).contains i)&&Y1 ops i !=some d
  |none=>true)&&
 ui ops (List.range ops.size) t
def Holds (P:Program) (ops:Array Oper) (fr:aaa) (h:AHeap) (p:Nat):Prop:=
  match ops[p]? with
  |some o=>match wantA ops fr o with
    |some true=>∃v,stepOp P fr h o=some (v,h)/\∀d,o.dst=some d->fr.get d=some v
    |some false=>∀d,o.dst=some d->fr.get d=some Yx
    |none=>False
  |none=>False
def HoldsAll (P:Program) (ops:Array Oper) (fr:aaa) (h:AHeap):II->Prop
 |[]=>True
 |p::r=>Holds P ops fr h p/\HoldsAll P ops fr h r
def DW (P:Program) (W0:LA) (N:Nat) (ops:Array Oper) (Q:aaa->AHeap->Prop):DT->II->aaa->AHeap->Prop
  |.done,_,fr,h=>Q fr h
  |.no,_,_,_=>True
  |.fl i t,a,fr,h=>
    match ops[i]? with
    |none=>False
    |some o=>
      match wantA ops fr o with
      |none=>False
      |some false=>match putDst N fr o.dst Yx with
        |none=>False
        |some fr'=>DW P W0 N ops Q t (i::a) fr' h
      |some true=>match stepOp P fr h o with
          |none=>False
          |some (v,h')=>h'=h/\match putDst N fr o.dst v with
            |none=>False
            |some fr'=>DW P W0 N ops Q t (i::a) fr' h
  |.ch i pre t other,a,fr,h=>
    (match ops[i]? with
    |none=>False
    |some o=>
      match wantA ops fr o with
      |none=>False
      |some false=>match putDst N fr o.dst Yx with
        |none=>False
        |some fr'=>DW P W0 N ops Q t (a.filter fun p=>!pre.contains p) fr' h
      |some true=>
          match Zm o with
          |true=>∃g args fn c,calleeOf fr o=some (g,args)/\Good P g fn c/\AC P W0 g args h fun v h'=>∃fr',putDst N fr o.dst v=some fr'/\
              HoldsAll P ops fr' h' (a.filter fun p=>!pre.contains p)/\DW P W0 N ops Q t (a.filter fun p=>!pre.contains p) fr' h'
          |false=>match stepOp P fr h o with
            |none=>False
            |some (v,h')=>match putDst N fr o.dst v with
              |none=>False
              |some fr'=>HoldsAll P ops fr' h' (a.filter fun p=>!pre.contains p)/\DW P W0 N ops Q t (a.filter fun p=>!pre.contains p) fr' h')/\
    DW P W0 N ops Q other a fr h
theorem HoldsAll.mem {fr:aaa} {h:AHeap}:∀{l:II},HoldsAll P ops fr h l->∀p∈l,Holds P ops fr h p
 |[],_,p,a=>by simp at a
 |q::r,hh,p,a=>by
  rcases qy.1 a with rfl|a
  .exact hh.1
  .exact HoldsAll.mem hh.2 p a
def delAll (fr:aaa):List Tmp->aaa
 |[]=>fr
 |d::r=>(delAll fr r).del d
theorem W6 (fr:aaa) (k:Nat):∀(l:List Tmp),(delAll fr l).get k=if k∈l then none else fr.get k
 |[]=>by simp[delAll]
 |d::r=>by
  simp only[delAll,Trie.Ik,W6 fr k r,qy]
  grind
def KA (listed:Array Bool) (i:Nat):Bool:=!listed.getD i true
theorem J3 {a:Array Bool} {i j:Nat} (hi:KA a i=true):KA (a.setIfInBounds i true) j=(KA a j&&j !=i):=by
 have b:i<a.size:=by grind [KA]
 unfold KA;simp only[Ry,dr]
 grind
def OT (n:Nat) (a:Array Bool):Nat:=(List.range n).countP (KA a)
theorem Hk {p q:Nat->Bool} {i:Nat}:∀{l:II},l.Nodup->i∈l->p i=true->q i=false->(∀j,j≠i->q j=p j)->l.countP q+1=l.countP p
 |[],_,h,_,_,_=>by simp at h
 |x::r,a,h,b,c,d=>by
  rw[eR]at a;by_cases e:x=i
  .grind [List.countP_congr]
  .have hi : i ∈ r := pw
   have:=Hk a.2 hi b c d
   grind
theorem u7 {n i:Nat} {a:Array Bool} (hi:i<n) (b:KA a i=true):OT n (a.setIfInBounds i true)+1=OT n a:=by
 refine Hk qH (ZT.2 hi) b ?_ ?_
 all_goals grind [J3]
theorem sk {n:Nat} {a:Array Bool} (h:OT n a=0) (i:Nat) (hi:i<n):KA a i=false:=by grind [OT,List.countP_eq_zero]
theorem QX {i:Nat} {o:Oper} (h:ops[i]?=some o):predsAt ops i=ze o:=by grind [predsAt]
theorem Rs {i:Nat} {o:Oper} (h:ops[i]?=some o):Y1 ops i=o.dst:=by grind [Y1]
theorem YZ {i:Nat} {o:Oper} (h:ops[i]?=some o):Vz ops i=o.looksAt ops:=by grind [Vz]
structure CK (ops:Array Oper):Prop where
 preds:∀i p,i<ops.size->p∈predsAt ops i->p<i
 pair:∀i j d,i<ops.size->j<ops.size->i≠j->Y1 ops j=some d->(d∈Vz ops i->j∈predsAt ops i\/i∈predsAt ops j)/\Y1 ops i≠some d
theorem CK.of {t:DT} (h:aaG ops t=true):CK ops/\ui ops (List.range ops.size) t=true:=by
 simp only[aaG,bC,ff,ZT,beq_iff_eq,aa1,aef,Nat.blt_eq]at h;obtain⟨⟨a,f⟩,b⟩:=h;refine⟨⟨fun i p hi c=>a i hi p c,fun i j d hi g e hd=>?_⟩,b⟩
 grind
theorem PF {rest:II} {x:Nat}:x∈xx ops rest↔x∈rest/\∀p∈predsAt ops x,p∉rest:=by grind [xx]
structure Inv (P:Program) (N:Nat) (ops:Array Oper) (rest pend:II) (fr:aaa) (h:AHeap) (listed:Array Bool):Prop where
 every:∀i,i<ops.size->KA listed i=true->i∈pend\/i∈rest
 Cf:∀i∈rest,KA listed i=true/\i<ops.size
 OF:∀p∈pend,p<ops.size/\p∉rest/\(∀q∈predsAt ops p,q∉rest)/\(∀d,Y1 ops p=some d->d<N)/\noWar ops p=true
 holds:∀p∈pend,KA listed p=true->Holds P ops fr h p
def BG (ops:Array Oper) (b:II) (a:Array Bool):List Tmp:=(b.filter (KA a)).filterMap (Y1 ops)
theorem WN {b:II} {a:Array Bool} {t:Tmp}:t∈BG ops b a↔∃p∈b,KA a p=true/\Y1 ops p=some t:=by grind [BG]
theorem BV {fr fr':aaa} {d:Option Tmp} {v:Value} (h:putDst N fr d v=some fr'):(∀k,d≠some k->fr'.get k=fr.get k)/\∀k,d=some k->fr'.get k=some v/\k<N:=by
 cases d<;>grind [putDst,Trie.bR,Trie.Xw]
theorem Holds.congr {fr fr':aaa} {h:AHeap} {p:Nat} (hh:Holds P ops fr h p) (a:∀t∈Vz ops p,fr'.get t=fr.get t) (hd:∀d,Y1 ops p=some d->fr'.get d=fr.get d):Holds P ops fr' h p:=by
 unfold Holds at*;cases c:ops[p]? with
 |none=>grind
 |some o=>
  rw[c]at hh;simp only[]at hh ⊢;rw[YZ c]at a;rw[Rs c]at hd;rw[Us a];cases hw:wantA ops fr o with
  |none=>grind
  |some b=>
   rw[hw]at hh;cases b with
   |false=>grind
   |true=>obtain⟨v,f,h2⟩:=hh;exact⟨v,by rw[yE a];exact f,fun d e=>by grind⟩
theorem Inv.yW {rest k:II} {fr fr':aaa} {h:AHeap} {g:Array Bool} {i:Nat} {o:Oper} {v:Value} (ok:CK ops)
  (l:Inv P N ops rest k fr h g) (m:i∈rest) (r:∀p∈predsAt ops i,p∉rest) (C:ops[i]?=some o) (y:noWar ops i=true) (z:putDst N fr o.dst v=some fr') (A:Holds P ops fr' h i):
  Inv P N ops (rest.filter fun x=>x !=i) (i::k) fr' h g:=by
 obtain⟨n,B⟩:=BV z;have hi:=l.Cf i m;have q:∀x,x∈rest.filter (fun x=>x !=i)↔x∈rest/\x≠i:=fun x=>by simp
 refine⟨fun j u w=>?_,fun j u=>l.Cf j ((q j).1 u).1,fun p f=>?_,fun p f w=>?_⟩
 .grind [Inv.every]
 .rcases qy.1 f with rfl | f
  .grind [Rs]
  .obtain ⟨a, b, c, d⟩ := l.OF p f
   grind
 .rcases qy.1 f with rfl | f
  .exact A
  .obtain ⟨a, b, c, _⟩ := l.OF p f
   have s:p≠i:=fun e=>b (e▸m);refine(l.holds p f w).congr (fun t D=>n t fun e=>?_) (fun d hd=>n d fun e=>?_)
   .grind [noWar,Rs]
   .exact(ok.pair i p d hi.2 a (Hs s) hd).2 (by grind [Rs])
theorem SI {a:Array Bool} {q:Nat} (hs:q<a.size) (h:KA a q=false):a.getD q false=true:=by grind [KA]
theorem zG {a:Array Bool} {i:Nat} (h:i∈Region.ready .any ops a):KA a i=true/\i<ops.size/\∃o,ops[i]?=some o/\∀q∈ze o,KA a q=false:=by grind [Go.mem_ready,KA,ze]
theorem QS {a:Array Bool} (ok:CK ops) (hs:a.size=ops.size) (h:Region.ready .any ops a=[]):∀i,i<ops.size->KA a i=false:=by
 intro i
 induction i using Nat.strongRecOn with
 |_ i b=>
  intro hi;cases c:KA a i with
  |false=>rfl
  |true=>
   exfalso;have:i∈Region.ready .any ops a:=by
    refine mem_ready.2 ⟨by grind [KA],ops[i],pM hi,fun e d hb=>?_⟩;have f:e.on∈predsAt ops i:=by
     rw[QX (pM hi)]
     grind [ze]
    grind [CK.preds,SI]
   grind
theorem PV {m:rC} {n:Nat} {o:Oper} {fr c:aaa} {tmps:Array Value} {b:Bool} (F:FR n m c tmps) (d:∀t∈o.looksAt ops,c.get t=fr.get t) (hw:wantA ops fr o=some b):
  Region.wanted o (yielded ops tmps)=b:=
 tz (a:=⟨tmps,[]⟩) F (by grind [Us])
theorem Bz {p j:Nat} {d:Tmp} (h:noWar ops p=true) (hd:Y1 ops p=some d) (a:j<ops.size) (b:d∈Vz ops j):j≠p/\p∈predsAt ops j:=by grind [noWar]
def St.fill {g:Cx} {m f:rC} {b c:aaa} {h h':AHeap} {a:Act} {w w':World} (s:St W0 g N m b h a w) (R':Rel (W0.add g.ex) f h' w') (i:ZK h.next m f) (l:h.next<=h'.next) {d:Option Tmp} {v v':Value} (n:VR h'.next f v v')
  (hf:∀k u,c.get k=some u->(d=some k/\u=v/\k<N)\/(d≠some k/\b.get k=some u)):St W0 g N f c h' (a.put d v') w':=by
 have F:=s.frame.mono l i;refine⟨R',fun k u o=>?_,?_,?_,?_⟩
 .rcases hf k u o with ⟨rfl, rfl, p⟩ | ⟨hd, hg⟩
  .exact⟨v',by simp[Act.put,s.size,p],n⟩
  .obtain ⟨u', j, h2⟩ := F k u hg
   refine⟨u',?_,h2⟩;cases d with
   |none=>exact j
   |some d=>
    have:d≠k:=fun e=>hd (by rw[e]);simp[Act.put,this,j]
 .cases d<;>exact s.defers
 .cases d<;>simp[Act.put,s.size]
 .exact s.round
theorem afW {n:Cx} {nn:Nat} {m:rC} {fr:aaa} {h:AHeap} {a:Act} {w:World} (s:St W0 n N m fr h a w) {o:Oper} {g:FuncId} {args:List Value} {fn:Func} {c:Code} (d:calleeOf fr o=some (g,args)) (hg:Good P g fn c)
  {R:Value->AHeap->Prop} (C:AC P W0 g args h R) {A:Act->World->Prop} {K:Exit->Act->World->Prop}
  (G:∀v v' p h' w',ZK h.next m p->h.next<=h'.next->Rel (W0.add n.ex) p h' w'->VR h'.next p v v'->R v h'->A (a.put o.dst v') w'):o.wpIn (Xc n.ro) nn P a w A K:=by
 unfold calleeOf at d;split at d
 .rename_i f as ats q
  split at d
  .rename_i B first cap vs hf r
   injection d with d;simp only[Og]at d;obtain⟨rfl,rfl⟩:=d;have k:=Ns s.frame hf;have t:=PZ s.frame r;refine ph (fun c e=>by grind) ?_
   have key:∃b cap',a.eval f=.func (.func B) b cap'/\AK h.next m first.toList b.toList/\AK h.next m cap.toList cap'.toList:=by
    generalize a.eval f=x at k;cases k with
    |flat hf=>grind [flat]
    |func H h2 h3 D=>
     exact⟨_,_,rfl,⟨pw,fun i v v' e e'=>h3 i v v' (by simpa using e) pw⟩,⟨pw,fun i v v' e e'=>D i v v' (by simpa using e) pw⟩⟩
   obtain⟨b,cap',u,y,z⟩:=key
   have l:(execOp a.eval o).run P w=.ok (.enter B ((b.toList++as.toList.map a.eval++cap'.toList).toArray)) w:=by
    have E:(b++as.map a.eval++cap')=(b.toList++as.toList.map a.eval++cap'.toList).toArray:=by
     apply dU.1;simp
    simp only[execOp,q,resolve,u,Deferred.ofValue,Sem.run_bind,Sem.run_pure,Result.andThen_ok,invoke,callFunc,run_program,hg.func,hg.name,Q9,if_false,hg.body,jV,E]
   rw[l]
   have j:=C n.ex m w (b.toList++as.toList.map a.eval++cap'.toList) s.rel ((y.append t).append z)
   refine⟨(fun F=>by cases F),qN (j.mono ?_)⟩
   grind
  .cases d
 .cases d
theorem YF {l:Cx} {nn:Nat} {Q:aaa->AHeap->Prop} {K:Exit->Act->World->Prop} {fuel:Nat}
  (V:∀(t:DT) (rest c:II) (fr:aaa) (h:AHeap) (b:Array Bool) (m:rC) (a:Act) (w:World),
   OT ops.size b=fuel->b.size=ops.size->Inv P N ops rest c fr h b->ui ops rest t=true->DW P W0 N ops Q t c fr h->St W0 l N m (delAll fr (BG ops c b)) h a w->
   (∀n fr' h' a' w',ZK h.next m n->h.next<=h'.next->St W0 l N n fr' h' a' w'->Q fr' h'->K .normal a' w')->wpAnyIn (Xc l.ro) nn P .any ops K fuel b a w)
  {t:DT} {rest c:II} {fr:aaa} {h:AHeap} {b:Array Bool} {m:rC} {a:Act} {w:World}
  (hc:OT ops.size b=fuel+1) (hs:b.size=ops.size) (x:Inv P N ops rest c fr h b) (y:ui ops rest t=true) (W:DW P W0 N ops Q t c fr h) (s:St W0 l N m (delAll fr (BG ops c b)) h a w)
  (X:∀n fr' h' a' w',ZK h.next m n->h.next<=h'.next->St W0 l N n fr' h' a' w'->Q fr' h'->K .normal a' w')
  {j:Nat} (Y:j∈Region.ready .any ops b) (z:j∈c):wpOpIn (Xc l.ro) nn P ops K j (wpAnyIn (Xc l.ro) nn P .any ops K fuel (b.setIfInBounds j true)) a w:=by
 obtain⟨Z,C,o,M,O⟩:=zG Y;have D:OT ops.size (b.setIfInBounds j true)=fuel:=by grind [u7]
 have hs':(b.setIfInBounds j true).size=ops.size:=pw;have ag:j∉rest:=(x.OF j z).2.1;have E:Inv P N ops rest c fr h (b.setIfInBounds j true):=by
  refine⟨fun i hi aj=>?_,fun i hi=>⟨?_,(x.Cf i hi).2⟩,x.OF,fun p R F=>?_⟩
  .grind [J3,Inv.every]
  .grind [J3,Inv.Cf]
  grind [J3,Inv.holds]
 have e:∀t∈o.looksAt ops,(delAll fr (BG ops c b)).get t=fr.get t:=by
  intro t ht;rw[W6,if_neg];intro hh;obtain⟨p,R,F,G⟩:=WN.1 hh;obtain⟨_,_,_,_,H⟩:=x.OF p R;obtain⟨al,S⟩:=Bz H G C (by grind [YZ])
  grind [QX]
 have g:∀v,(∀d,o.dst=some d->fr.get d=some v)->∀k u,(delAll fr (BG ops c (b.setIfInBounds j true))).get k=some u->
   (o.dst=some k/\u=v/\k<N)\/(o.dst≠some k/\(delAll fr (BG ops c b)).get k=some u):=by
  intro v T k u q;rw[W6]at q;split at q
  .cases q
  .rename_i hk
   by_cases hd:o.dst=some k
   .grind [Inv.OF,Rs]
   grind [W6,WN,J3,Rs]
 have r:=x.holds j z Z;unfold Holds at r;rw[M]at r;simp only[]at r;unfold wpOpIn;rw[M];simp only[];split at r
 .rename_i hw
  obtain⟨v,A,I⟩:=r;rw[if_pos (PV s.frame e hw)];obtain⟨n,v',w',f,R',B,J,T⟩:=stepOp_does (P:=P) (a:=a) s.rel s.frame (by rw[yE e];exact A);have U:=s.fill R' B J T (g v I);have:=V t rest c fr h _ n (a.put o.dst v') w' D hs' E y W U fun m2 L h2 a2 w2 e1 e2 e3 e4=>X m2 L h2 a2 w2 (B.trans e1 J) (VU J e2) e3 e4;refine ph (Nw A) ?_;rcases f with f|⟨f,rfl⟩<;>rw[f]<;>exact this
 .rename_i hw
  rw[if_neg (by rw[PV s.frame e hw];simp)];have U:=s.fill s.rel (.refl _ _) (Ny _) (v:=Yx) (v':=undef) (.tuple rfl (fun i v v' h=>by simp at h)) (g Yx r);refine⟨fun _ _=>trivial,?_⟩
  grind
 grind
theorem afX {F:Cx} {nn:Nat} (ok:CK ops) {Q:aaa->AHeap->Prop} {K:Exit->Act->World->Prop} {fuel:Nat}
  (ih:∀(t:DT) (rest f:II) (fr:aaa) (h:AHeap) (b:Array Bool) (m:rC) (a:Act) (w:World),
   OT ops.size b=fuel->b.size=ops.size->Inv P N ops rest f fr h b->ui ops rest t=true->DW P W0 N ops Q t f fr h->St W0 F N m (delAll fr (BG ops f b)) h a w->
   (∀E fr' h' a' w',ZK h.next m E->h.next<=h'.next->St W0 F N E fr' h' a' w'->Q fr' h'->K .normal a' w')->wpAnyIn (Xc F.ro) nn P .any ops K fuel b a w)
  {t other:DT} {j:Nat} {pre:II} {rest f:II} {fr:aaa} {h:AHeap} {b:Array Bool} {m:rC} {a:Act} {w:World}
  (hc:OT ops.size b=fuel+1) (hs:b.size=ops.size) (J:Inv P N ops rest f fr h b) (W:j∈rest) (X:∀q∈pre,q∈predsAt ops j)
  (B:ui ops (rest.filter fun x=>x !=j) t=true) (r:DW P W0 N ops Q (.ch j pre t other) f fr h) (s:St W0 F N m (delAll fr (BG ops f b)) h a w)
  (hK:∀E fr' h' a' w',ZK h.next m E->h.next<=h'.next->St W0 F N E fr' h' a' w'->Q fr' h'->K .normal a' w')
  (hj:j∈Region.ready .any ops b):wpOpIn (Xc F.ro) nn P ops K j (wpAnyIn (Xc F.ro) nn P .any ops K fuel (b.setIfInBounds j true)) a w:=by
 obtain⟨hu,Y,o,ho,av⟩:=zG hj;have L:∀x,x∈rest.filter (fun x=>x !=j)↔x∈rest/\x≠j:=fun x=>by simp
 have M:OT ops.size (b.setIfInBounds j true)=fuel:=by grind [u7]
 have hs':(b.setIfInBounds j true).size=ops.size:=pw;have ay:∀p∈f,p≠j:=fun p n e=>(J.OF p n).2.1 (e▸W);have Z:∀p∈f,KA b p=true->p∈f.filter fun p=>!pre.contains p:=by grind [QX]
 have l:∀t∈o.looksAt ops,(delAll fr (BG ops f b)).get t=fr.get t:=by
  intro t ht;rw[W6,if_neg];intro hh;obtain⟨p,n,C,az⟩:=WN.1 hh;obtain⟨_,_,_,_,aC⟩:=J.OF p n
  grind [Bz,YZ,QX]
 have hinv:∀fr' h',(∀p∈f.filter (fun p=>!pre.contains p),KA (b.setIfInBounds j true) p=true->Holds P ops fr' h' p)->Inv P N ops (rest.filter fun x=>x !=j) (f.filter fun p=>!pre.contains p) fr' h' (b.setIfInBounds j true):=by
  intro fr' h' z;refine⟨fun i' O aD=>?_,fun i' O=>⟨?_,(J.Cf i' ((L i').1 O).1).2⟩,fun p n=>?_,z⟩
  .grind [J3,Inv.every]
  .grind [J3,Inv.Cf]
  .obtain ⟨a1, a2, a3, a4, a5⟩ := J.OF p (EP.1 n).1
   grind
 have y:∀{v:Value} {fr':aaa},putDst N fr o.dst v=some fr'->∀k u,(delAll fr' (BG ops (f.filter fun p=>!pre.contains p) (b.setIfInBounds j true))).get k=some u->
   (o.dst=some k/\u=v/\k<N)\/(o.dst≠some k/\(delAll fr (BG ops f b)).get k=some u):=by
  intro v fr' n k u G;obtain⟨H,ag⟩:=BV n;rw[W6]at G;split at G
  .cases G
  grind [W6,WN,J3]
 simp only[DW,ho]at r;replace r:=r.1;unfold wpOpIn;rw[ho];simp only[];split at r
 .exact r.elim
 .rename_i hw
  rw[if_neg (by rw[PV s.frame l hw];simp)];split at r
  .exact r.elim
  .rename_i fr' n
   obtain⟨H,ag⟩:=BV n;have V:=s.fill s.rel (.refl _ _) (Ny _) (v:=Yx) (v':=undef) (.tuple rfl (fun i v v' h=>by simp at h)) (y n);refine⟨fun _ _=>trivial,ih t _ _ fr' h _ m _ w M hs' (hinv fr' h fun p aj C=>?_) B r V hK⟩;rw[J3 hu]at C;simp at C;have R:=(EP.1 aj).1;obtain⟨a1,a2,a3,_⟩:=J.OF p R;refine(J.holds p R C.1).congr (fun t ht=>H t fun e=>?_) (fun d hd=>H d fun e=>?_)
   .grind [CK.pair,Rs,QX]
   .exact(ok.pair j p d Y a1 (Hs C.2) hd).2 (by grind [Rs])
 .rename_i hw
  rw[if_pos (PV s.frame l hw)];split at r
  .obtain ⟨g, args, fn, c, al, I, aq⟩ := r
   refine afW s (by rw[Wf l];exact al) I aq ?_;rintro v v' E h' w' D S R' hv ⟨fr',n,z,T⟩;have V:=s.fill R' D S hv (y n)
   grind [HoldsAll.mem,ZK.trans]
  .split at r
   .exact r.elim
   .rename_i v h' U
    split at r
    .exact r.elim
    .rename_i fr' n
     obtain⟨z,T⟩:=r;obtain⟨E,v',w',A,R',D,S,hv⟩:=stepOp_does (P:=P) (a:=a) s.rel s.frame (by rw[yE l];exact U);have V:=s.fill R' D S hv (y n);have:=ih t _ _ fr' h' _ E (a.put o.dst v') w' M hs' (hinv fr' h' fun p n _=>z.mem p n) B T V fun m2 ar h2 a2 w2 e1 e2 e3 e4=>hK m2 ar h2 a2 w2 (D.trans e1 S) (VU S e2) e3 e4;refine ph (Nw U) ?_;rcases A with A|⟨A,rfl⟩<;>rw[A]<;>exact this
theorem iR {Q:aaa->AHeap->Prop} {rest a:II} {fr:aaa} {h:AHeap} {j:Nat}:∀{t:DT} {cs:II},j∈cs->treeOK ops rest cs t=true->DW P W0 N ops Q t a fr h->isAlt t=true->
  ∃pre b other,(∀q∈pre,q∈predsAt ops j)/\ui ops (rest.filter fun x=>x !=j) b=true/\DW P W0 N ops Q (.ch j pre b other) a fr h:=by
 intro t
 induction t with
 |done=>intro cs _ _ _ ha;cases ha
 |fl i t _=>intro cs _ _ _ ha;cases ha
 |no=>grind [treeOK]
 |ch i pre t other _ c=>
  intro cs d e f _
  grind [treeOK,ui,DW]
theorem gG {M:Cx} {nn:Nat} (ok:CK ops) {Q:aaa->AHeap->Prop} {K:Exit->Act->World->Prop}:∀(fuel:Nat) (t:DT) (rest c:II) (fr:aaa) (h:AHeap) (b:Array Bool) (m:rC) (a:Act) (w:World),
  OT ops.size b=fuel->b.size=ops.size->Inv P N ops rest c fr h b->ui ops rest t=true->DW P W0 N ops Q t c fr h->St W0 M N m (delAll fr (BG ops c b)) h a w->
  (∀Z fr' h' a' w',ZK h.next m Z->h.next<=h'.next->St W0 M N Z fr' h' a' w'->Q fr' h'->K .normal a' w')->
  wpAnyIn (Xc M.ro) nn P .any ops K fuel b a w:=by
 intro fuel
 induction fuel with
 |zero=>
  intro t
  induction t with
  |no=>grind [ui,isTop]
  |done=>
   intro rest c fr h b m a w r hs q g f s z;have y:=sk r;have hh:BG ops c b=[]:=by
    apply QD.2;intro t g;obtain⟨p,A,H,_⟩:=WN.1 g;rw[y p (q.OF p A).1]at H;cases H
   rw[hh]at s;refine⟨?_,z m fr h a w (.refl _ _) (Ny _) s f⟩;apply QD.2;intro i hi;obtain⟨h1,h2,_⟩:=zG hi
   grind
  |fl i t _=>
   intro rest c fr h b m a w r hs q g f s z;have y:=sk r;simp only[ui,treeOK,bC,aef,decide_eq_true_eq]at g;have:=q.Cf i g.2.1.1.1.1
   grind
  |ch i pre t other _ _=>
   intro rest c fr h b m a w r hs q g f s z;have y:=sk r;simp only[ui,treeOK,bC,aef,decide_eq_true_eq]at g;have:=q.Cf i g.2.1.1.1.1.1.1
   grind
 |succ fuel R=>
  intro t
  induction t with
  |no=>grind [ui,isTop]
  |done=>
   intro rest c fr h b m a w r hs q g f s z;have S:rest=[]:=by grind [ui,treeOK]
   refine⟨fun hr=>?_,fun j I=>?_⟩
   .grind [QS,OT,List.countP_eq_zero]
   .obtain ⟨H, C, _⟩ := zG I
    rcases q.every j C H with D|E
    .exact YF R r hs q g f s z I D
    grind
  |fl i t aq=>
   intro rest c fr h b m a w r hs q g f s z;simp only[ui,treeOK,bC,aef,decide_eq_true_eq]at g;obtain⟨_,⟨⟨⟨T,ar⟩,U⟩,ag⟩,l⟩:=g;have V:ui ops (rest.filter fun x=>x !=i) t=true:=by grind [ui]
   have W:∀p∈predsAt ops i,p∉rest:=fun p A=>by grind
   have hi:=q.Cf i T;have J:ops[i]?=some ops[i]:=pM hi.2;generalize ops[i]'hi.2=o at J
   have L:noWar ops i=true:=by grind [lV]
   have X:∀{fr':aaa} {v:Value},putDst N fr o.dst v=some fr'->St W0 M N m (delAll fr' (BG ops (i::c) b)) h a w:=by
    intro fr' v A;obtain⟨B,F⟩:=BV A;refine⟨s.rel,fun k u hk=>s.frame k u ?_,s.defers,s.size,s.round⟩
    grind [W6,WN,Rs]
   simp only[DW,J]at f;split at f
   .exact f.elim
   .rename_i hw
    split at f
    .exact f.elim
    .rename_i fr' A
     obtain⟨B,F⟩:=BV A;have n:∀t∈o.looksAt ops,fr'.get t=fr.get t:=fun t g=>B t fun e=>(Bz L (by rw[Rs J];exact e) hi.2 (by grind [YZ])).1 rfl;have hH:Holds P ops fr' h i:=by grind [Holds,Us]
     grind [Inv.yW]
   .rename_i hw
    split at f
    .exact f.elim
    .rename_i v h' Y
     obtain⟨rfl,f⟩:=f;split at f
     .exact f.elim
     .rename_i fr' A
      obtain⟨B,F⟩:=BV A;have n:∀t∈o.looksAt ops,fr'.get t=fr.get t:=fun t g=>B t fun e=>(Bz L (by rw[Rs J];exact e) hi.2 (by grind [YZ])).1 rfl;have hH:Holds P ops fr' h' i:=by
       unfold Holds;rw[J];simp only[];rw[Us n,hw];exact⟨v,by rw[yE n];exact Y,fun d hd=>(F d hd).1⟩
      grind [Inv.yW]
  |ch i pre t other _ _=>
   intro rest c fr h b m a w r hs q g f s z;refine⟨fun hr=>?_,fun j I=>?_⟩
   .grind [QS,OT,List.countP_eq_zero]
   .obtain ⟨H, C, oj, av, aj⟩ := zG I
    rcases q.every j C H with D|E
    .exact YF R r hs q g f s z I D
    .have G : j ∈ xx ops rest := PF.2 ⟨E, fun p A U => by grind [QX, Inv.Cf]⟩
     have l:=g;simp only[ui,bC]at l;obtain⟨al,t',O,h1,h2,h3⟩:=iR G l.2 f rfl;exact afX ok R r hs q E h1 h2 h3 s z I
theorem ud.draw {i:Nat} {ol:List Oper} {Q:Exit->aaa->AHeap->Prop} (l:P.follows .mixedOrders=true) (t:DT) (d:aaG ol.toArray t=true)
  (hd:DW P W0 N ol.toArray (Q .normal) t [] fr h):ud P W0 N (.region i ol.toArray true) fr h Q:=by
 intro n nn m a w s K o;obtain⟨ok,b⟩:=CK.of d;refine wpIn_region_any l ?_;have e:∀j,j<ol.toArray.size->KA (Array.replicate ol.toArray.size false) j=true:=by
  intro j c;have f:j<ol.length:=pw;simp[KA,Ry,f]
 have s0:St W0 n N m (delAll fr (BG ol.toArray [] (Array.replicate ol.toArray.size false))) h a w.drew:=⟨s.rel.drew,s.frame,s.defers,s.size,s.round⟩;refine gG ok ol.toArray.size t (List.range ol.toArray.size) [] fr h (Array.replicate ol.toArray.size false) m a w.drew ?_ Ma ?_ b hd s0 ?_
 .grind [OT,List.countP_eq_length]
 .refine⟨fun j c _=>.inr (ZT.2 c),fun j c=>⟨e j (ZT.1 c),ZT.1 c⟩,fun p g=>by simp at g,fun p g=>by simp at g⟩
 .intro q fr' h' a' w' k r u v
  exact o [] .normal q fr' h' a' w' k r u.nil v
end
end Go.Fw
