/- A text. -/
import Derived.OrdersIn
import Derived.Orders
import Derived.Test.YtkccdnmaaelbiaaGreatFwRules
set_option linter.all false
set_option maxRecDepth 99999
set_option maxHeartbeats 9999999
namespace Go.Fw
section
variable {P : Program} {W0 : Ac} {N : Nat} {ops : Array Oper} {fr : EP} {h : AHeap}
def Ml {fr fr':EP} {x:Operand} (a:∀t,x=.tmp t->fr'.get t=fr.get t):evalO fr' x=evalO fr x:=by
 cases x with
 |tmp t=>exact a t rfl
 |_=>rfl
def mF {fr fr':EP}:∀{l:List Operand},(∀t,Operand.tmp t∈l->fr'.get t=fr.get t)->evalL fr' l=evalL fr l
 |[],_=>rfl
 |x::r,a=>by
  simp only[evalL];rw[Ml (fun t e=>a t (by simp[e])),mF (fun t e=>a t (by simp[e]))]
def QO {fr fr':EP}:∀{l:List (Nat×Operand)},(∀t,Operand.tmp t∈l.map (·.2)->fr'.get t=fr.get t)->evalP fr' l=evalP fr l
 |[],_=>rfl
 |(i,x)::r,a=>by
  simp only[evalP];rw[Ml (fun t e=>a t (by simp[e])),QO (fun t e=>a t (by simp at e ⊢;exact .inr e))]
def zA {fr fr':EP} {x:Option Operand} (a:∀t,x=some (.tmp t)->fr'.get t=fr.get t):evalM fr' x=evalM fr x:=by
 cases x with
 |none=>rfl
 |some x=>simp only[evalM];rw[Ml (fun t e=>a t (by rw[e]))]
def xf {o:Oper} {t:Tmp} (h:Operand.tmp t∈o.op.operands.toList):t∈o.looksAt ops:=by
 unfold Oper.looksAt;refine KF _ (List.mem_filterMap.2 ⟨_,h,rfl⟩)
def TW {fr fr':EP} {o:Oper} (g:∀t,t∈o.looksAt ops->fr'.get t=fr.get t):stepOp P fr' h o=stepOp P fr h o:=by
 have d:∀t,Operand.tmp t∈o.op.operands.toList->fr'.get t=fr.get t:=fun t j=>g t (xf j);unfold stepOp;cases m:o.op<;>rw[m]at d<;>simp only[Op.operands]at d
 case call c=>
  cases c with
  |mk callee args ats=>
   cases callee with
   |builtin b=>
    simp only[Call.operands]at d;simp only[];rw[mF (fun t e=>d t (by simpa using e))]
   |_=>rfl
 case pick c a b=>
  simp only[];rw[Ml (x:=c) (fun t e=>d t (by simp[e]))];split
  .rename_i t _
   cases t
   .rw[show(bif false then a else b)=b from rfl,Ml (x:=b) (fun t e=>d t (by simp[e]))]
   .rw[show(bif true then a else b)=a from rfl,Ml (x:=a) (fun t e=>d t (by simp[e]))]
  .rfl
 case build t ps=>simp only[];rw[QO (fun t e=>d t (by simpa using e))]
 case buildSlice t n ps=>simp only[];rw[QO (fun t e=>d t (by simpa using e))]
 case makeFunc f a b=>simp only[];rw[mF (l:=a.toList) (fun t e=>d t (by simp at e ⊢;exact .inl e)),mF (l:=b.toList) (fun t e=>d t (by simp at e ⊢;exact .inr e))]
 case slice t x l hh mm=>
  simp only[];rw[Ml (x:=x) (fun t e=>d t (by simp[e])),zA (x:=l) (fun t e=>d t (by simp[e])),zA (x:=hh) (fun t e=>d t (by simp[e])),zA (x:=mm) (fun t e=>d t (by simp[e]))]
 case lookup t x i ok=>
  simp only[];rw[Ml (x:=x) (fun t e=>d t (by simp[e])),Ml (x:=i) (fun t e=>d t (by simp[e]))]
 case mapUpdate t x k y=>
  simp only[];rw[Ml (x:=x) (fun t e=>d t (by simp[e])),Ml (x:=k) (fun t e=>d t (by simp[e])),Ml (x:=y) (fun t e=>d t (by simp[e]))]
 all_goals first
  |rfl
  |(rename_i x;simp only[];rw[Ml (x:=x) (fun t e=>d t (by simp[e]))];done)
  |(rename_i _ x;simp only[];rw[Ml (x:=x) (fun t e=>d t (by simp[e]))];done)
  |(rename_i x _;simp only[];rw[Ml (x:=x) (fun t e=>d t (by simp[e]))];done)
  |(rename_i _ x _;simp only[];rw[Ml (x:=x) (fun t e=>d t (by simp[e]))];done)
  |(rename_i _ _ x;simp only[];rw[Ml (x:=x) (fun t e=>d t (by simp[e]))];done)
  |(rename_i _ x y;simp only[];rw[Ml (x:=x) (fun t e=>d t (by simp[e])),Ml (x:=y) (fun t e=>d t (by simp[e]))];done)
  |(rename_i _ _ x y _;simp only[];rw[Ml (x:=x) (fun t e=>d t (by simp[e])),Ml (x:=y) (fun t e=>d t (by simp[e]))];done)
def TX {fr fr':EP} {o:Oper} (a:∀t,t∈o.looksAt ops->fr'.get t=fr.get t):wantA ops fr' o=wantA ops fr o:=by
 unfold wantA;cases hg:o.guard with
 |none=>rfl
 |some p=>
  obtain⟨j,w⟩:=p;simp only[];cases b:(ops[j]?).bind (·.dst)with
  |none=>rfl
  |some d=>
   simp only[];rw[a d (by unfold Oper.looksAt;rw[hg];simp[b])]
def Ih {fr fr':EP} {o:Oper} (b:∀t,t∈o.looksAt ops->fr'.get t=fr.get t):calleeOf fr' o=calleeOf fr o:=by
 have a:∀t,Operand.tmp t∈o.op.operands.toList->fr'.get t=fr.get t:=fun t d=>b t (xf d);unfold calleeOf
 cases g:o.op<;>try rfl
 rename_i c;rw[g]at a;cases c with
 |mk callee args ats=>
  cases callee with
  |value f=>
   simp only[Op.operands,Call.operands]at a;simp only[];rw[Ml (x:=f) (fun t e=>a t (by simp[e])),mF (l:=args.toList) (fun t e=>a t (by simp;exact .inr (by simpa using e)))]
  |_=>rfl
inductive DT where
 |done
 |no
 |fl (i:Nat) (t:DT)
 |ch (i:Nat) (pre:wi) (t other:DT)
def ES (o:Oper):wi:=(o.after.toList.filter fun e=>Region.binds .any e).map (·.on)
def predsAt (ops:Array Oper) (i:Nat):wi:=match ops[i]? with|some o=>ES o|none=>[]
def tb (ops:Array Oper) (i:Nat):Option Tmp:=match ops[i]? with|some o=>o.dst|none=>none
def FN (ops:Array Oper) (i:Nat):List Tmp:=match ops[i]? with|some o=>o.looksAt ops|none=>[]
def isFloat (o:Oper):Bool:=
 match o.op with
 |.move _|.assign _|.pick ..|.load ..|.nilCheck _|.binOp ..|.unOp ..|.makeInterface ..|.makeFunc ..|.slice ..|.fieldAddr ..|.field ..|.indexAddr ..|.index ..|.extract ..|.build ..=>true
 |.convert _ _ _=>true
 |.call {callee:=.builtin .len,..}|.call {callee:=.builtin .min,..}|.call {callee:=.builtin .max,..}=>true
 |_=>false
def noWar (ops:Array Oper) (i:Nat):Bool:=
 match tb ops i with
 |some d=>(List.range ops.size).all fun j=>!(FN ops j).contains d||(j !=i&&(predsAt ops j).contains i)
 |none=>true
def EH (ops:Array Oper) (i:Nat):Bool:=
 match ops[i]? with
 |some o=>isFloat o&&noWar ops i
 |none=>false
def J1 (ops:Array Oper) (rest:wi):wi:=rest.filter fun x=>(predsAt ops x).all fun p=>!rest.contains p
def isTop:DT->Bool
 |.no=>false
 |_=>true
def isAlt:DT->Bool
 |.no=>true
 |.ch ..=>true
 |_=>false
def treeOK (ops:Array Oper):wi->wi->DT->Bool
  |rest,_,.done=>rest.isEmpty
  |_,cs,.no=>cs.isEmpty
  |rest,_,.fl i t=>rest.contains i&&EH ops i&&(predsAt ops i).all (fun p=>!rest.contains p)&&isTop t&&treeOK ops (rest.filter fun x=>x !=i) (J1 ops (rest.filter fun x=>x !=i)) t
  |rest,cs,.ch i pre t other=>rest.contains i&&(predsAt ops i).all (fun p=>!rest.contains p)&&pre.all (fun q=>(predsAt ops i).contains q)&&
      isTop t&&treeOK ops (rest.filter fun x=>x !=i) (J1 ops (rest.filter fun x=>x !=i)) t&&isAlt other&&treeOK ops rest (cs.filter fun x=>x !=i) other
def Ip (ops:Array Oper) (rest:wi) (t:DT):Bool:=isTop t&&treeOK ops rest (J1 ops rest) t
def Ap (ops:Array Oper) (t:DT):Bool:=
 (List.range ops.size).all (fun i=>(predsAt ops i).all fun p=>Nat.blt p i)&&
 (List.range ops.size).all (fun i=>(List.range ops.size).all fun j=>i==j||
  match tb ops j with
  |some d=>(!(FN ops i).contains d||(predsAt ops i).contains j||(predsAt ops j).contains i)&&tb ops i !=some d
  |none=>true)&&
 Ip ops (List.range ops.size) t
def Holds (P:Program) (ops:Array Oper) (fr:EP) (h:AHeap) (p:Nat):Prop:=
  match ops[p]? with
  |some o=>match wantA ops fr o with
    |some true=>∃v,stepOp P fr h o=some (v,h)/\∀d,o.dst=some d->fr.get d=some v
    |some false=>∀d,o.dst=some d->fr.get d=some Hx
    |none=>False
  |none=>False
def HoldsAll (P:Program) (ops:Array Oper) (fr:EP) (h:AHeap):wi->Prop
 |[]=>True
 |p::r=>Holds P ops fr h p/\HoldsAll P ops fr h r
def DW (P:Program) (W0:Ac) (N:Nat) (ops:Array Oper) (Q:EP->AHeap->Prop):DT->wi->EP->AHeap->Prop
  |.done,_,fr,h=>Q fr h
  |.no,_,_,_=>True
  |.fl i t,a,fr,h=>
    match ops[i]? with
    |none=>False
    |some o=>
      match wantA ops fr o with
      |none=>False
      |some false=>match putDst N fr o.dst Hx with
        |none=>False
        |some fr'=>DW P W0 N ops Q t (i::a) fr' h
      |some true=>match stepOp P fr h o with
          |none=>False
          |some (v,h')=>h'=h/\match putDst N fr o.dst v with
            |none=>False
            |some fr'=>DW P W0 N ops Q t (i::a) fr' h
  |.ch i pre t other,a,fr,h=>
    (match ops[i]? with
    |none=>False
    |some o=>
      match wantA ops fr o with
      |none=>False
      |some false=>match putDst N fr o.dst Hx with
        |none=>False
        |some fr'=>DW P W0 N ops Q t (a.filter fun p=>!pre.contains p) fr' h
      |some true=>
          match j5 o with
          |true=>∃g args fn c,calleeOf fr o=some (g,args)/\Good P g fn c/\AC P W0 g args h fun v h'=>∃fr',putDst N fr o.dst v=some fr'/\
              HoldsAll P ops fr' h' (a.filter fun p=>!pre.contains p)/\DW P W0 N ops Q t (a.filter fun p=>!pre.contains p) fr' h'
          |false=>match stepOp P fr h o with
            |none=>False
            |some (v,h')=>match putDst N fr o.dst v with
              |none=>False
              |some fr'=>HoldsAll P ops fr' h' (a.filter fun p=>!pre.contains p)/\DW P W0 N ops Q t (a.filter fun p=>!pre.contains p) fr' h')/\
    DW P W0 N ops Q other a fr h
def HoldsAll.mem {fr:EP} {h:AHeap}:∀{l:wi},HoldsAll P ops fr h l->∀p∈l,Holds P ops fr h p
 |[],_,p,a=>by simp at a
 |q::r,hh,p,a=>by
  rcases aH.1 a with rfl|a
  .exact hh.1
  .exact HoldsAll.mem hh.2 p a
def delAll (fr:EP):List Tmp->EP
 |[]=>fr
 |d::r=>(delAll fr r).del d
def V1 (fr:EP) (k:Nat):∀(l:List Tmp),(delAll fr l).get k=if k∈l then none else fr.get k
 |[]=>by simp[delAll]
 |d::r=>by
  simp only[delAll,Trie.CL,V1 fr k r,aH];by_cases h:k=d<;>by_cases h2:k∈r<;>simp[h,h2]
def TN (listed:Array Bool) (i:Nat):Bool:=!listed.getD i true
def Ff {a:Array Bool} {i j:Nat} (hi:TN a i=true):TN (a.setIfInBounds i true) j=(TN a j&&j !=i):=by
 have b:i<a.size:=by
  rcases uj i a.size with h|h
  .exact h
  .simp[TN,Vj h]at hi
 unfold TN;simp only[cP,Ce];by_cases h:i=j
 .subst h;simp[b]
 .simp[h,Hn h]
def PA (n:Nat) (a:Array Bool):Nat:=(List.range n).countP (TN a)
def Tv {p q:Nat->Bool} {i:Nat}:∀{l:wi},l.Nodup->i∈l->p i=true->q i=false->(∀j,j≠i->q j=p j)->l.countP q+1=l.countP p
 |[],_,h,_,_,_=>by simp at h
 |x::r,a,h,d,f,b=>by
  rw[tS]at a;by_cases c:x=i
  .subst c
   have:r.countP q=r.countP p:=List.countP_congr (fun y g=>by rw[b y (fun e=>a.1 (e▸g))]);simp[d,f,this]
  .have hi : i ∈ r := by rcases aH.1 h with e | e; exact absurd e.symm c; exact e
   have:=Tv a.2 hi d f b;simp only[List.countP_cons,b x c];omega
def JI {n i:Nat} {a:Array Bool} (hi:i<n) (b:TN a i=true):PA n (a.setIfInBounds i true)+1=PA n a:=by
 refine Tv SJ (vq.2 hi) b ?_ ?_
 .rw[Ff b];simp
 .intro j c;rw[Ff b];simp[c]
def PF {n:Nat} {a:Array Bool} (h:PA n a=0) (i:Nat) (hi:i<n):TN a i=false:=by
 unfold PA at h;rw[Wl]at h;have:=h i (vq.2 hi);simpa using this
def Q9 {i:Nat} {o:Oper} (h:ops[i]?=some o):predsAt ops i=ES o:=by simp[predsAt,h]
def Ag {i:Nat} {o:Oper} (h:ops[i]?=some o):tb ops i=o.dst:=by simp[tb,h]
def mI {i:Nat} {o:Oper} (h:ops[i]?=some o):FN ops i=o.looksAt ops:=by simp[FN,h]
structure qV (ops:Array Oper):Prop where
 preds:∀i p,i<ops.size->p∈predsAt ops i->p<i
 pair:∀i j d,i<ops.size->j<ops.size->i≠j->tb ops j=some d->(d∈FN ops i->j∈predsAt ops i\/i∈predsAt ops j)/\tb ops i≠some d
def qV.of {t:DT} (h:Ap ops t=true):qV ops/\Ip ops (List.range ops.size) t=true:=by
 simp only[Ap,SH,jE,vq,beq_iff_eq,Z0,UI,Nat.blt_eq]at h;obtain⟨⟨b,c⟩,f⟩:=h;refine⟨⟨fun i p hi g=>b i hi p g,fun i j d hi k a l=>?_⟩,f⟩;have:=c i hi j k;rcases this with e|this
 .exact absurd e a
 .rw [l] at this
  simp only[SH,Z0,uV,decide_eq_false_iff_not,decide_eq_true_eq,bne_iff_ne]at this;refine⟨fun m=>?_,this.2⟩;rcases this.1 with(e|e)|e
  .exact absurd m e
  .exact .inl e
  .exact .inr e
def RP {rest:wi} {x:Nat}:x∈J1 ops rest↔x∈rest/\∀p∈predsAt ops x,p∉rest:=by
 simp only[J1,sX,jE,uV,UI,decide_eq_false_iff_not]
structure Inv (P:Program) (N:Nat) (ops:Array Oper) (rest pend:wi) (fr:EP) (h:AHeap) (listed:Array Bool):Prop where
 every:∀i,i<ops.size->TN listed i=true->i∈pend\/i∈rest
 Y4:∀i∈rest,TN listed i=true/\i<ops.size
 Fi:∀p∈pend,p<ops.size/\p∉rest/\(∀q∈predsAt ops p,q∉rest)/\(∀d,tb ops p=some d->d<N)/\noWar ops p=true
 holds:∀p∈pend,TN listed p=true->Holds P ops fr h p
def AW (ops:Array Oper) (b:wi) (a:Array Bool):List Tmp:=(b.filter (TN a)).filterMap (tb ops)
def L3 {b:wi} {a:Array Bool} {t:Tmp}:t∈AW ops b a↔∃p∈b,TN a p=true/\tb ops p=some t:=by
 simp only[AW,List.mem_filterMap,sX];constructor
 .rintro⟨p,⟨c,h2⟩,h3⟩;exact⟨p,c,h2,h3⟩
 .rintro⟨p,c,h2,h3⟩;exact⟨p,⟨c,h2⟩,h3⟩
def OB {fr fr':EP} {d:Option Tmp} {v:Value} (h:putDst N fr d v=some fr'):(∀k,d≠some k->fr'.get k=fr.get k)/\∀k,d=some k->fr'.get k=some v/\k<N:=by
 cases d with
 |none=>simp[putDst]at h;subst h;exact⟨fun _ _=>rfl,fun _ h=>by cases h⟩
 |some d=>
  simp only[putDst]at h;split at h
  case isFalse=>cases h
  rename_i U8;simp at h;subst h;refine⟨fun k a=>Trie.jI _ _ _ _ (fun e=>a (by rw[e])),fun k a=>?_⟩;injection a with a;subst a;exact⟨Trie.QS _ _ _,U8⟩
def Holds.congr {fr fr':EP} {h:AHeap} {p:Nat} (hh:Holds P ops fr h p) (c:∀t∈FN ops p,fr'.get t=fr.get t) (f:∀d,tb ops p=some d->fr'.get d=fr.get d):Holds P ops fr' h p:=by
 unfold Holds at*;cases a:ops[p]? with
 |none=>rw[a]at hh;exact hh
 |some o=>
  rw[a]at hh;simp only[]at hh ⊢;rw[mI a]at c;rw[Ag a]at f;rw[TX c];cases hw:wantA ops fr o with
  |none=>rw[hw]at hh;exact hh
  |some b=>
   rw[hw]at hh;cases b with
   |false=>exact fun d e=>by rw[f d e];exact hh d e
   |true=>obtain⟨v,g,h2⟩:=hh;exact⟨v,by rw[TW c];exact g,fun d e=>by rw[f d e];exact h2 d e⟩
def Inv.Jy {rest l:wi} {fr fr':EP} {h:AHeap} {k:Array Bool} {i:Nat} {o:Oper} {v:Value} (ok:qV ops)
  (s:Inv P N ops rest l fr h k) (m:i∈rest) (n:∀p∈predsAt ops i,p∉rest) (z:ops[i]?=some o) (r:noWar ops i=true) (G:putDst N fr o.dst v=some fr') (H:Holds P ops fr' h i):
  Inv P N ops (rest.filter fun x=>x !=i) (i::l) fr' h k:=by
 obtain⟨u,A⟩:=OB G;have hi:=s.Y4 i m;have f:∀x,x∈rest.filter (fun x=>x !=i)↔x∈rest/\x≠i:=fun x=>by simp
 refine⟨fun j B C=>?_,fun j B=>s.Y4 j ((f j).1 B).1,fun p g=>?_,fun p g C=>?_⟩
 .rcases s.every j B C with e | e
  .exact .inl (by simp[e])
  .by_cases w : j = i
   .exact .inl (by simp[w])
   .exact .inr ((f j).2 ⟨e,w⟩)
 .rcases aH.1 g with rfl | g
  .refine ⟨hi.2, fun e => ((f _).1 e).2 rfl, fun q D e => n q D ((f q).1 e).1, fun d y => ?_, r⟩
   rw[Ag z]at y;exact(A d y).2
  .obtain ⟨a, b, c, d⟩ := s.Fi p g
   exact⟨a,fun e=>b ((f p).1 e).1,fun q D e=>c q D ((f q).1 e).1,d⟩
 .rcases aH.1 g with rfl | g
  .exact H
  .obtain ⟨a, b, c, _⟩ := s.Fi p g
   have E:p≠i:=fun e=>b (e▸m);refine(s.holds p g C).congr (fun t I=>u t fun e=>?_) (fun d y=>u d fun e=>?_)
   .simp only [noWar, Ag z, e, jE, vq, Z0, uV, UI, decide_eq_false_iff_not, SH, bne_iff_ne, decide_eq_true_eq] at r
    rcases r p a with F|⟨_,F⟩
    .exact F I
    .exact c i F m
   .exact(ok.pair i p d hi.2 a (Hn E) y).2 (by rw[Ag z];exact e)
def zP {a:Array Bool} {q:Nat} (h:a.getD q false=true):TN a q=false:=by
 unfold TN;cases c:a[q]? with
 |none=>simp[c]at h
 |some b=>simp[c]at h ⊢;exact h
def Bp {a:Array Bool} {q:Nat} (hs:q<a.size) (h:TN a q=false):a.getD q false=true:=by
 unfold TN at h;simp[Ef hs]at h ⊢;exact h
def qv {a:Array Bool} {i:Nat} (h:i∈Region.ready .any ops a):TN a i=true/\i<ops.size/\∃o,ops[i]?=some o/\∀q∈ES o,TN a q=false:=by
 obtain⟨c,o,h2,h3⟩:=mem_ready.1 h;refine⟨by simp[TN,c],(PY.1 h2).1,o,h2,fun q b=>?_⟩;simp only[ES,T8,sX]at b;obtain⟨e,⟨d,hb⟩,rfl⟩:=b;exact zP (h3 e (by simpa using d) hb)
def N5 {a:Array Bool} (ok:qV ops) (hs:a.size=ops.size) (h:Region.ready .any ops a=[]):∀i,i<ops.size->TN a i=false:=by
 intro i
 induction i using Nat.strongRecOn with
 |_ i c=>
  intro hi;cases d:TN a i with
  |false=>rfl
  |true=>
   exfalso;have:i∈Region.ready .any ops a:=by
    refine mem_ready.2 ⟨by simpa[TN]using d,ops[i],Ef hi,fun e f hb=>?_⟩;have g:e.on∈predsAt ops i:=by
     rw[Q9 (Ef hi)];simp only[ES,T8,sX];exact⟨e,⟨by simpa using f,hb⟩,rfl⟩
    have b:=ok.preds i e.on hi g;exact Bp QT (c e.on b QT)
   rw[h]at this;simp at this
def Lu {m:Ti} {n:Nat} {o:Oper} {fr c:EP} {tmps:Array Value} {b:Bool} (F:FR n m c tmps) (d:∀t∈o.looksAt ops,c.get t=fr.get t) (hw:wantA ops fr o=some b):
  Region.wanted o (yielded ops tmps)=b:=
 Fk (a:=⟨tmps,[]⟩) F (by rw[TX d];exact hw)
def mq {p j:Nat} {d:Tmp} (h:noWar ops p=true) (b:tb ops p=some d) (c:j<ops.size) (e:d∈FN ops j):j≠p/\p∈predsAt ops j:=by
 simp only[noWar,b,jE,vq,Z0,uV,UI,decide_eq_false_iff_not,SH,bne_iff_ne,decide_eq_true_eq]at h;rcases h j c with a|a
 .exact absurd e a
 .exact a
def St.fill {g:Cx} {m f:Ti} {b c:EP} {h h':AHeap} {a:Act} {w w':World} (s:St W0 g N m b h a w) (R':Rel (W0.add g.ex) f h' w') (i:Yk h.next m f) (l:h.next<=h'.next) {d:Option Tmp} {v v':Value} (n:VR h'.next f v v')
  (hf:∀k u,c.get k=some u->(d=some k/\u=v/\k<N)\/(d≠some k/\b.get k=some u)):St W0 g N f c h' (a.put d v') w':=by
 have F:=s.frame.mono l i;refine⟨R',fun k u o=>?_,?_,?_,?_⟩
 .rcases hf k u o with ⟨rfl, rfl, p⟩ | ⟨q, hg⟩
  .exact⟨v',by simp[Act.put,s.size,p],n⟩
  .obtain ⟨u', j, h2⟩ := F k u hg
   refine⟨u',?_,h2⟩;cases d with
   |none=>exact j
   |some d=>
    have:d≠k:=fun e=>q (by rw[e]);simp[Act.put,this,j]
 .cases d<;>exact s.defers
 .cases d<;>simp[Act.put,s.size]
 .exact s.round
def call_wp {q:Cx} {nn:Nat} {m:Ti} {fr:EP} {h:AHeap} {a:Act} {w:World} (s:St W0 q N m fr h a w) {o:Oper} {g:FuncId} {args:List Value} {fn:Func} {c:Code} (d:calleeOf fr o=some (g,args)) (hg:Good P g fn c)
  {R:Value->AHeap->Prop} (E:AC P W0 g args h R) {C:Act->World->Prop} {K:Exit->Act->World->Prop}
  (F:∀v v' k h' w',Yk h.next m k->h.next<=h'.next->Rel (W0.add q.ex) k h' w'->VR h'.next k v v'->R v h'->C (a.put o.dst v') w'):o.wpIn (Fv q.ro) nn P a w C K:=by
 unfold calleeOf at d;split at d
 .rename_i f as ats l
  split at d
  .rename_i D first cap vs hf r
   injection d with d;simp only[Ig]at d;obtain⟨rfl,rfl⟩:=d;have n:=Yf s.frame hf;have t:=bD s.frame r;refine LL (fun c e=>by rw[l]at e;cases e) ?_
   have key:∃b cap',a.eval f=.func (.func D) b cap'/\xC h.next m first.toList b.toList/\xC h.next m cap.toList cap'.toList:=by
    generalize a.eval f=x at n;cases n with
    |flat hf=>simp[Fw.flat]at hf
    |func G h2 h3 H=>
     exact⟨_,_,rfl,⟨by simpa using G,fun i v v' e e'=>h3 i v v' (by simpa using e) (by simpa using e')⟩,⟨by simpa using h2,fun i v v' e e'=>H i v v' (by simpa using e) (by simpa using e')⟩⟩
   obtain⟨b,cap',u,y,z⟩:=key
   have p:(execOp a.eval o).run P w=.ok (.enter D ((b.toList++as.toList.map a.eval++cap'.toList).toArray)) w:=by
    have I:(b++as.map a.eval++cap')=(b.toList++as.toList.map a.eval++cap'.toList).toArray:=by
     apply XX.1;simp
    simp only[execOp,l,resolve,u,Deferred.ofValue,Sem.run_bind,Sem.run_pure,Result.andThen_ok,invoke,callFunc,run_program,hg.func,hg.name,Z2,if_false,hg.body,bN,I]
   rw[p]
   have j:=E q.ex m w (b.toList++as.toList.map a.eval++cap'.toList) s.rel ((y.append t).append z)
   refine⟨(fun J=>by cases J),Ya (j.mono ?_)⟩;rintro e w' ⟨v,v',k,h',rfl,R',A,L,M,B⟩;exact F v v' k h' w' A L R' M B
  .cases d
 .cases d
def U1 {A:Cx} {nn:Nat} {Q:EP->AHeap->Prop} {K:Exit->Act->World->Prop} {fuel:Nat}
  (ih:∀(t:DT) (rest c:wi) (fr:EP) (h:AHeap) (b:Array Bool) (m:Ti) (a:Act) (w:World),
   PA ops.size b=fuel->b.size=ops.size->Inv P N ops rest c fr h b->Ip ops rest t=true->DW P W0 N ops Q t c fr h->St W0 A N m (delAll fr (AW ops c b)) h a w->
   (∀B fr' h' a' w',Yk h.next m B->h.next<=h'.next->St W0 A N B fr' h' a' w'->Q fr' h'->K .normal a' w')->wpAnyIn (Fv A.ro) nn P .any ops K fuel b a w)
  {t:DT} {rest c:wi} {fr:EP} {h:AHeap} {b:Array Bool} {m:Ti} {a:Act} {w:World}
  (hc:PA ops.size b=fuel+1) (hs:b.size=ops.size) (x:Inv P N ops rest c fr h b) (y:Ip ops rest t=true) (dw:DW P W0 N ops Q t c fr h) (s:St W0 A N m (delAll fr (AW ops c b)) h a w)
  (hK:∀B fr' h' a' w',Yk h.next m B->h.next<=h'.next->St W0 A N B fr' h' a' w'->Q fr' h'->K .normal a' w')
  {j:Nat} (hj:j∈Region.ready .any ops b) (C:j∈c):wpOpIn (Fv A.ro) nn P ops K j (wpAnyIn (Fv A.ro) nn P .any ops K fuel (b.setIfInBounds j true)) a w:=by
 obtain⟨F,H,o,G,I⟩:=qv hj;have J:PA ops.size (b.setIfInBounds j true)=fuel:=by have:=JI H F;omega
 have EY:(b.setIfInBounds j true).size=ops.size:=by simpa using hs
 have T:j∉rest:=(x.Fi j C).2.1;have L:Inv P N ops rest c fr h (b.setIfInBounds j true):=by
  refine⟨fun i hi D=>?_,fun i hi=>⟨?_,(x.Y4 i hi).2⟩,x.Fi,fun p M g=>?_⟩
  .rw[Ff F]at D;simp at D;exact x.every i hi D.1
  .rw[Ff F];simp[(x.Y4 i hi).1];exact fun e=>T (e▸hi)
  .rw[Ff F]at g;simp at g;exact x.holds p M g.1
 have f:∀t∈o.looksAt ops,(delAll fr (AW ops c b)).get t=fr.get t:=by
  intro t ht;rw[V1,if_neg];intro hh;obtain⟨p,M,g,q⟩:=L3.1 hh;obtain⟨_,_,_,_,U⟩:=x.Fi p M;obtain⟨ad,z⟩:=mq U q H (by rw[mI G];exact ht);rw[Q9 G]at z;rw[I p z]at g;cases g
 have r:∀v,(∀d,o.dst=some d->fr.get d=some v)->∀k u,(delAll fr (AW ops c (b.setIfInBounds j true))).get k=some u->
   (o.dst=some k/\u=v/\k<N)\/(o.dst≠some k/\(delAll fr (AW ops c b)).get k=some u):=by
  intro v V k u l;rw[V1]at l;split at l
  .cases l
  .rename_i hk
   by_cases O:o.dst=some k
   .left
    rw[V k O]at l;injection l with l;exact⟨O,l.symm,(x.Fi j C).2.2.2.1 k (by rw[Ag G];exact O)⟩
   .right
    refine⟨O,?_⟩;rw[V1,if_neg,l];intro hh;obtain⟨p,M,g,q⟩:=L3.1 hh;refine hk (L3.2 ⟨p,M,?_,q⟩);rw[Ff F,g];simp only[aaX,bne_iff_ne];intro e;subst e;rw[Ag G]at q;exact O q
 have E:=x.holds j C F;unfold Holds at E;rw[G]at E;simp only[]at E;unfold wpOpIn;rw[G];simp only[];split at E
 .rename_i hw
  obtain⟨v,R,W⟩:=E;rw[if_pos (Lu s.frame f hw)];obtain⟨B,v',w',n,R',S,X,V⟩:=Wb (P:=P) (a:=a) s.rel s.frame (by rw[TW f];exact R);have Y:=s.fill R' S X V (r v W);have:=ih t rest c fr h _ B (a.put o.dst v') w' J EY L y dw Y fun m2 Z h2 a2 w2 e1 e2 e3 e4=>hK m2 Z h2 a2 w2 (S.trans e1 X) (Jh X e2) e3 e4;refine LL (Wt R) ?_;rcases n with n|⟨n,rfl⟩<;>rw[n]<;>exact this
 .rename_i hw
  rw[if_neg (by rw[Lu s.frame f hw];simp)];have Y:=s.fill s.rel (.refl _ _) (J4 _) (v:=Hx) (v':=undef) (.tuple rfl (fun i v v' h=>by simp at h)) (r Hx E);refine⟨fun _ _=>trivial,?_⟩;exact ih t rest c fr h _ m _ w J EY L y dw Y hK
 .exact E.elim
def draw_do {V:Cx} {nn:Nat} (ok:qV ops) {Q:EP->AHeap->Prop} {K:Exit->Act->World->Prop} {fuel:Nat}
  (ih:∀(t:DT) (rest f:wi) (fr:EP) (h:AHeap) (b:Array Bool) (m:Ti) (a:Act) (w:World),
   PA ops.size b=fuel->b.size=ops.size->Inv P N ops rest f fr h b->Ip ops rest t=true->DW P W0 N ops Q t f fr h->St W0 V N m (delAll fr (AW ops f b)) h a w->
   (∀L fr' h' a' w',Yk h.next m L->h.next<=h'.next->St W0 V N L fr' h' a' w'->Q fr' h'->K .normal a' w')->wpAnyIn (Fv V.ro) nn P .any ops K fuel b a w)
  {t other:DT} {j:Nat} {pre:wi} {rest f:wi} {fr:EP} {h:AHeap} {b:Array Bool} {m:Ti} {a:Act} {w:World}
  (hc:PA ops.size b=fuel+1) (hs:b.size=ops.size) (T:Inv P N ops rest f fr h b) (ah:j∈rest) (W:∀q∈pre,q∈predsAt ops j)
  (B:Ip ops (rest.filter fun x=>x !=j) t=true) (C:DW P W0 N ops Q (.ch j pre t other) f fr h) (s:St W0 V N m (delAll fr (AW ops f b)) h a w)
  (hK:∀L fr' h' a' w',Yk h.next m L->h.next<=h'.next->St W0 V N L fr' h' a' w'->Q fr' h'->K .normal a' w')
  (hj:j∈Region.ready .any ops b):wpOpIn (Fv V.ro) nn P ops K j (wpAnyIn (Fv V.ro) nn P .any ops K fuel (b.setIfInBounds j true)) a w:=by
 obtain⟨hu,M,o,U,F⟩:=qv hj;have r:∀x,x∈rest.filter (fun x=>x !=j)↔x∈rest/\x≠j:=fun x=>by simp
 have X:PA ops.size (b.setIfInBounds j true)=fuel:=by have:=JI M hu;omega
 have EY:(b.setIfInBounds j true).size=ops.size:=by simpa using hs
 have ar:∀p∈f,p≠j:=fun p y e=>(T.Fi p y).2.1 (e▸ah);have G:∀p∈f,TN b p=true->p∈f.filter fun p=>!pre.contains p:=by
  intro p y l;refine sX.2 ⟨y,?_⟩;simp only[UI,uV,decide_eq_false_iff_not];intro hq;have aj:=W p hq;rw[Q9 U]at aj;rw[F p aj]at l;cases l
 have n:∀t∈o.looksAt ops,(delAll fr (AW ops f b)).get t=fr.get t:=by
  intro t ht;rw[V1,if_neg];intro hh;obtain⟨p,y,l,Y⟩:=L3.1 hh;obtain⟨_,_,_,_,av⟩:=T.Fi p y;obtain⟨aE,hm⟩:=mq av Y M (by rw[mI U];exact ht);rw[Q9 U]at hm;rw[F p hm]at l;cases l
 have hinv:∀fr' h',(∀p∈f.filter (fun p=>!pre.contains p),TN (b.setIfInBounds j true) p=true->Holds P ops fr' h' p)->Inv P N ops (rest.filter fun x=>x !=j) (f.filter fun p=>!pre.contains p) fr' h' (b.setIfInBounds j true):=by
  intro fr' h' A;refine⟨fun O H I=>?_,fun O H=>⟨?_,(T.Y4 O ((r O).1 H).1).2⟩,fun p y=>?_,A⟩
  .rw [Ff hu] at I; simp at I
   rcases T.every O H I.1 with e|e
   .exact .inl (G O e I.1)
   .exact .inr ((r O).2 ⟨e,I.2⟩)
  .rw[Ff hu];simp[(T.Y4 O ((r O).1 H).1).1];exact((r O).1 H).2
  .obtain ⟨a1, a2, a3, a4, a5⟩ := T.Fi p (sX.1 y).1
   exact⟨a1,fun e=>a2 ((r p).1 e).1,fun q hq e=>a3 q hq ((r q).1 e).1,a4,a5⟩
 have D:∀{v:Value} {fr':EP},putDst N fr o.dst v=some fr'->∀k u,(delAll fr' (AW ops (f.filter fun p=>!pre.contains p) (b.setIfInBounds j true))).get k=some u->
   (o.dst=some k/\u=v/\k<N)\/(o.dst≠some k/\(delAll fr (AW ops f b)).get k=some u):=by
  intro v fr' y k u z;obtain⟨R,ak⟩:=OB y;rw[V1]at z;split at z
  .cases z
  .rename_i hk
   by_cases hd:o.dst=some k
   .left
    obtain⟨e1,e2⟩:=ak k hd;rw[e1]at z;injection z with z;exact⟨hd,z.symm,e2⟩
   .right
    refine⟨hd,?_⟩;rw[R k hd]at z;rw[V1,if_neg,z];intro hh;obtain⟨p,S,l,Y⟩:=L3.1 hh;refine hk (L3.2 ⟨p,G p S l,?_,Y⟩);rw[Ff hu,l];simpa using ar p S
 simp only[DW,U]at C;replace C:=C.1;unfold wpOpIn;rw[U];simp only[];split at C
 .exact C.elim
 .rename_i hw
  rw[if_neg (by rw[Lu s.frame n hw];simp)];split at C
  .exact C.elim
  .rename_i fr' y
   obtain⟨R,ak⟩:=OB y;have s':=s.fill s.rel (.refl _ _) (J4 _) (v:=Hx) (v':=undef) (.tuple rfl (fun i v v' h=>by simp at h)) (D y);refine⟨fun _ _=>trivial,ih t _ _ fr' h _ m _ w X EY (hinv fr' h fun p S l=>?_) B C s' hK⟩;rw[Ff hu]at l;simp at l;have al:=(sX.1 S).1;obtain⟨a1,a2,a3,_⟩:=T.Fi p al;refine(T.holds p al l.1).congr (fun t ht=>R t fun e=>?_) (fun d hd=>R d fun e=>?_)
   .rcases (ok.pair p j t a1 M l.2 (by rw [Ag U]; exact e)).1 ht with e | e
    .exact a3 j e ah
    .rw[Q9 U]at e;rw[F p e]at l;cases l.1
   .exact(ok.pair j p d M a1 (Hn l.2) hd).2 (by rw[Ag U];exact e)
 .rename_i hw
  rw[if_pos (Lu s.frame n hw)];split at C
  .obtain ⟨g, args, fn, c, ay, Z, aB⟩ := C
   refine call_wp s (by rw[Ih n];exact ay) Z aB ?_;rintro v v' L h' w' J hn R' hv ⟨fr',y,A,ad⟩;have s':=s.fill R' J hn hv (D y);exact ih t _ _ fr' h' _ L (a.put o.dst v') w' X EY (hinv fr' h' fun p y _=>A.mem p y) B ad s' fun m2 ag h2 a2 w2 e1 e2 e3 e4=>hK m2 ag h2 a2 w2 (J.trans e1 hn) (Jh hn e2) e3 e4
  .split at C
   .exact C.elim
   .rename_i v h' aq
    split at C
    .exact C.elim
    .rename_i fr' y
     obtain⟨A,ad⟩:=C;obtain⟨L,v',w',E,R',J,hn,hv⟩:=Wb (P:=P) (a:=a) s.rel s.frame (by rw[TW n];exact aq);have s':=s.fill R' J hn hv (D y);have:=ih t _ _ fr' h' _ L (a.put o.dst v') w' X EY (hinv fr' h' fun p y _=>A.mem p y) B ad s' fun m2 ag h2 a2 w2 e1 e2 e3 e4=>hK m2 ag h2 a2 w2 (J.trans e1 hn) (Jh hn e2) e3 e4;refine LL (Wt aq) ?_;rcases E with E|⟨E,rfl⟩<;>rw[E]<;>exact this
def B7 {Q:EP->AHeap->Prop} {rest a:wi} {fr:EP} {h:AHeap} {j:Nat}:∀{t:DT} {cs:wi},j∈cs->treeOK ops rest cs t=true->DW P W0 N ops Q t a fr h->isAlt t=true->
  ∃pre g other,(∀q∈pre,q∈predsAt ops j)/\Ip ops (rest.filter fun x=>x !=j) g=true/\DW P W0 N ops Q (.ch j pre g other) a fr h:=by
 intro t
 induction t with
 |done=>intro cs _ _ _ ha;cases ha
 |fl i t _=>intro cs _ _ _ ha;cases ha
 |no=>intro cs d b _ _;simp[treeOK]at b;subst b;simp at d
 |ch i pre t other _ k=>
  intro cs d b e _;simp only[treeOK,SH]at b;obtain⟨⟨⟨⟨⟨⟨r,h2⟩,h3⟩,l⟩,m⟩,n⟩,o⟩:=b;by_cases c:j=i
  .subst c
   refine⟨pre,t,other,fun q p=>?_,by simp only[Ip,SH];exact⟨l,m⟩,e⟩;have:=jE.1 h3 q p;simpa using this
  .have f : DW P W0 N ops Q other a fr h := by simp only [DW] at e; exact e.2
   exact k (cs:=cs.filter fun x=>x !=i) (by simp[d,c]) o f n
def vn {cx:Cx} {nn:Nat} (ok:qV ops) {Q:EP->AHeap->Prop} {K:Exit->Act->World->Prop}:∀(fuel:Nat) (t:DT) (rest c:wi) (fr:EP) (h:AHeap) (b:Array Bool) (m:Ti) (a:Act) (w:World),
  PA ops.size b=fuel->b.size=ops.size->Inv P N ops rest c fr h b->Ip ops rest t=true->DW P W0 N ops Q t c fr h->St W0 cx N m (delAll fr (AW ops c b)) h a w->
  (∀m' fr' h' a' w',Yk h.next m m'->h.next<=h'.next->St W0 cx N m' fr' h' a' w'->Q fr' h'->K .normal a' w')->
  wpAnyIn (Fv cx.ro) nn P .any ops K fuel b a w:=by
 intro fuel
 induction fuel with
 |zero=>
  intro t
  induction t with
  |no=>intro rest c fr h b m a w z hs n g;simp[Ip,isTop]at g
  |done=>
   intro rest c fr h b m a w z hs n g l s B;have f:=PF z;have hh:AW ops c b=[]:=by
    apply Zl.2;intro t g;obtain⟨p,y,T,_⟩:=L3.1 g;rw[f p (n.Fi p y).1]at T;cases T
   rw[hh]at s;refine⟨?_,B m fr h a w (.refl _ _) (J4 _) s l⟩;apply Zl.2;intro i hi;obtain⟨h1,h2,_⟩:=qv hi;rw[f i h2]at h1;cases h1
  |fl i t _=>
   intro rest c fr h b m a w z hs n g l s B;have f:=PF z;simp only[Ip,treeOK,SH,UI,decide_eq_true_eq]at g;have:=n.Y4 i g.2.1.1.1.1;rw[f i this.2]at this;cases this.1
  |ch i pre t other _ _=>
   intro rest c fr h b m a w z hs n g l s B;have f:=PF z;simp only[Ip,treeOK,SH,UI,decide_eq_true_eq]at g;have:=n.Y4 i g.2.1.1.1.1.1.1;rw[f i this.2]at this;cases this.1
 |succ fuel ih=>
  intro t
  induction t with
  |no=>intro rest c fr h b m a w z hs n g;simp[Ip,isTop]at g
  |done=>
   intro rest c fr h b m a w z hs n g l s B;have J:rest=[]:=by simp only[Ip,treeOK,SH]at g;simpa using g.2
   refine⟨fun hr=>?_,fun j U=>?_⟩
   .have f := N5 ok hs hr
    have:PA ops.size b=0:=Wl.2 fun i hi=>by rw[f i (vq.1 hi)];simp
    omega
   .obtain ⟨T, L, _⟩ := qv U
    rcases n.every j L T with M|C
    .exact U1 ih z hs n g l s B U M
    .rw[J]at C;simp at C
  |fl i t V=>
   intro rest c fr h b m a w z hs n g l s B;simp only[Ip,treeOK,SH,UI,decide_eq_true_eq]at g;obtain⟨_,⟨⟨⟨O,W⟩,R⟩,X⟩,q⟩:=g;have D:Ip ops (rest.filter fun x=>x !=i) t=true:=by simp only[Ip,SH];exact⟨X,q⟩
   have E:∀p∈predsAt ops i,p∉rest:=fun p y=>by have:=jE.1 R p y;simpa using this
   have hi:=n.Y4 i O;have A:ops[i]?=some ops[i]:=Ef hi.2;generalize ops[i]'hi.2=o at A
   have H:noWar ops i=true:=by simp only[EH,A,SH]at W;exact W.2
   have F:∀{fr':EP} {v:Value},putDst N fr o.dst v=some fr'->St W0 cx N m (delAll fr' (AW ops (i::c) b)) h a w:=by
    intro fr' v y;obtain⟨G,I⟩:=OB y;refine⟨s.rel,fun k u hk=>s.frame k u ?_,s.defers,s.size,s.round⟩;rw[V1]at hk ⊢;split at hk
    .cases hk
    .rename_i Y
     have ag:o.dst≠some k:=fun e=>Y (L3.2 ⟨i,YX,hi.1,by rw[Ag A];exact e⟩);rw[if_neg,<-G k ag,hk];intro hh;obtain⟨p,ah,aj,ak⟩:=L3.1 hh;exact Y (L3.2 ⟨p,by simp[ah],aj,ak⟩)
   simp only[DW,A]at l;split at l
   .exact l.elim
   .rename_i hw
    split at l
    .exact l.elim
    .rename_i fr' y
     obtain⟨G,I⟩:=OB y;have r:∀t∈o.looksAt ops,fr'.get t=fr.get t:=fun t g=>G t fun e=>(mq H (by rw[Ag A];exact e) hi.2 (by rw[mI A];exact g)).1 rfl;have hH:Holds P ops fr' h i:=by
      unfold Holds;rw[A];simp only[];rw[TX r,hw];exact fun d hd=>(I d hd).1
     exact V _ (i::c) fr' h b m a w z hs (n.Jy ok O E A H y hH) D l (F y) B
   .rename_i hw
    split at l
    .exact l.elim
    .rename_i v h' al
     obtain⟨rfl,l⟩:=l;split at l
     .exact l.elim
     .rename_i fr' y
      obtain⟨G,I⟩:=OB y;have r:∀t∈o.looksAt ops,fr'.get t=fr.get t:=fun t g=>G t fun e=>(mq H (by rw[Ag A];exact e) hi.2 (by rw[mI A];exact g)).1 rfl;have hH:Holds P ops fr' h' i:=by
       unfold Holds;rw[A];simp only[];rw[TX r,hw];exact⟨v,by rw[TW r];exact al,fun d hd=>(I d hd).1⟩
      exact V _ (i::c) fr' h' b m a w z hs (n.Jy ok O E A H y hH) D l (F y) B
  |ch i pre t other _ _=>
   intro rest c fr h b m a w z hs n g l s B;refine⟨fun hr=>?_,fun j U=>?_⟩
   .have f := N5 ok hs hr
    have:PA ops.size b=0:=Wl.2 fun i hi=>by rw[f i (vq.1 hi)];simp
    omega
   .obtain ⟨T, L, oj, aq, Z⟩ := qv U
    rcases n.every j L T with M|C
    .exact U1 ih z hs n g l s B U M
    .have S:j∈J1 ops rest:=RP.2 ⟨C,fun p y R=>by
      rw[Q9 aq]at y;have:=(n.Y4 p R).1;rw[Z p y]at this;cases this⟩
     have q:=g;simp only[Ip,SH]at q;obtain⟨ar,t',ad,h1,h2,h3⟩:=B7 S q.2 l rfl;exact draw_do ok ih z hs n C h1 h2 h3 s B U
def M9.draw {i:Nat} {ol:List Oper} {Q:Exit->EP->AHeap->Prop} (l:P.follows .mixedOrders=true) (t:DT) (e:Ap ol.toArray t=true)
  (n:DW P W0 N ol.toArray (Q .normal) t [] fr h):M9 P W0 N (.region i ol.toArray true) fr h Q:=by
 intro o nn m a w s K q;obtain⟨ok,c⟩:=qV.of e;refine wpIn_region_any l ?_;have d:∀j,j<ol.toArray.size->TN (Array.replicate ol.toArray.size false) j=true:=by
  intro j b;have f:j<ol.length:=by simpa using b
  simp[TN,f]
 have s0:St W0 o N m (delAll fr (AW ol.toArray [] (Array.replicate ol.toArray.size false))) h a w.drew:=⟨s.rel.drew,s.frame,s.defers,s.size,s.round⟩;refine vn ok ol.toArray.size t (List.range ol.toArray.size) [] fr h (Array.replicate ol.toArray.size false) m a w.drew ?_ YX ?_ c n s0 ?_
 .unfold PA
  rw[List.countP_eq_length.2 (fun j b=>d j (vq.1 b))];simp
 .refine⟨fun j b _=>.inr (vq.2 b),fun j b=>⟨d j (vq.1 b),vq.1 b⟩,fun p g=>by simp at g,fun p g=>by simp at g⟩
 .intro r fr' h' a' w' k u v x
  exact q [] .normal r fr' h' a' w' k u v.nil x
end
def vu:List Nat→DT→DT
  |[],t=>t
  |i::l,t=>.fl i (vu l t)
def PO (i:Nat) (p:List Nat) (t:DT):DT:=.ch i p t .no
end Go.Fw
namespace Go.Fw
variable {P : Program} {W0 : Ac} {N : Nat} {ops : Array Oper} {fr : EP} {h : AHeap}
def onO {α:Type} (x:Option α) (f:α->Prop):Prop:=
 match x with
 |some a=>f a
 |none=>False
def Li (b:Bool) (p q:Prop):Prop:=
 match b with
 |true=>p
 |false=>q
def ie (p q:Prop):Li true p q=p:=rfl
def YO {α:Type} {x:Option α} {f:α->Prop}:onO x f↔∃a,x=some a/\f a:=by
 cases x<;>simp[onO]
def CV (P:Program) (W0:Ac) (N:Nat) (o:Oper) (fr:EP) (h:AHeap) (K:EP->AHeap->Prop):Prop:=
 ∃g args fn c,calleeOf fr o=some (g,args)/\Good P g fn c/\AC P W0 g args h fun v h'=>onO (putDst N fr o.dst v) fun fr'=>K fr' h'
def pL (P:Program) (W0:Ac) (N:Nat) (o:Oper) (fr:EP) (h:AHeap) (K:EP->AHeap->Prop):Prop:=
 CV P W0 N o fr h K\/∃d args,yieldOf fr o=some (d,args)/\AY P W0 d args h fun v h'=>onO (putDst N fr o.dst v) fun fr'=>K fr' h'
def ROps (P:Program) (W0:Ac) (N:Nat) (ops:Array Oper) (Q:EP->AHeap->Prop):List Oper->EP->AHeap->Prop
 |[],fr,h=>Q fr h
 |o::r,fr,h=>
  onO (wantA ops fr o) fun w=>
   Li w
    (Li (j5 o) (pL P W0 N o fr h (ROps P W0 N ops Q r))
     (onO (stepOp P fr h o) fun p=>onO (putDst N fr o.dst p.1) fun fr'=>ROps P W0 N ops Q r fr' p.2))
    (onO (putDst N fr o.dst Hx) fun fr'=>ROps P W0 N ops Q r fr' h)
def ROps.sound {Q:EP->AHeap->Prop}:∀{l:List Oper} {fr:EP} {h:AHeap},ROps P W0 N ops Q l fr h->Sx P W0 N ops l fr h Q
 |[],fr,h,q=>.nil q
 |o::r,fr,h,q=>by
  simp only[ROps]at q;obtain⟨w,hw,q⟩:=YO.1 q;cases w with
  |false=>
   obtain⟨fr',d,q⟩:=YO.1 q;exact .skip hw d (ROps.sound q)
  |true=>
   simp only[ie]at q;cases k:j5 o with
   |true=>
    rw[k]at q;rcases q with⟨g,args,fn,c,f,hg,ha⟩|⟨n,args,m,ha⟩
    .exact .call hw f hg (ha.mono fun v h' e=>let⟨fr',d,e⟩:=YO.1 e;⟨fr',d,ROps.sound e⟩)
    .exact .yield hw m (ha.mono fun v h' e=>let⟨fr',d,e⟩:=YO.1 e;⟨fr',d,ROps.sound e⟩)
   |false=>
    rw[k]at q;obtain⟨⟨v,h'⟩,hs,q⟩:=YO.1 q;obtain⟨fr',d,q⟩:=YO.1 q;exact .step hw hs d (ROps.sound q)
def WF (h:AHeap):Prop:=∀i,h.own i≠none->i<h.next
def AC.wf {f:FuncId} {args:List Value} {R:Value->AHeap->Prop} (e:WF h->AC P W0 f args h R):AC P W0 f args h R:=
 fun ex m w d r g=>e r.lt ex m w d r g
def M9.wf {c:Code} {Q:Exit->EP->AHeap->Prop} (d:WF h->M9 P W0 N c fr h Q):M9 P W0 N c fr h Q:=
 fun e nn m a w s K f=>d s.rel.lt e nn m a w s K f
def AC.post {f:FuncId} {args:List Value} {R:Value->AHeap->Prop} (e:AC P W0 f args h R):AC P W0 f args h fun v h'=>WF h'/\R v h':=
 fun ex m w d r g=>(e ex m w d r g).mono fun _ _ ⟨v,v',k,h',l,h2,h3,n,p,q⟩=>⟨v,v',k,h',l,h2,h3,n,p,h2.lt,q⟩
def Mc {o:Oper} {g:FuncId} {args:List Value} {fn:Func} {c:Code} {R:Value->AHeap->Prop} {K:EP->AHeap->Prop} (d:calleeOf fr o=some (g,args)) (hg:Good P g fn c) (ha:AC P W0 g args h R)
  (e:∀v h',WF h'->R v h'->onO (putDst N fr o.dst v) fun fr'=>K fr' h'):CV P W0 N o fr h K:=
 ⟨g,args,fn,c,d,hg,ha.post.mono fun v h' ⟨hw,f⟩=>e v h' hw f⟩
def vseq (y:EP->AHeap->Prop) (Q:Exit->EP->AHeap->Prop):Exit->EP->AHeap->Prop
 |.normal,fr,h=>y fr h
 |e,fr,h=>Q e fr h
def onV (x:Option Value) (p q:Prop):Prop:=
 match x with
 |some (.bool b)=>Li b p q
 |_=>False
def VC (P:Program) (W0:Ac) (N:Nat):Code->(Exit->EP->AHeap->Prop)->EP->AHeap->Prop
 |.skip,Q,fr,h=>Q .normal fr h
 |.ret,Q,fr,h=>Q .ret fr h
 |.exit i,Q,fr,h=>Q (.exit i) fr h
 |.seq a b,Q,fr,h=>VC P W0 N a (vseq (VC P W0 N b Q) Q) fr h
 |.block i a,Q,fr,h=>VC P W0 N a (blockQ i Q) fr h
 |.region _ ops false,Q,fr,h=>ROps P W0 N ops (Q .normal) ops.toList fr h
 |.cond c a b,Q,fr,h=>onV (evalO fr c) (VC P W0 N a Q fr h) (VC P W0 N b Q fr h)
 |c,Q,fr,h=>M9 P W0 N c fr h Q
def VC.sound:∀{c:Code} {Q:Exit->EP->AHeap->Prop} {fr:EP} {h:AHeap},VC P W0 N c Q fr h->M9 P W0 N c fr h Q:=by
 intro c
 induction c with
 |skip=>intro Q fr h q;exact .skip q
 |ret=>intro Q fr h q;exact .ret q
 |exit i=>intro Q fr h q;exact .exit q
 |seq a b f g=>
  intro Q fr h q;refine .seq ((f q).mono fun e fr h k=>?_);cases e with
  |normal=>exact g k
  |_=>exact k
 |block i a f=>intro Q fr h q;exact .block (f q)
 |region i ops d=>
  intro Q fr h q;cases d with
  |false=>
   obtain⟨l⟩:=ops;exact .region (ROps.sound q)
  |true=>exact q
 |cond c a b f g=>
  intro Q fr h q;simp only[VC]at q;unfold onV at q;split at q
  .rename_i t m
   refine .cond m (fun e=>?_) (fun e=>?_)
   .subst e;exact f q
   .subst e;exact g q
  .exact q.elim
 |loop c=>intro Q fr h q;exact q
 |rangeFunc=>intro Q fr h q;exact q
 |scope c=>intro Q fr h q;exact q
 |label l=>intro Q fr h q;exact q
 |goto l=>intro Q fr h q;exact q
 |refuse w=>intro Q fr h q;exact q
inductive Kt where
 |seq (c:Code)
 |blk (i:Nat)
def KE (P:Program) (W0:Ac) (N:Nat) (R:Exit->EP->AHeap->Prop):List Kt->Exit->EP->AHeap->Prop
 |[]=>R
 |.seq c::ks=>vseq (VC P W0 N c (KE P W0 N R ks)) (KE P W0 N R ks)
 |.blk i::ks=>blockQ i (KE P W0 N R ks)
def VK (P:Program) (W0:Ac) (N:Nat) (c:Code) (ks:List Kt) (R:Exit->EP->AHeap->Prop) (fr:EP) (h:AHeap):Prop:=VC P W0 N c (KE P W0 N R ks) fr h
def KN (P:Program) (W0:Ac) (N:Nat) (ks:List Kt) (R:Exit->EP->AHeap->Prop) (fr:EP) (h:AHeap):Prop:=KE P W0 N R ks .normal fr h
def KX (P:Program) (W0:Ac) (N:Nat) (e:Exit) (ks:List Kt) (R:Exit->EP->AHeap->Prop) (fr:EP) (h:AHeap):Prop:=KE P W0 N R ks e fr h
def KO (P:Program) (W0:Ac) (N:Nat) (ops:Array Oper) (ks:List Kt) (R:Exit->EP->AHeap->Prop) (l:List Oper) (fr:EP) (h:AHeap):Prop:=ROps P W0 N ops (KE P W0 N R ks .normal) l fr h
def Uk (P:Program) (W0:Ac) (N:Nat) (ops:Array Oper) (ks:List Kt) (R:Exit->EP->AHeap->Prop) (o:Oper) (l:List Oper) (fr:EP) (h:AHeap) (w:Option Bool):Prop:=
 onO w fun w=>
   Li w
    (Li (j5 o) (pL P W0 N o fr h (ROps P W0 N ops (KE P W0 N R ks .normal) l))
     (onO (stepOp P fr h o) fun p=>onO (putDst N fr o.dst p.1) fun fr'=>ROps P W0 N ops (KE P W0 N R ks .normal) l fr' p.2))
    (onO (putDst N fr o.dst Hx) fun fr'=>ROps P W0 N ops (KE P W0 N R ks .normal) l fr' h)
def XZ (P:Program) (W0:Ac) (N:Nat) (ops:Array Oper) (ks:List Kt) (R:Exit->EP->AHeap->Prop) (o:Oper) (l:List Oper) (fr:EP) (h:AHeap) (b:Bool):Prop:=
  Li b (pL P W0 N o fr h (ROps P W0 N ops (KE P W0 N R ks .normal) l))
          (onO (stepOp P fr h o) fun p=>onO (putDst N fr o.dst p.1) fun fr'=>ROps P W0 N ops (KE P W0 N R ks .normal) l fr' p.2)
def YH (P:Program) (W0:Ac) (N:Nat) (ops:Array Oper) (ks:List Kt) (R:Exit->EP->AHeap->Prop) (o:Oper) (l:List Oper) (fr:EP) (x:Option (Value×AHeap)):Prop:=
 onO x fun p=>onO (putDst N fr o.dst p.1) fun fr'=>ROps P W0 N ops (KE P W0 N R ks .normal) l fr' p.2
def Ax (P:Program) (W0:Ac) (N:Nat) (ops:Array Oper) (ks:List Kt) (R:Exit->EP->AHeap->Prop) (l:List Oper) (h:AHeap) (x:Option EP):Prop:=
 onO x fun fr'=>ROps P W0 N ops (KE P W0 N R ks .normal) l fr' h
def dK (P:Program) (W0:Ac) (N:Nat) (ops:Array Oper) (ks:List Kt) (R:Exit->EP->AHeap->Prop) (o:Oper) (l:List Oper) (fr:EP) (h:AHeap):Prop:=
 pL P W0 N o fr h (ROps P W0 N ops (KE P W0 N R ks .normal) l)
def DK (P:Program) (W0:Ac) (N:Nat) (a b:Code) (ks:List Kt) (R:Exit->EP->AHeap->Prop) (fr:EP) (h:AHeap) (x:Option Value):Prop:=onV x (VK P W0 N a ks R fr h) (VK P W0 N b ks R fr h)
def W9 (P:Program) (W0:Ac) (N:Nat) (c:Code) (ks:List Kt) (R:Exit->EP->AHeap->Prop) (fr:EP) (h:AHeap):Prop:=M9 P W0 N (.loop c) fr h (KE P W0 N R ks)
def Q7 (P:Program) (W0:Ac) (N:Nat) (i:Nat) (ops:Array Oper) (ks:List Kt) (R:Exit->EP->AHeap->Prop) (fr:EP) (h:AHeap):Prop:=M9 P W0 N (.region i ops true) fr h (KE P W0 N R ks)
def Kh (a b:Int):(a==b)=decide (a=b):=by by_cases h:a=b<;>simp[h]
def fst_mk {α β:Type} (a:α) (b:β):(a,b).1=a:=id rfl
def snd_mk {α β:Type} (a:α) (b:β):(a,b).2=b:=id rfl
section eqs
variable {ks : List Kt} {R : Exit → EP → AHeap → Prop} {a b : Code} {o : Oper} {i j : Nat} {c : Operand}
def Ft:VK P W0 N .skip ks R fr h=KN P W0 N ks R fr h:=id rfl
def aao:VK P W0 N .ret ks R fr h=KX P W0 N .ret ks R fr h:=id rfl
def Ia:VK P W0 N (.exit i) ks R fr h=KX P W0 N (.exit i) ks R fr h:=id rfl
def aap:VK P W0 N (.seq a b) ks R fr h=VK P W0 N a (.seq b::ks) R fr h:=id rfl
def ki:VK P W0 N (.block i a) ks R fr h=VK P W0 N a (.blk i::ks) R fr h:=id rfl
def xW {l:List Oper}:VK P W0 N (.region i (List.toArray l) false) ks R fr h=KO P W0 N (List.toArray l) ks R l fr h:=id rfl
def vI:VK P W0 N (.region i ops true) ks R fr h=Q7 P W0 N i ops ks R fr h:=id rfl
def Th:VK P W0 N (.cond c a b) ks R fr h=DK P W0 N a b ks R fr h (evalO fr c):=id rfl
def FU:DK P W0 N a b ks R fr h (some (.bool true))=VK P W0 N a ks R fr h:=id rfl
def Z9:DK P W0 N a b ks R fr h (some (.bool false))=VK P W0 N b ks R fr h:=id rfl
def Mr:VK P W0 N (.loop a) ks R fr h=W9 P W0 N a ks R fr h:=id rfl
def aaq:KN P W0 N [] R fr h=R .normal fr h:=id rfl
def KN_seq:KN P W0 N (.seq a::ks) R fr h=VK P W0 N a ks R fr h:=id rfl
def aar:KN P W0 N (.blk i::ks) R fr h=KN P W0 N ks R fr h:=id rfl
def u9:KX P W0 N .ret [] R fr h=R .ret fr h:=id rfl
def jJ:KX P W0 N .ret (.seq a::ks) R fr h=KX P W0 N .ret ks R fr h:=id rfl
def MU:KX P W0 N .ret (.blk i::ks) R fr h=KX P W0 N .ret ks R fr h:=id rfl
def Tu:KX P W0 N (.exit j) [] R fr h=R (.exit j) fr h:=id rfl
def BE:KX P W0 N (.exit j) (.seq a::ks) R fr h=KX P W0 N (.exit j) ks R fr h:=id rfl
def fA:KX P W0 N (.exit j) (.blk i::ks) R fr h=if j=i then KN P W0 N ks R fr h else KX P W0 N (.exit j) ks R fr h:=id rfl
def u5:KE P W0 N R ks .normal fr h=KN P W0 N ks R fr h:=id rfl
def aas:KE P W0 N R ks .ret fr h=KX P W0 N .ret ks R fr h:=id rfl
def O3:KE P W0 N R ks (.exit i) fr h=KX P W0 N (.exit i) ks R fr h:=id rfl
def aat:KO P W0 N ops ks R [] fr h=KN P W0 N ks R fr h:=id rfl
def Hf {l:List Oper}:KO P W0 N ops ks R (o::l) fr h=Uk P W0 N ops ks R o l fr h (wantA ops fr o):=id rfl
def DE {l l':List Oper}:KO P W0 N ops ks R (List.append (o::l) l') fr h=KO P W0 N ops ks R (o::List.append l l') fr h:=id rfl
def QV {l:List Oper}:KO P W0 N ops ks R (List.append [] l) fr h=KO P W0 N ops ks R l fr h:=id rfl
def Jm {l:List Oper}:Uk P W0 N ops ks R o l fr h (some true)=XZ P W0 N ops ks R o l fr h (j5 o):=id rfl
def fX {l:List Oper}:Uk P W0 N ops ks R o l fr h (some false)=Ax P W0 N ops ks R l h (putDst N fr o.dst Hx):=id rfl
def DD {l:List Oper}:XZ P W0 N ops ks R o l fr h true=dK P W0 N ops ks R o l fr h:=id rfl
def GJ {l:List Oper}:XZ P W0 N ops ks R o l fr h false=YH P W0 N ops ks R o l fr (stepOp P fr h o):=id rfl
def uq {l:List Oper} {v:Value} {h':AHeap}:YH P W0 N ops ks R o l fr (some (v,h'))=Ax P W0 N ops ks R l h' (putDst N fr o.dst v):=id rfl
def KU {l:List Oper}:Ax P W0 N ops ks R l h (some fr)=KO P W0 N ops ks R l fr h:=id rfl
end eqs
def VK.sound {c:Code} {R:Exit->EP->AHeap->Prop} (q:VK P W0 N c [] R fr h):M9 P W0 N c fr h R:=VC.sound q
def DK.intro {a b:Code} {t:Bool} {ks:List Kt} {R:Exit->EP->AHeap->Prop} (d:t=true->VK P W0 N a ks R fr h) (hf:t=false->VK P W0 N b ks R fr h):DK P W0 N a b ks R fr h (some (.bool t)):=by
 cases t
 .exact hf rfl
 .exact d rfl
def dK.intro {ks:List Kt} {R:Exit->EP->AHeap->Prop} {o:Oper} {l:List Oper} {g:FuncId} {args:List Value} {fn:Func} {c:Code} {d:Value->AHeap->Prop} (e:calleeOf fr o=some (g,args)) (hg:Good P g fn c) (ha:AC P W0 g args h d)
  (f:∀v h',WF h'->d v h'->Ax P W0 N ops ks R l h' (putDst N fr o.dst v)):dK P W0 N ops ks R o l fr h:=.inl (Mc e hg ha f)
def dK.yield {ks:List Kt} {R:Exit->EP->AHeap->Prop} {o:Oper} {l:List Oper} {d:Nat} {args:List Value} {e:Value->AHeap->Prop} (f:yieldOf fr o=some (d,args)) (ha:AY P W0 d args h e)
  (g:∀v h',WF h'->e v h'->Ax P W0 N ops ks R l h' (putDst N fr o.dst v)):dK P W0 N ops ks R o l fr h:=.inr ⟨d,args,f,ha.post.mono fun v h' ⟨hw,k⟩=>g v h' hw k⟩
def lW (R:Value->AHeap->Prop):Exit->EP->AHeap->Prop:=fun e _ h=>e=.normal/\R (.bool true) h
def cf {R:Value->AHeap->Prop}:lW R .normal fr h=R (.bool true) h:=by simp[lW]
def VK.round {ps:Array Tmp} {assign body:Code} {args:List Value} {d:AHeap} {R:Value->AHeap->Prop} (q:VK P W0 N (.seq assign body) [] (lW R) (putPs ps.toList args fr) d):Rnd P W0 N ps fr assign body args d R:=by
 have g:VC P W0 N assign (vseq (VC P W0 N body (KE P W0 N (lW R) [])) (KE P W0 N (lW R) [])) (putPs ps.toList args fr) d:=q;refine(VC.sound g).mono fun e k h2 f=>?_;cases e with
 |normal=>exact⟨rfl,VC.sound f⟩
 |_=>exact absurd f.1 YX
def VK.rangeFunc {ks:List Kt} {R:Exit->EP->AHeap->Prop} {g:Operand} {ps:Array Tmp} {assign body:Code} {gf:FuncId} {fn:Func} {c:Code} {first cap:Array Value}
  (hg:evalO fr g=some (.func (.func gf) first cap)) (d:Good P gf fn c) (l:ps.toList.all (fun p=>Nat.blt p N)=true)
  (m:∀(f:Ac) (k:Nat),(∀(args:List Value) (e:AHeap) (R:Value->AHeap->Prop),args.length=ps.size->h.next<=e.next->VK P W0 N (.seq assign body) [] (lW R) (putPs ps.toList args fr) e->AY P f k args e R)->
   AC P f gf (first.toList++[Kc k]++cap.toList) h fun _ h'=>WF h'->KN P W0 N ks R fr h'):VK P W0 N (.rangeFunc g ps assign body) ks R fr h:=
 M9.rangeFunc hg d l fun f k n=>(m f k fun args e R' r s q=>n args e R' r s (VK.round q)).post.mono fun _ _ ⟨hw,u⟩=>u hw
def Mz (P:Program) (rs:List ResultVar) (R:Value->AHeap->Prop) (fr:EP) (h:AHeap):Prop:=
 match aresults P fr h rs with
 |some v=>R v h
 |none=>False
def retQ (P:Program) (rs:List ResultVar) (R:Value->AHeap->Prop):Exit->EP->AHeap->Prop
 |.normal,fr,h=>Mz P rs R fr h
 |.ret,fr,h=>Mz P rs R fr h
 |_,_,_=>False
def AC.vc {f:FuncId} {args:List Value} {fn:Func} {c:Code} {R:Value->AHeap->Prop} (hg:Good P f fn c) {n:Nat} (m:fn.ntmps=n) {rs:Array ResultVar} (g:fn.results=rs) (hlen:args.length<=n)
  (k:WF h->VK P W0 n c [] (retQ P rs.toList R) (Xr args) h):AC P W0 f args h R:=by
 subst m;subst g;refine AC.wf fun l=>?_;replace k:=k l;refine .body hg hlen ((VK.sound k).mono fun e fr' h' d=>?_);have key:∀fr h,Mz P fn.results.toList R fr h->∃v,aresults P fr h fn.results.toList=some v/\R v h:=by
  intro fr h d;unfold Mz at d;split at d
  .rename_i v p;exact⟨v,p,d⟩
  .exact d.elim
 cases e with
 |normal=>exact⟨.inl rfl,key _ _ d⟩
 |ret=>exact⟨.inr rfl,key _ _ d⟩
 |_=>exact d.elim
def mkF:List (Nat×Value)->EP
 |[]=>.leaf
 |(t,v)::r=>(mkF r).set t v
def BM (fr:EP):List (Nat×Value)->Prop
 |[]=>True
 |(t,v)::r=>fr.get t=some v/\BM fr r
def Sub.mkF {fr:EP}:∀{l:List (Nat×Value)},BM fr l->Sub (mkF l) fr
 |[],_,k,v,h=>by simp[Fw.mkF,Trie.get]at h
 |(t,u)::r,ha,k,v,h=>by
  simp only[Fw.mkF,Trie.C5]at h;by_cases d:k=t
  .subst d;rw[if_pos rfl]at h;injection h with h;subst h;exact ha.1
  .rw[if_neg d]at h;exact Sub.mkF ha.2 k v h
def cX {I:Nat->EP->AHeap->Prop} {k:Nat} {Q:Exit->EP->AHeap->Prop} (d:Nat) (l:List (Nat×Value)) (e:d<k) (f:BM fr l) (hi:I d (mkF l) h):po I k Q .normal fr h:=
 ⟨d,e,_,Sub.mkF f,hi⟩
def No {I:Nat->EP->AHeap->Prop} {k:Nat} {Q:Exit->EP->AHeap->Prop}:po I k Q .ret fr h=Q .ret fr h:=id rfl
def Wv {I:Nat->EP->AHeap->Prop} {k i:Nat} {Q:Exit->EP->AHeap->Prop}:po I k Q (.exit i) fr h=Q (.exit i) fr h:=id rfl
def W9.intro {c:Code} {ks:List Kt} {R:Exit->EP->AHeap->Prop} (I:Nat->EP->AHeap->Prop) (k0:Nat) (l:List (Nat×Value)) (hs:BM fr l) (d:I k0 (mkF l) h)
  (e:∀k fr h,WF h->I k fr h->VK P W0 N c [] (po I k (KE P W0 N R ks)) fr h):W9 P W0 N c ks R fr h:=
 .loop I k0 _ (Sub.mkF hs) d fun k fr h hi=>M9.wf fun hw=>VC.sound (e k fr h hw hi)
def RDraw (P:Program) (W0:Ac) (N:Nat) (ops:Array Oper) (Q:EP->AHeap->Prop):DT->wi->EP->AHeap->Prop
 |.done,_,fr,h=>Q fr h
 |.no,_,_,_=>True
 |.fl i t,pend,fr,h=>
  onO ops[i]? fun o=>onO (wantA ops fr o) fun w=>
   Li w (onO (stepOp P fr h o) fun p=>p.2=h/\onO (putDst N fr o.dst p.1) fun fr'=>RDraw P W0 N ops Q t (i::pend) fr' h)
    (onO (putDst N fr o.dst Hx) fun fr'=>RDraw P W0 N ops Q t (i::pend) fr' h)
 |.ch i pre t other,pend,fr,h=>
  (onO ops[i]? fun o=>onO (wantA ops fr o) fun w=>
   Li w
    (Li (j5 o) (CV P W0 N o fr h fun fr' h'=>HoldsAll P ops fr' h' (pend.filter fun p=>!pre.contains p)/\RDraw P W0 N ops Q t (pend.filter fun p=>!pre.contains p) fr' h')
     (onO (stepOp P fr h o) fun p=>onO (putDst N fr o.dst p.1) fun fr'=>HoldsAll P ops fr' p.2 (pend.filter fun p=>!pre.contains p)/\RDraw P W0 N ops Q t (pend.filter fun p=>!pre.contains p) fr' p.2))
    (onO (putDst N fr o.dst Hx) fun fr'=>RDraw P W0 N ops Q t (pend.filter fun p=>!pre.contains p) fr' h))/\
  RDraw P W0 N ops Q other pend fr h
def RDraw.sound {Q:EP->AHeap->Prop}:∀{t:DT} {pend:wi} {fr:EP} {h:AHeap},RDraw P W0 N ops Q t pend fr h->DW P W0 N ops Q t pend fr h:=by
 intro t
 induction t with
 |done=>intro pend fr h q;exact q
 |no=>intro pend fr h _;exact trivial
 |fl i t n=>
  intro pend fr h q;simp only[RDraw]at q;obtain⟨o,f,q⟩:=YO.1 q;obtain⟨w,hw,q⟩:=YO.1 q;simp only[DW,f,hw];cases w with
  |false=>
   obtain⟨fr',d,q⟩:=YO.1 q;simp only[d];exact n q
  |true=>
   obtain⟨⟨v,h'⟩,hs,rfl,q⟩:=YO.1 q;obtain⟨fr',d,q⟩:=YO.1 q;simp only[hs,d];exact⟨trivial,n q⟩
 |ch i pre t other e k=>
  intro pend fr h q;simp only[RDraw]at q;obtain⟨q,r⟩:=q;simp only[DW];refine⟨?_,k r⟩;obtain⟨o,f,q⟩:=YO.1 q;obtain⟨w,hw,q⟩:=YO.1 q;simp only[f,hw];cases w with
  |false=>
   obtain⟨fr',d,q⟩:=YO.1 q;simp only[d];exact e q
  |true=>
   simp only[ie]at q;cases p:j5 o with
   |true=>
    rw[p]at q;obtain⟨g,args,fn,c,l,hg,ha⟩:=q;exact⟨g,args,fn,c,l,hg,ha.mono fun v h' s=>let⟨fr',d,m,h2⟩:=YO.1 s;⟨fr',d,m,e h2⟩⟩
   |false=>
    rw[p]at q;obtain⟨⟨v,h'⟩,hs,q⟩:=YO.1 q;obtain⟨fr',d,m,h2⟩:=YO.1 q;simp only[hs,d];exact⟨m,e h2⟩
def KD (P:Program) (W0:Ac) (N:Nat) (ops:Array Oper) (ks:List Kt) (R:Exit->EP->AHeap->Prop) (t:DT) (pend:wi) (fr:EP) (h:AHeap):Prop:=RDraw P W0 N ops (KE P W0 N R ks .normal) t pend fr h
def KF1 (P:Program) (W0:Ac) (N:Nat) (ops:Array Oper) (ks:List Kt) (R:Exit->EP->AHeap->Prop) (t:DT) (pend:wi) (fr:EP) (h:AHeap) (x:Option Oper):Prop:=
 onO x fun o=>onO (wantA ops fr o) fun w=>
   Li w (onO (stepOp P fr h o) fun p=>p.2=h/\onO (putDst N fr o.dst p.1) fun fr'=>KD P W0 N ops ks R t pend fr' h)
    (onO (putDst N fr o.dst Hx) fun fr'=>KD P W0 N ops ks R t pend fr' h)
def KF2 (P:Program) (W0:Ac) (N:Nat) (ops:Array Oper) (ks:List Kt) (R:Exit->EP->AHeap->Prop) (t:DT) (pend:wi) (fr:EP) (h:AHeap) (o:Oper) (w:Option Bool):Prop:=
  onO w fun w=>Li w (onO (stepOp P fr h o) fun p=>p.2=h/\onO (putDst N fr o.dst p.1) fun fr'=>KD P W0 N ops ks R t pend fr' h)
        (onO (putDst N fr o.dst Hx) fun fr'=>KD P W0 N ops ks R t pend fr' h)
def KF3 (P:Program) (W0:Ac) (N:Nat) (ops:Array Oper) (ks:List Kt) (R:Exit->EP->AHeap->Prop) (t:DT) (pend:wi) (fr:EP) (h:AHeap) (o:Oper) (x:Option (Value×AHeap)):Prop:=
 onO x fun p=>p.2=h/\onO (putDst N fr o.dst p.1) fun fr'=>KD P W0 N ops ks R t pend fr' h
def KF4 (P:Program) (W0:Ac) (N:Nat) (ops:Array Oper) (ks:List Kt) (R:Exit->EP->AHeap->Prop) (t:DT) (pend:wi) (h:AHeap) (x:Option EP):Prop:=
 onO x fun fr'=>KD P W0 N ops ks R t pend fr' h
def KG1 (P:Program) (W0:Ac) (N:Nat) (ops:Array Oper) (ks:List Kt) (R:Exit->EP->AHeap->Prop) (t:DT) (pend:wi) (fr:EP) (h:AHeap) (x:Option Oper):Prop:=
 onO x fun o=>onO (wantA ops fr o) fun w=>
   Li w
    (Li (j5 o) (CV P W0 N o fr h fun fr' h'=>HoldsAll P ops fr' h' pend/\KD P W0 N ops ks R t pend fr' h')
     (onO (stepOp P fr h o) fun p=>onO (putDst N fr o.dst p.1) fun fr'=>HoldsAll P ops fr' p.2 pend/\KD P W0 N ops ks R t pend fr' p.2))
    (onO (putDst N fr o.dst Hx) fun fr'=>KD P W0 N ops ks R t pend fr' h)
def KG2 (P:Program) (W0:Ac) (N:Nat) (ops:Array Oper) (ks:List Kt) (R:Exit->EP->AHeap->Prop) (t:DT) (pend:wi) (fr:EP) (h:AHeap) (o:Oper) (w:Option Bool):Prop:=
  onO w fun w=>Li w
        (Li (j5 o) (CV P W0 N o fr h fun fr' h'=>HoldsAll P ops fr' h' pend/\KD P W0 N ops ks R t pend fr' h')
          (onO (stepOp P fr h o) fun p=>onO (putDst N fr o.dst p.1) fun fr'=>HoldsAll P ops fr' p.2 pend/\KD P W0 N ops ks R t pend fr' p.2))
        (onO (putDst N fr o.dst Hx) fun fr'=>KD P W0 N ops ks R t pend fr' h)
def KG3 (P:Program) (W0:Ac) (N:Nat) (ops:Array Oper) (ks:List Kt) (R:Exit->EP->AHeap->Prop) (t:DT) (pend:wi) (fr:EP) (h:AHeap) (o:Oper) (b:Bool):Prop:=
  Li b (CV P W0 N o fr h fun fr' h'=>HoldsAll P ops fr' h' pend/\KD P W0 N ops ks R t pend fr' h')
          (onO (stepOp P fr h o) fun p=>onO (putDst N fr o.dst p.1) fun fr'=>HoldsAll P ops fr' p.2 pend/\KD P W0 N ops ks R t pend fr' p.2)
def N1 (P:Program) (W0:Ac) (N:Nat) (ops:Array Oper) (ks:List Kt) (R:Exit->EP->AHeap->Prop) (t:DT) (pend:wi) (fr:EP) (h:AHeap) (o:Oper):Prop:=
 CV P W0 N o fr h fun fr' h'=>HoldsAll P ops fr' h' pend/\KD P W0 N ops ks R t pend fr' h'
def KG4 (P:Program) (W0:Ac) (N:Nat) (ops:Array Oper) (ks:List Kt) (R:Exit->EP->AHeap->Prop) (t:DT) (pend:wi) (fr:EP) (o:Oper) (x:Option (Value×AHeap)):Prop:=
 onO x fun p=>onO (putDst N fr o.dst p.1) fun fr'=>HoldsAll P ops fr' p.2 pend/\KD P W0 N ops ks R t pend fr' p.2
def KG5 (P:Program) (W0:Ac) (N:Nat) (ops:Array Oper) (ks:List Kt) (R:Exit->EP->AHeap->Prop) (t:DT) (pend:wi) (h:AHeap) (x:Option EP):Prop:=
 onO x fun fr'=>HoldsAll P ops fr' h pend/\KD P W0 N ops ks R t pend fr' h
section eqs
variable {ks : List Kt} {R : Exit → EP → AHeap → Prop} {o : Oper} {i : Nat} {t other : DT} {pend pre : List Nat} {v : Value} {h' : AHeap}
def KD_done:KD P W0 N ops ks R .done pend fr h=KN P W0 N ks R fr h:=id rfl
def KD_no:KD P W0 N ops ks R .no pend fr h=True:=id rfl
def KD_fl:KD P W0 N ops ks R (.fl i t) pend fr h=KF1 P W0 N ops ks R t (i::pend) fr h ops[i]?:=id rfl
def zv:KF1 P W0 N ops ks R t pend fr h (some o)=KF2 P W0 N ops ks R t pend fr h o (wantA ops fr o):=id rfl
def gj:KF2 P W0 N ops ks R t pend fr h o (some true)=KF3 P W0 N ops ks R t pend fr h o (stepOp P fr h o):=id rfl
def Qx:KF2 P W0 N ops ks R t pend fr h o (some false)=KF4 P W0 N ops ks R t pend h (putDst N fr o.dst Hx):=id rfl
def Ae:KF3 P W0 N ops ks R t pend fr h o (some (v,h))=KF4 P W0 N ops ks R t pend h (putDst N fr o.dst v):=by simp[KF3,KF4,onO]
def iP:KF4 P W0 N ops ks R t pend h (some fr)=KD P W0 N ops ks R t pend fr h:=id rfl
def KD_ch:KD P W0 N ops ks R (.ch i pre t other) pend fr h=(KG1 P W0 N ops ks R t (pend.filter fun p=>!pre.contains p) fr h ops[i]?/\KD P W0 N ops ks R other pend fr h):=id rfl
def Hj:KG1 P W0 N ops ks R t pend fr h (some o)=KG2 P W0 N ops ks R t pend fr h o (wantA ops fr o):=id rfl
def aF:KG2 P W0 N ops ks R t pend fr h o (some true)=KG3 P W0 N ops ks R t pend fr h o (j5 o):=id rfl
def N0:KG2 P W0 N ops ks R t pend fr h o (some false)=KF4 P W0 N ops ks R t pend h (putDst N fr o.dst Hx):=id rfl
def Hw:KG3 P W0 N ops ks R t pend fr h o true=N1 P W0 N ops ks R t pend fr h o:=id rfl
def qN:KG3 P W0 N ops ks R t pend fr h o false=KG4 P W0 N ops ks R t pend fr o (stepOp P fr h o):=id rfl
def LU:KG4 P W0 N ops ks R t pend fr o (some (v,h'))=KG5 P W0 N ops ks R t pend h' (putDst N fr o.dst v):=id rfl
def Ca:KG5 P W0 N ops ks R t pend h (some fr)=(HoldsAll P ops fr h pend/\KD P W0 N ops ks R t pend fr h):=id rfl
end eqs
def HD (fr:EP) (d:Option Tmp) (v:Value):Prop:=∀k,d=some k->fr.get k=some v
def H3 (fr:EP) (h:AHeap) (d:Option Tmp) (x:Option (Value×AHeap)):Prop:=∃v,x=some (v,h)/\HD fr d v
def H2 (P:Program) (fr:EP) (h:AHeap) (o:Oper) (w:Option Bool):Prop:=
 match w with
 |some true=>H3 fr h o.dst (stepOp P fr h o)
 |some false=>HD fr o.dst Hx
 |none=>False
def H1 (P:Program) (ops:Array Oper) (fr:EP) (h:AHeap) (x:Option Oper):Prop:=
 match x with
 |some o=>H2 P fr h o (wantA ops fr o)
 |none=>False
def MO (p:Nat):Holds P ops fr h p=H1 P ops fr h ops[p]?:=by
 simp only[Holds,H1];split
 .rename_i o d
  simp only[d,H2];split
  .rename_i hw;simp only[hw,H3,HD]
  .rename_i hw;simp only[hw,HD]
  .rename_i hw;simp only[hw]
 .rename_i d;simp only[d]
def H1_some {o:Oper}:H1 P ops fr h (some o)=H2 P fr h o (wantA ops fr o):=id rfl
def H2_true {o:Oper}:H2 P fr h o (some true)=H3 fr h o.dst (stepOp P fr h o):=id rfl
def Rh {o:Oper}:H2 P fr h o (some false)=HD fr o.dst Hx:=id rfl
def H3_some {d:Option Tmp} {v:Value}:H3 fr h d (some (v,h))=HD fr d v:=by simp[H3]
def HD_some {k:Tmp} {v:Value}:HD fr (some k) v=(fr.get k=some v):=by simp[HD]
def HD_none {v:Value}:HD fr none v=True:=by simp[HD]
def N1.intro {ks:List Kt} {R:Exit->EP->AHeap->Prop} {o:Oper} {t:DT} {pend:wi} {g:FuncId} {args:List Value} {fn:Func} {c:Code} {d:Value->AHeap->Prop} (e:calleeOf fr o=some (g,args)) (hg:Good P g fn c) (ha:AC P W0 g args h d)
  (f:∀v h',WF h'->d v h'->KG5 P W0 N ops ks R t pend h' (putDst N fr o.dst v)):N1 P W0 N ops ks R t pend fr h o:=Mc e hg ha f
def Q7.intro {i:Nat} {ol:List Oper} {ks:List Kt} {R:Exit->EP->AHeap->Prop} (e:P.follows .mixedOrders=true) (t:DT) (d:Ap ol.toArray t=true)
  (f:KD P W0 N ol.toArray ks R t [] fr h):Q7 P W0 N i ol.toArray ks R fr h:=.draw e t d f.sound
end Go.Fw
namespace Go.Fw
variable {P : Program} {h h' : AHeap}
def WF.alloc (hw:WF h) (o:Uw):WF (h.alloc o):=by
 intro i hi
 by_cases e:i=h.next
 .subst e;exact SP _
 .rw[AHeap.IB _ _ _ e]at hi;exact aaR (hw i hi)
def WF.put (hw:WF h) {id:Nat} (o:Uw) (a:id<h.next):WF (h.put id o):=by
 intro i hi;by_cases e:i=id
 .subst e;exact a
 .rw[AHeap.Dz _ _ _ _ e]at hi;exact hw i hi
def WF.kill (hw:WF h) (id:Nat):WF (h.kill id):=by
 intro i hi;by_cases e:i=id
 .subst e;rw[AHeap.IV]at hi;exact absurd rfl hi
 .rw[AHeap.pY _ _ _ e]at hi;exact hw i hi
def WF.lt (hw:WF h) {i:Nat} {o:Uw} (a:h.own i=some o):i<h.next:=hw i (by rw[a];simp)
def sh (o:Uw):(h.alloc o).next=h.next+1:=rfl
def QD (j:Nat) (o:Uw):(h.alloc o).own j=if j=h.next then some o else h.own j:=by
 split
 .rename_i e;subst e;exact AHeap.vA _ _
 .rename_i e;exact AHeap.IB _ _ _ e
def own_put (i j:Nat) (o:Uw):(h.put i o).own j=if j=i then some o else h.own j:=by
 split
 .rename_i e;subst e;exact AHeap.zm _ _ _
 .rename_i e;exact AHeap.Dz _ _ _ _ e
def jt (i j:Nat):(h.kill i).own j=if j=i then none else h.own j:=by
 split
 .rename_i e;subst e;exact AHeap.IV _ _
 .rename_i e;exact AHeap.pY _ _ _ e
def FG {id off:Nat} {c:List Value} (a:h.own id=some (.cells c)):h.read ⟨id,off,none⟩=c[off]?:=by simp[AHeap.read,a]
structure Le (g h:AHeap):Prop where
 ext:h.ext=g.ext
 own:∀i o,g.own i=some o->h.own i=some o
def Le.refl (h:AHeap):Le h h:=⟨rfl,fun _ _ h=>h⟩
def Le.trans {c h2 h3:AHeap} (a:Le c h2) (b:Le h2 h3):Le c h3:=⟨b.ext.trans a.ext,fun i o h=>b.own i o (a.own i o h)⟩
def Le.put {g:AHeap} (a:Le g h) {id:Nat} (o:Uw) (b:g.own id=none):Le g (h.put id o):=
 ⟨a.ext,fun i c hi=>by
  rw[own_put];split
  .rename_i e;subst e;rw[b]at hi;cases hi
  .exact a.own i c hi⟩
def Le.kill {g:AHeap} (a:Le g h) {id:Nat} (b:g.own id=none):Le g (h.kill id):=
 ⟨a.ext,fun i c hi=>by
  rw[jt];split
  .rename_i e;subst e;rw[b]at hi;cases hi
  .exact a.own i c hi⟩
def Le.next {g:AHeap} (a:Le g h) (hw:WF h) {i:Nat} (hi:h.next<=i):g.own i=none:=by
 cases hg:g.own i with
 |none=>rfl
 |some o=>exact absurd (hw.lt (a.own i o hg)) QT
def Le.alloc {g:AHeap} (a:Le g h) (hw:WF h) (o:Uw):Le g (h.alloc o):=
 ⟨a.ext,fun i b hi=>by
  rw[QD];split
  .rename_i e;subst e;rw[a.next hw (J4 _)]at hi;cases hi
  .exact a.own i b hi⟩
def Le.js (h:AHeap) (id:Nat):Le (h.kill id) h:=⟨rfl,fun i a hi=>by
  rw[jt]at hi;split at hi
  .cases hi
  .exact hi⟩
def Le.none {g:AHeap} (a:Le g h) {i:Nat} (hi:h.own i=none):g.own i=none:=by
 cases hg:g.own i with
 |none=>rfl
 |some o=>rw[a.own i o hg]at hi;cases hi
def Le.read {g:AHeap} (a:Le g h) {e:Addr} {x:Value} (d:g.read e=some x):h.read e=some x:=by
 obtain⟨b,off,sp⟩:=e;cases sp with
 |none=>
  simp only[AHeap.read]at d ⊢;split at d
  .rename_i c f;rw[a.own _ _ f];exact d
  .cases d
 |some k=>simp only[AHeap.read]at d ⊢;rw[a.ext];exact d
def elemAddr (v:Value) (k:Nat):Addr:=match v with|.slice (some a) _ _=>Co a k|_=>default
def Tl (a:Addr) (n c k:Nat):elemAddr (.slice (some a) n c) k=Co a k:=rfl
def vW (v:Value) (n:Nat):Prop:=∃a c,v=.slice a n c/\(0<n->a.isSome=true)
structure RS (h:AHeap) (v:Value) (vs:List Value):Prop where
 sl:vW v vs.length
 get:∀i x,vs[i]?=some x->h.read (elemAddr v i)=some x
def RS.le {v:Value} {vs:List Value} (a:RS h v vs) (e:Le h h'):RS h' v vs:=⟨a.sl,fun i x b=>e.read (a.get i x b)⟩
def RS.nil (h:AHeap):RS h (.slice none 0 0) []:=⟨⟨none,0,rfl,YX⟩,fun i x a=>by simp at a⟩
def RS.own {id off n c:Nat} {cs:List Value} (b:h.own id=some (.cells cs)) (e:off+n<=cs.length):RS h (.slice (some ⟨id,off,none⟩) n c) ((cs.drop off).take n):=by
 have d:((cs.drop off).take n).length=n:=by simp;omega
 refine⟨⟨_,c,by rw[d],YX⟩,fun i x a=>?_⟩;rw[Tl,Co,FG b];rw[IK]at a;split at a
 .rw[G3]at a;exact a
 .cases a
def RS.whole {id n c:Nat} {cs:List Value} (a:h.own id=some (.cells cs)) (b:cs.length=n):RS h (.slice (some ⟨id,0,none⟩) n c) cs:=by
 have:=RS.own (c:=c) (off:=0) (n:=n) a QT;simpa[xV,b]using this
def RS.len {v:Value} {vs:List Value} (b:RS h v vs) {t e:TypeId} (d:P.underlying t=some (.slice e)) (h':AHeap):aLen P h' t v=some (.int .i64 vs.length):=by
 obtain⟨a,c,rfl,_⟩:=b.sl;simp[aLen,d]
def RS.addr {v:Value} {vs:List Value} (b:RS h v vs) {t e:TypeId} {d:TypeDesc} (f:P.underlying t=some (.slice e)) (g:P.underlying e=some d) (hs:JO P e=1) {k:IntKind} (i:Nat) (hi:i<vs.length):
  aIndexAddr P t v (.int k i)=some (.pointer (some (elemAddr v i))):=by
 obtain⟨a,c,rfl,EY⟩:=b.sl;obtain⟨a,rfl⟩:=yL.1 (EY QT);have j:(i:Int)<(vs.length:Int):=QT;simp[aIndexAddr,f,j,g,elemAddr,hs]
def ON {e:TypeId} {d:TypeDesc} (b:P.underlying e=some d) (c:isAggD d=false) (a:Addr):aload P h e a=h.read a:=by
 simp[aload,b,c]
def RS.load {v:Value} {vs:List Value} (a:RS h v vs) {e:TypeId} {d:TypeDesc} (b:P.underlying e=some d) (c:isAggD d=false) (i:Nat) (hi:i<vs.length):
  aload P h e (elemAddr v i)=some vs[i]:=by
 rw[ON b c];exact a.get i _ (dR hi)
def RL {α:Type} (R:AHeap->Value->α->Prop) (h:AHeap) (v:Value) (xs:List α):Prop:=
 ∃vs:List Value,RS h v vs/\vs.length=xs.length/\∀(i:Nat) (x:α) (u:Value),xs[i]?=some x->vs[i]?=some u->R h u x
def IJ (_:AHeap) (v:Value) (n:Int):Prop:=v=.int .i64 n
def Rr {α:Type} (R:AHeap->Value->α->Prop):Prop:=∀h h' v x,R h v x->Le h h'->R h' v x
def Rr.IJ:Rr Fw.IJ:=fun _ _ _ _ r _=>r
def Rr.RL {α:Type} {R:AHeap->Value->α->Prop} (s:Rr R):Rr (Fw.RL R):=
 fun h h' v x ⟨vs,r,a,b⟩ e=>⟨vs,r.le e,a,fun i x u c d=>s h h' u x (b i x u c d) e⟩
section RL
variable {α : Type} {R : AHeap → Value → α → Prop} {v : Value} {xs : List α}
def RL.sl (a:RL R h v xs):vW v xs.length:=by obtain⟨vs,r,b,_⟩:=a;rw[<-b];exact r.sl
def RL.len (a:RL R h v xs) {t e:TypeId} (b:P.underlying t=some (.slice e)) (h':AHeap):aLen P h' t v=some (.int .i64 xs.length):=by
 obtain⟨vs,r,c,_⟩:=a;rw[r.len b,c]
def RL.addr (a:RL R h v xs) {t e:TypeId} {d:TypeDesc} (b:P.underlying t=some (.slice e)) (c:P.underlying e=some d) (hs:JO P e=1) {k:IntKind} (i:Nat) (hi:i<xs.length):
  aIndexAddr P t v (.int k i)=some (.pointer (some (elemAddr v i))):=by
 obtain⟨vs,r,f,_⟩:=a;exact r.addr b c hs i QT
def RL.load (a:RL R h v xs) {e:TypeId} {d:TypeDesc} (b:P.underlying e=some d) (c:isAggD d=false) (i:Nat) (hi:i<xs.length):
  ∃u,aload P h e (elemAddr v i)=some u/\R h u xs[i]:=by
 obtain⟨vs,r,g,f⟩:=a;exact⟨_,r.load b c i QT,f i _ _ (dR hi) (dR QT)⟩
def RL.loadI {xs:LF} (a:RL IJ h v xs) {e:TypeId} {d:TypeDesc} (b:P.underlying e=some d) (c:isAggD d=false) (i:Nat) (hi:i<xs.length):
  aload P h e (elemAddr v i)=some (.int .i64 xs[i]):=by obtain⟨u,f,h2⟩:=a.load b c i hi;rw[f,h2]
def RL.nil:RL R h (.slice none 0 0) []:=⟨[],RS.nil h,rfl,fun i x u a=>by simp at a⟩
end RL
def RL.Kr {v:Value} {xs:LF} (r:RS h v (xs.map (Value.int .i64))):RL IJ h v xs:=
 ⟨_,r,YX,fun i x u b a=>by rw[Rv,b]at a;simp at a;exact a.symm⟩
def RL.cellsI {v:Value} {xs:LF} (r:RL IJ h v xs):RS h v (xs.map (Value.int .i64)):=by
 obtain⟨vs,r,a,b⟩:=r;have:vs=xs.map (Value.int .i64):=by
  apply Ll
  .simp[a]
  .intro i c h2
   have d:i<xs.length:=QT;have:=b i xs[i] vs[i] (dR d) (dR c);unfold IJ at this;simp[this]
 subst this;exact r
def Gm (k:Nat) (a:k<4611686018427387904):awrap .i64 ((k:Int)+1)=((k+1:Nat):Int):=by
 rw[GQ _ QT QT];omega
def J7 {id:Nat} {c:List Value} (b:h.own id=some (.cells c)):∀(n off:Nat),off+n<=c.length->readN h ⟨id,off,none⟩ n=some ((c.drop off).take n)
 |0,off,_=>by simp[readN]
 |n+1,off,e=>by
  have a:off<c.length:=QT;have d:=J7 b n (off+1) QT;simp only[readN,FG b,dR a,Co];rw[d]
  conv=>rhs;rw[BG a,CG]
def HU {t:TypeId} {d:TypeDesc} {k id off:Nat} {c:List Value} (a:P.underlying t=some d) (b:isAggD d=true) (hs:JO P t=k) (e:h.own id=some (.cells c)) (f:off+k<=c.length):
  aload P h t ⟨id,off,none⟩=some (.agg ((c.drop off).take k).toArray):=by
 simp only[aload,a,b,cond_true,hs,J7 e k off f]
def wT {t:TypeId} {d:TypeDesc} {id off:Nat} {c:List Value} (a:P.underlying t=some d) (b:isAggD d=false) (e:h.own id=some (.cells c)):aload P h t ⟨id,off,none⟩=c[off]?:=by
 rw[ON a b,FG e]
def RD (x:Int):awrap .u8 x=x%256:=by rw[pE];simp[IntKind.wrap,IntKind.bits,IntKind.signed]
def HY (x:Int) (a:0<=x) (h2:x<=4611686018427387904):awrap .i64 x=x:=GQ x QT QT
def vW.one {v:Value} {n:Nat} (b:vW v n):v.oneCell'=true:=by obtain⟨a,c,rfl,_⟩:=b;rfl
def RL.one {α:Type} {R:AHeap->Value->α->Prop} {v:Value} {xs:List α} (a:RL R h v xs):v.oneCell'=true:=a.sl.one
def RL.le {α:Type} {R:AHeap->Value->α->Prop} (s:Rr R) {v:Value} {xs:List α} (a:RL R h v xs) (e:Le h h'):RL R h' v xs:=(Rr.RL s) _ _ _ _ a e
def aBox3 {a b c:Value} (ha:a.oneCell'=true) (hb:b.oneCell'=true) (d:c.oneCell'=true):Qq h (.agg #[a,b,c])=some (.pointer (some ⟨h.next,0,none⟩),h.alloc (.cells [a,b,c])):=by
 simp[Qq,QX,Value.cells,ha,hb,d]
def Qr {t:TypeId} {d:TypeDesc} {id off:Nat} {c:List Value} {x:Value} (b:P.underlying t=some d) (hs:JO P t=1) (e:h.own id=some (.cells c)) (a:off<c.length) (f:x.cells=#[x]) (g:x.oneCell'=true):
  aStore P h t (.pointer (some ⟨id,off,none⟩)) x=some (h.put id (.cells (c.set off x))):=by
 have:off+1<=c.length:=a;simp[aStore,e,f,hs,b,this,g,putCells]
end Go.Fw
namespace Go.Fw
section
variable {P : Program} {h h' : AHeap}
structure CS (k:Nat) (h:AHeap) (v:Value) (n:Nat) (cs:List Value):Prop where
 sl:vW v n
 len:cs.length=n*k
 get:∀i x,cs[i]?=some x->h.read (elemAddr v i)=some x
def CS.le {k n:Nat} {v:Value} {cs:List Value} (c:CS k h v n cs) (e:Le h h'):CS k h' v n cs:=⟨c.sl,c.len,fun i x a=>e.read (c.get i x a)⟩
def RS.cs {v:Value} {vs:List Value} (r:RS h v vs):CS 1 h v vs.length vs:=⟨r.sl,YX,r.get⟩
def CS.rs {v:Value} {n:Nat} {vs:List Value} (r:CS 1 h v n vs):RS h v vs:=by
 have:vs.length=n:=by simpa using r.len
 subst this;exact⟨r.sl,r.get⟩
def CS.nil (k:Nat) (h:AHeap):CS k h (.slice none 0 0) 0 []:=⟨⟨none,0,rfl,YX⟩,YX,fun i x a=>by simp at a⟩
def AM:∀(cs:List Value) (a:Addr),(∀i x,cs[i]?=some x->h.read (Co a i)=some x)->readN h a cs.length=some cs
 |[],_,_=>rfl
 |c::cs,a,hg=>by
  have b:=hg 0 c rfl;have d:=AM cs (Co a 1) fun i x e=>by
   have:=hg (i+1) x (by simpa using e);simpa[Co,Lj,aam,Nat.add_left_comm]using this
  simp only[jD,readN];rw[show h.read a=some c by simpa[Co]using b,d]
def CS.readN {k n:Nat} {a:Addr} {cap:Nat} {cs:List Value} (c:CS k h (.slice (some a) n cap) n cs):readN h a (n*k)=some cs:=by
 rw[<-c.len];exact AM cs a fun i x b=>c.get i x b
def CS.src {k n:Nat} {v:Value} {cs:List Value} {e:TypeId} (b:JO P e=k) (c:CS k h v n cs):srcCells P h e v=some (n,cs):=by
 obtain⟨a,cap,rfl,hs⟩:=c.sl;cases a with
 |none=>
  have d:n=0:=by cases n with|zero=>rfl|succ n=>simp at hs
  subst d;have:cs=[]:=by simpa using c.len
  subst this;simp[srcCells]
 |some a=>simp[srcCells,b,c.readN]
def CS.first {k n:Nat} {v:Value} {cs:List Value} (c:CS k h v n cs) (f:n≠0) (m:Nat) (d:m<=n):firstN h k m v=some (cs.take (m*k)):=by
 obtain⟨a,cap,rfl,hs⟩:=c.sl;obtain⟨a,rfl⟩:=yL.1 (hs QT);have hle:m*k<=n*k:=Uj _ d;have e:(cs.take (m*k)).length=m*k:=by rw[Ja,c.len];omega
 simp only[firstN,d,if_true]
 conv=>lhs;rw[<-e]
 refine AM _ _ fun i x b=>c.get i x ?_;rw[IK]at b;split at b
 .exact b
 .cases b
def blk:Value->Option Nat
 |.slice (some ⟨b,_,none⟩) _ _=>some b
 |_=>none
def tQ (g:AHeap) (v:Value):Prop:=∀b,blk v=some b->g.own b=none
def GS (k:Nat) (h:AHeap) (v:Value) (n:Nat) (cs:List Value):Prop:=
 cs.length=n*k/\((v=.slice none 0 0/\n=0)\/
  ∃id c cap,v=.slice (some ⟨id,0,none⟩) n cap/\h.own id=some (.cells c)/\c.take (n*k)=cs/\(cap=km+k\/cap=n/\n<1000000000000))
def GS.nil (k:Nat) (h:AHeap):GS k h (.slice none 0 0) 0 []:=⟨YX,.inl ⟨rfl,rfl⟩⟩
def GS.full {k n id:Nat} {c:List Value} (b:h.own id=some (.cells c)) (a:c.length=n*k) (d:n<1000000000000):GS k h (.slice (some ⟨id,0,none⟩) n n) n c:=
 ⟨a,.inr ⟨id,c,n,rfl,b,by rw[<-a,Cp],.inr ⟨rfl,d⟩⟩⟩
def GS.le {k n:Nat} {v:Value} {cs:List Value} (g:GS k h v n cs) (e:Le h h'):GS k h' v n cs:=by
 obtain⟨a,g|⟨id,c,cap,rfl,b,r⟩⟩:=g
 .exact⟨a,.inl g⟩
 .exact⟨a,.inr ⟨id,c,cap,rfl,e.own _ _ b,r⟩⟩
def GS.cs {k n:Nat} {v:Value} {cs:List Value} (g:GS k h v n cs):CS k h v n cs:=by
 obtain⟨b,⟨rfl,rfl⟩|⟨id,c,cap,rfl,d,rfl,e⟩⟩:=g
 .have : cs = [] := by simpa using b
  subst this;exact .nil k h
 .refine ⟨⟨_, cap, rfl, YX⟩, b, fun i x a => ?_⟩
  rw[Tl,Co,FG d,Qs];rw[IK]at a;split at a
  .exact a
  .cases a
def apT (P:Program) (t xt:TypeId) (k:Nat):Bool:=
  match P.underlying t,P.underlying xt with
  |some (.slice e),some a=>match azero P e with
    |some z=>z.cells.size==JO P e&&z.cells.toList.all (·.oneCell')&&(P.underlying e).isSome&&notIntD a&&JO P e==k&&decide (P.bytesOf e<=100000)
    |none=>false
  |_,_=>false
def GS.append {t xt:TypeId} {k n n':Nat} {v x:Value} {cs news:List Value} (j:apT P t xt k=true) (g:GS k h v n cs) (hs:∀e,JO P e=k->srcCells P h e x=some (n',news))
  (o:cs.all (·.oneCell')=true) (K:news.all (·.oneCell')=true) (i:news.length=n'*k) (hb:n+n'<=1000000000):
  ∃v' h',aAppend P h t xt v x=some (v',h')/\GS k h' v' (n+n') (cs++news)/\(∀f,WF h->Le f h->tQ f v->Le f h'/\tQ f v'):=by
 unfold apT at j;split at j
 .rename_i e L p q
  split at j
  .rename_i z r
   simp only[SH,beq_iff_eq,decide_eq_true_eq]at j;obtain⟨⟨⟨⟨⟨A,B⟩,M⟩,C⟩,m⟩,D⟩:=j;have hs:=hs e m;have N:(n+n')*P.bytesOf e<=140737488355328:=Jh (Xd hb D) xr;have O:n+n'<=140737488355328:=QT;have d:z.cells.size=JO P e/\z.cells.toList.all (·.oneCell')/\(P.underlying e).isSome/\notIntD L/\news.all (·.oneCell')/\(n+n')*P.bytesOf e<=140737488355328/\n+n'<=140737488355328/\news.length=n'*JO P e:=
    ⟨A,B,M,C,K,N,O,by rw[m];exact i⟩
   have hlen:(cs++news).length=(n+n')*k:=by rw[Vw,g.1,i,WB]
   by_cases y:n'=0
   .subst y
    have E:news=[]:=by simpa using i
    subst E;refine⟨v,h,?_,by simpa using g,fun f _ e a=>⟨e,a⟩⟩;obtain⟨F,⟨rfl,rfl⟩|⟨id,c,cap,rfl,G,j,H⟩⟩:=g
    .simp[aAppend,p,q,r,hs,d]
    .have:n<=cap:=by
      rcases H with rfl|⟨rfl,_⟩
      .have : (1000000000 : Nat) <= km := by decide
       omega
      .exact J4 _
     simp only[aAppend,p,q,r,hs];rw[if_pos d,if_pos trivial,if_pos this]
   .obtain ⟨F, ⟨rfl, rfl⟩ | ⟨id, c, cap, rfl, G, s, H⟩⟩ := g
    .have I : cs = [] := by simpa using F
     subst I
     refine⟨_,_,?_,⟨hlen,.inr ⟨h.next,news,km+k,by rfl,AHeap.vA _ _,by simp[<-i],.inl rfl⟩⟩,fun f hw e a=>⟨e.alloc hw _,?_⟩⟩
     .have l : ¬ km <= 0 := by decide
      have u:¬(0+n'<=0):=QT;simp only[aAppend,p,q,r,hs];rw[if_pos d,if_neg y,if_neg l,if_neg u];simp[DJ,m]
     .intro b hb;simp[blk]at hb;subst hb;exact e.next hw (J4 _)
    .have w:Fw.readN h ⟨id,0,none⟩ (n*k)=some cs:=by
      have:n*k<=c.length:=by have:=F;rw[<-s,Ja]at this;omega
      rw[J7 G (n*k) 0 QT];simp[s]
     rcases H with rfl|⟨rfl,J⟩
     .refine ⟨_, (h.kill id).alloc (.cells (cs ++ news)), ?_, ⟨hlen, .inr ⟨h.next, cs ++ news, km + k, by rfl, by exact AHeap.vA _ _, by rw [<- hlen, Cp], .inl rfl⟩⟩, fun f hw e a => ⟨(e.kill (a _ rfl)).alloc (hw.kill _) _, ?_⟩⟩
      .simp only [aAppend, p, q, r, hs]
       rw[if_pos d,if_neg y,if_pos (Eb _ _),if_pos (by rw[m])];simp only[m,w,G,o,if_true]
      .intro b hb;simp[blk]at hb;subst hb;exact e.next hw (J4 _)
     .have l : ¬ km <= cap := eV.2 (K2 J xr)
      refine⟨_,_,?_,⟨hlen,.inr ⟨h.next,cs++news,km+k,by rfl,AHeap.vA _ _,by rw[<-hlen,Cp],.inl rfl⟩⟩,fun f hw e a=>⟨e.alloc hw _,?_⟩⟩
      .simp only [aAppend, p, q, r, hs]
       rw[if_pos d,if_neg y,if_neg l,if_neg (by omega:¬cap+n'<=cap)];simp only[DJ,m,w,o,if_true]
      .intro b hb;simp[blk]at hb;subst hb;exact e.next hw (J4 _)
  .cases j
 .cases j
def all_rep {v:Value} (a:v.oneCell'=true) (n:Nat):(List.replicate n v).all (·.oneCell')=true:=by
 rw[jE];intro x b;rw[Ho b];exact a
def IG {t e:TypeId} {z:Value} {d:TypeDesc} (h:AHeap) (a:P.underlying t=some (.slice e)) (b:azero P e=some z) (c:z.cells=#[z]) (hf:flat z=true) (f:z.oneCell'=true) (hs:JO P e=1) (g:P.underlying e=some d) (hb:(P.bytesOf e).ble 1000=true) (n:Nat) (i:n<=1000000):
  aMakeSlice P h t (.int .i64 n) (.int .i64 n)=some (.slice (some ⟨h.next,0,none⟩) n n,h.alloc (.cells (List.replicate n z))):=by
 have j:(P.bytesOf e:Int)*n<=140737488355328:=by
  have:P.bytesOf e*n<=1000*1000000:=Xd (qL244 hb) i;have h2:((P.bytesOf e*n:Nat):Int)<=1000000000:=QT;rw[Int.natCast_mul]at h2;omega
 have k:(n:Int)<=140737488355328:=QT;simp[aMakeSlice,a,b,c,hf,hs,g,j,k,QX,By,f]
def wS {t e:TypeId} {d:TypeDesc} {k n id off dl dc:Nat} {c cs:List Value} {v:Value} (o:P.underlying t=some (.slice e)) (p:P.underlying e=some d) (q:JO P e=k) (r:h.own id=some (.cells c)) (i:CS k h v n cs) (f:cs.all (·.oneCell')=true)
  (m:Nat) (s:min n dl=m) (j:m≠0) (hb:off+m*k<=c.length):
  aCopy P h t (.slice (some ⟨id,off,none⟩) dl dc) v=some (.int .i64 m,h.put id (.cells (c.take off++cs.take (m*k)++c.drop (off+m*k)))):=by
 have u:n≠0:=QT;have g:m<=n:=QT;have hlen:aLenOf v=some n:=by obtain⟨a,cap,rfl,_⟩:=i.sl;rfl
 have hf:=i.first u m g
 have hle:m*k<=n*k:=Uj _ g;have l:(cs.take (m*k)).length=m*k:=by rw[Ja,i.len];omega
 have w:(cs.take (m*k)).all (·.oneCell')=true:=by
  rw[jE]at f ⊢;intro x y;exact f x (Wg y)
 have b:off+(cs.take (m*k)).length<=c.length/\(cs.take (m*k)).all (·.oneCell')/\m≠0:=⟨by rw[l];exact hb,w,j⟩;simp only[aCopy,o,hlen,p,fi,if_true,s,q];rw[if_neg (fun e=>j e.1)];simp only[hf,r];rw[if_pos b,NT _ _ _ b.1,l]
def bZ {t e:TypeId} {d:TypeDesc} {dl dc n:Nat} {a:Option Addr} {v:Value} (b:P.underlying t=some (.slice e)) (c:P.underlying e=some d) (f:JO P e≠0) (g:vW v n) (i:min n dl=0):
  aCopy P h t (.slice a dl dc) v=some (.int .i64 (0:Nat),h):=by
 obtain⟨a,cap,rfl,_⟩:=g;simp[aCopy,b,aLenOf,c,i,f]
def sO {t e:TypeId} {d:TypeDesc} {n cap:Nat} {a:Option Addr} (b:P.underlying t=some (.slice e)) (c:P.underlying e=some d) (f:JO P e=1) {k:IntKind} (i:Nat) (hi:i<=n) (m:n<cap\/i<n) (g:n<=cap) (hs:cap<km):
  aSlice P t (.slice a n cap) (some (.int k i)) none none=some (.slice (a.map (fun a=>Co a i)) (n-i) (cap-i)):=by
 have j:¬km<=cap:=QT;have h2:(0:Int)<=i:=QT;have h3:(i:Int)<=n:=QT;have l:¬(cap=i):=QT;simp[aSlice,b,j,g,c,aBounds,aBound,h2,h3,l,f]
def c8 {t e:TypeId} {d:TypeDesc} {n cap:Nat} {a:Addr} (b:P.underlying t=some (.slice e)) (c:P.underlying e=some d) {k:IntKind} (i:Nat) (hi:i<=cap) (f:n<=cap) (hs:cap<km):
  aSlice P t (.slice (some a) n cap) none (some (.int k i)) none=some (.slice (some a) i cap):=by
 have g:¬km<=cap:=QT;have h2:(0:Int)<=i:=QT;have h3:(i:Int)<=cap:=QT;simp[aSlice,b,g,f,c,aBounds,aBound,h2,h3,Co]
def CS.own {k id off n cap:Nat} {c:List Value} (b:h.own id=some (.cells c)) (e:off+n*k<=c.length):CS k h (.slice (some ⟨id,off,none⟩) n cap) n ((c.drop off).take (n*k)):=by
 have d:((c.drop off).take (n*k)).length=n*k:=by simp;omega
 refine⟨⟨_,cap,rfl,YX⟩,d,fun i x a=>?_⟩;rw[Tl,Co,FG b];rw[IK]at a;split at a
 .rw[G3]at a;exact a
 .cases a
def vj {t e:TypeId} {d:TypeDesc} {a:Addr} {n cap:Nat} (b:P.underlying t=some (.slice e)) (c:P.underlying e=some d) (hs:JO P e=1) {k:IntKind} (i:Nat) (hi:i<n):
  aIndexAddr P t (.slice (some a) n cap) (.int k i)=some (.pointer (some (Co a i))):=by
 have f:(i:Int)<(n:Int):=QT;simp[aIndexAddr,b,f,c,hs]
def lD {t e:TypeId} {a:Option Addr} {n cap:Nat} (b:P.underlying t=some (.slice e)) (h:AHeap):aLen P h t (.slice a n cap)=some (.int .i64 n):=by simp[aLen,b]
def Na {v v':Value} (hf:∀f,WF h->Le f h->tQ f v->Le f h'/\tQ f v') (hw:WF h) {a:Nat} {o:Uw} (g:h.own a=some o) (hb:blk v≠some a):h'.own a=some o/\blk v'≠some a:=by
 cases i:blk v with
 |none=>
  obtain⟨j,h2⟩:=hf h hw (Le.refl h) (fun b hb=>by rw[i]at hb;cases hb);exact⟨j.own _ _ g,fun e=>by have:=h2 a e;rw[g]at this;cases this⟩
 |some b=>
  have k:a≠b:=by intro e;subst e;exact hb i
  obtain⟨j,h2⟩:=hf (h.kill b) hw (Le.js h b) (fun c d=>by rw[i]at d;injection d with d;subst d;exact AHeap.IV _ _);have:(h.kill b).own a=some o:=by rw[AHeap.pY _ _ _ k];exact g
  exact⟨j.own _ _ this,fun e=>by have h3:=h2 a e;rw[this]at h3;cases h3⟩
def GS.push {t:TypeId} {n id:Nat} {v x:Value} {cs:List Value} (b:apT P t t 1=true) (g:GS 1 h v n cs) (c:h.own id=some (.cells [x])) (a:cs.all (·.oneCell')=true) (d:x.oneCell'=true) (hb:n+1<=1000000000):
  ∃v' h',aAppend P h t t v (.slice (some ⟨id,0,none⟩) 1 1)=some (v',h')/\GS 1 h' v' (n+1) (cs++[x])/\(∀f,WF h->Le f h->tQ f v->Le f h'/\tQ f v'):=
 g.append b (fun e i=>(CS.own (k:=1) (off:=0) (n:=1) (cap:=1) c YX).src i) a (by simp[d]) YX hb
def RL.load' {α:Type} {R:AHeap->Value->α->Prop} {g:AHeap} {v:Value} {xs:List α} (f:RL R g v xs) {e:TypeId} {d:TypeDesc} (a:P.underlying e=some d) (b:isAggD d=false) (i:Nat) (hi:i<xs.length):
  ∃u,(∀h,Le g h->aload P h e (elemAddr v i)=some u)/\R g u xs[i]:=by
 obtain⟨u,c,h2⟩:=f.load (P:=P) a b i hi;refine⟨u,fun h j=>?_,h2⟩;rw[ON a b]at c ⊢;exact j.read c
def rem (l:wi) (h:AHeap):AHeap:=l.foldr (fun i g=>g.kill i) h
def wY (l:wi):(rem l h).ext=h.ext:=by
 induction l with
 |nil=>rfl
 |cons a l b=>exact b
def Q3 (l:wi) (i:Nat):(rem l h).own i=if i∈l then none else h.own i:=by
 induction l with
 |nil=>simp[rem]
 |cons a l b=>
  show((rem l h).kill a).own i=_;rw[jt,b];by_cases e:i=a
  .simp[e]
  .simp[e]
def MR {l:wi} {i:Nat} {o:Uw}:(rem l h).own i=some o↔h.own i=some o/\i∉l:=by
 rw[Q3];split<;>simp_all
def iq (l:wi) (h:AHeap):Le (rem l h) h:=⟨(wY l).symm,fun i o hi=>(MR.1 hi).1⟩
def Le.rem {l l':wi} (a:h'.ext=h.ext) (b:∀i o,h.own i=some o->i∉l->h'.own i=some o/\i∉l'):Le (Fw.rem l h) (Fw.rem l' h'):=
 ⟨by rw[wY,wY,a],fun i o hi=>by
  obtain⟨c,h2⟩:=MR.1 hi;exact MR.2 (b i o c h2)⟩
def Le.Cj {g:AHeap} {l:wi} (e:Le g h) (a:∀i∈l,g.own i=Option.none):Le g (Fw.rem l h):=
 ⟨by rw[wY];exact e.ext,fun i o hi=>MR.2 ⟨e.own _ _ hi,fun b=>by rw[a i b]at hi;cases hi⟩⟩
def Le.rS {l:wi} (e:Le h h'):Le (Fw.rem l h) (Fw.rem l h'):=Le.rem e.ext fun i o hi a=>⟨e.own _ _ hi,a⟩
def bl (v:Value):wi:=(blk v).toList
def ED {v:Value} {i:Nat}:i∈bl v↔blk v=some i:=by simp[bl]
def GS.TQ {k n:Nat} {v:Value} {cs:List Value} {l:wi} (g:GS k h v n cs) (hb:∀b,blk v=some b->b∉l):GS k (rem l h) v n cs:=by
 obtain⟨a,g|⟨id,c,cap,rfl,d,r⟩⟩:=g
 .exact⟨a,.inl g⟩
 .exact⟨a,.inr ⟨id,c,cap,rfl,MR.2 ⟨d,hb id rfl⟩,r⟩⟩
def GS.Rf {k n:Nat} {v:Value} {cs:List Value} (g:GS k h v n cs) {b:Nat} (hb:blk v=some b):h.own b≠none:=by
 obtain⟨d,⟨rfl,_⟩|⟨id,c,cap,rfl,a,r⟩⟩:=g
 .cases hb
 .injection hb with hb;subst hb;rw[a];simp
def cu (v:Value):Prop:=v=.slice none 0 0\/∃a n c,v=.slice a n c/\km<=c
def kz {t xt:TypeId} {v x v':Value} (e:aAppend P h t xt v x=some (v',h')) (g:cu v):cu v':=by
 have key:∀base len cap,v=.slice base len cap->(v=.slice none 0 0\/km<=cap)->cu v':=by
  intro base len cap j b;subst j;unfold aAppend at e;split at e
  .rename_i heq
   injection heq with f h2 h3;subst f h2 h3;split at e
   .split at e
    .split at e
     .split at e
      .injection e with e;injection e with d i;subst d;exact g
      .cases e
     .split at e
      .split at e
       .split at e
        .split at e
         .split at e
          .injection e with e;injection e with d i;subst d;exact .inr ⟨_,_,_,rfl,by assumption⟩
          .cases e
         .cases e
        .cases e
       .cases e
      .split at e
       .rcases b with b | b
        .injection b with f h2 h3;subst f h2 h3;omega
        .contradiction
       .split at e
        .split at e
         .injection e with e;injection e with d i;subst d;exact .inr ⟨_,_,_,rfl,Eb _ _⟩
         .cases e
        .cases e
    .cases e
   .cases e
  .cases e
 rcases g with rfl|⟨a,n,c,rfl,k⟩
 .exact key _ _ _ rfl (.inl rfl)
 .exact key _ _ _ rfl (.inr k)
def Ak (a:Addr) (i j:Nat):Co (Co a i) j=Co a (i+j):=by simp[Co,Lj]
def RS.part {a:Addr} {n cap cap' lo hi:Nat} {vs:List Value} (r:RS h (.slice (some a) n cap) vs) (d:lo<=hi) (h2:hi<=n) (e:vs.length=n):RS h (.slice (some (Co a lo)) (hi-lo) cap') ((vs.drop lo).take (hi-lo)):=by
 have c:((vs.drop lo).take (hi-lo)).length=hi-lo:=by simp;omega
 refine⟨⟨_,cap',by rw[c],YX⟩,fun i x b=>?_⟩;rw[Tl,Ak];rw[IK]at b;split at b
 .rw[G3]at b;have:=r.get (lo+i) x b;rwa[Tl]at this
 .cases b
def RS.none' {a:Option Addr} {n cap cap':Nat} {a':Option Addr} (b:n=0):RS h (.slice a' n cap') []:=by
 subst b;exact⟨⟨a',cap',rfl,YX⟩,fun i x c=>by simp at c⟩
def EM {n:Nat} {v:Value} {cs:List Value} {t e:TypeId} {d:TypeDesc} (i:P.underlying t=some (.slice e)) (j:P.underlying e=some d) (hs:JO P e=1) (g:GS 1 h v n cs) (o:n≠0) (lo hi:Nat) (k:lo<=hi) (h2:hi<=n):
  ∃v',aSlice P t v (some (.int .i64 lo)) (some (.int .i64 hi)) none=some v'/\RS h v' ((cs.drop lo).take (hi-lo)):=by
 have gc:=g.cs.rs;obtain⟨p,⟨rfl,rfl⟩|⟨id,c,cap,rfl,s,u,q⟩⟩:=g
 .exact absurd rfl o
 .have n1 : (0 : Int) <= lo := QT
  have l:(lo:Int)<=hi:=QT;have n3:(hi:Int)<=n:=QT;have m:(0:Int)<=hi:=QT;have b:cs.length=n:=by simpa using p
  rcases q with rfl|⟨rfl,r⟩
  .refine ⟨.slice (some (Co ⟨id, 0, none⟩ lo)) (hi - lo) (km + 1), ?_, gc.part k h2 b⟩
   simp[aSlice,i,j,hs,aBounds,aBound,n1,l,n3,m]
  .have f : ¬ km <= cap := eV.2 (K2 r xr)
   refine⟨.slice (if cap=lo then some ⟨id,0,none⟩else some (Co ⟨id,0,none⟩ lo)) (hi-lo) (cap-lo),?_,?_⟩
   .simp[aSlice,i,j,hs,aBounds,aBound,n1,l,n3,m,f]
   .split
    .have : hi - lo = 0 := QT
     rw[this];simp only[AP];exact RS.none' (a:=none) (cap:=0) rfl
    .exact gc.part k h2 b
end
def kL:=@IF
def kM:=@UR
def kN:=@List.contains_cons
def kO:=@List.contains_nil
def kS1:=nN @Kh (nN @fst_mk (nN @snd_mk (nN @Ft (nN @aao (nN @Ia (nN @aap (nN @ki (nN @xW (nN @vI (nN @Th (nN @FU (nN @Z9 (nN @Mr (nN @aaq (nN @KN_seq (nN @aar (nN @u9 (nN @jJ (nN @MU (nN @Tu (nN @BE (nN @fA (nN @u5 (nN @aas (nN @O3 (nN @aat (nN @Hf (nN @DE (nN @QV (nN @Jm (nN @fX (nN @DD (nN @GJ (nN @uq (nN @KU (nN @No (nN @Wv (nN @aak (nN @Nat.zero_ne_one (nN @aaW (nN @qE (nN @RD (nN @Bool.true_beq (nN @Bool.false_beq (nN @beq_true (nN @beq_false (nN @decide_true (nN @decide_false (nN @Bool.not_not (nN @aal (nN @aaX (nN @Bool.and_false (@Bool.false_and)))))))))))))))))))))))))))))))))))))))))))))))))))))
def kJ1:=nN @Kh (nN @fst_mk (nN @snd_mk (nN @Ft (nN @aao (nN @Ia (nN @aap (nN @ki (nN @xW (nN @vI (nN @Th (nN @FU (nN @Z9 (nN @Mr (nN @aaq (nN @aar (nN @u9 (nN @jJ (nN @MU (nN @Tu (nN @BE (nN @fA (nN @u5 (nN @aas (nN @O3 (nN @aat (nN @Hf (nN @DE (nN @QV (nN @Jm (nN @fX (nN @DD (nN @GJ (nN @uq (nN @KU (nN @No (nN @Wv (nN @aak (nN @Nat.zero_ne_one (nN @aaW (nN @qE (nN @RD (nN @Bool.true_beq (nN @Bool.false_beq (nN @beq_true (nN @beq_false (nN @decide_true (nN @decide_false (nN @Bool.not_not (nN @aal (nN @aaX (nN @Bool.and_false (@Bool.false_and))))))))))))))))))))))))))))))))))))))))))))))))))))
def kD1:=nN @vu.eq_1 (nN @vu.eq_2 (nN @PO.eq_1 (nN @Bool.or_self (nN @Z2 (nN @KD_done (nN @KD_no (nN @KD_fl (nN @zv (nN @gj (nN @Qx (nN @Ae (nN @iP (nN @KD_ch (nN @Hj (nN @aF (nN @N0 (nN @Hw (nN @qN (nN @LU (nN @Ca (nN @MO (nN @H1_some (nN @H2_true (nN @Rh (nN @H3_some (nN @HD_some (nN @HD_none (nN @Bool.or_false (nN @Bool.false_or (nN @Bool.true_or (nN @Bool.or_true (nN @true_and (@and_true)))))))))))))))))))))))))))))))))
def kS2:=nN @cond_true.{1} (nN @cond_false.{1} (nN @Trie.C5 (nN @Ki.{0} (nN @List.append_eq.{0} (nN @E9.{0} (nN @IT.{0} (nN @WJ.{0} (nN @pF.{0} (nN @Ns.{0,0} (nN @beq_self_eq_true.{0} (nN @bLookup.eq_1 (nN @bMapSet.eq_1 (nN @wantA.eq_1 (nN @j5.eq_1 (nN @stepOp.eq_1 (nN @evalO.eq_1 (nN @evalO.eq_2 (nN @evalO.eq_3 (nN @evalO.eq_4 (nN @evalL.eq_1 (nN @evalL.eq_2 (nN @evalP.eq_1 (nN @evalP.eq_2 (nN @evalM.eq_1 (nN @evalM.eq_2 (nN @putDst.eq_1 (nN @putDst.eq_2 (nN @flat.eq_1 (nN @flat.eq_2 (nN @flat.eq_3 (nN @flat.eq_4 (nN @flat.eq_5 (nN @flat.eq_6 (nN @flat.eq_7 (nN @flat.eq_8 (nN @flat.eq_9 (nN @aBuiltin.eq_1 (nN @aBuiltin.eq_2 (nN @aBuiltin.eq_3 (nN @aBuiltin.eq_4 (nN @aBuiltin.eq_5 (nN @aBuiltin.eq_6 (nN @aBuiltin.eq_7 (nN @aBuiltin.eq_8 (nN @BS.eq_1 (nN @guardFree.eq_1 (nN @guardFree.eq_2 (nN @abin.eq_1 (nN @abin.eq_2 (nN @abin.eq_3 (nN @abin.eq_4 (nN @abin.eq_5 (nN @abin.eq_6 (nN @abin.eq_7 (nN @aInt.eq_1 (nN @aInt.eq_2 (nN @aInt.eq_3 (nN @aInt.eq_4 (nN @aInt.eq_5 (nN @aInt.eq_6 (nN @aInt.eq_7 (nN @aInt.eq_8 (nN @aInt.eq_9 (nN @aInt.eq_10 (nN @aInt.eq_11 (nN @aInt.eq_12 (nN @aInt.eq_13 (nN @aInt.eq_14 (nN @aInt.eq_15 (nN @aInt.eq_16 (nN @aUn.eq_1 (nN @aUn.eq_2 (nN @aUn.eq_3 (nN @aNilCheck.eq_1 (nN @aNilCheck.eq_2 (nN @aNilCheck.eq_3 (nN @retQ.eq_1 (nN @retQ.eq_2 (nN @retQ.eq_3 (nN @Mz.eq_1 (nN @aresults.eq_1 (nN @aresultL.eq_1 (nN @aresultL.eq_2 (nN @aresult.eq_1 (nN @aresult.eq_2 (nN @mkF.eq_1 (nN @mkF.eq_2 (nN @Hx.eq_1 (nN @aExtract.eq_1 (nN @aExtract.eq_2 (@calleeOf.eq_1)))))))))))))))))))))))))))))))))))))))))))))))))))))))))))))))))))))))))))))))))))))))))))
def Ud:=nN @kS1 @kS2
def rm:=nN @kD1 (nN @HoldsAll.eq_1 (nN @HoldsAll.eq_2 (nN @IF.{0} (nN @UR.{0} (nN @List.contains_cons.{0} @List.contains_nil.{0})))))
def kJJ:=nN @kJ1 @kS2
theorem vy {p:Prop} (h:p:=by simp only[BM,Ud,Nat.reduceLT,↓reduceIte,Nat.reduceEqDiff,reduceCtorEq];simp):p:=h
theorem pK {p:Prop} (h:p:=by simp only[Ud,Nat.reduceLT,↓reduceIte,Nat.reduceEqDiff,reduceCtorEq]<;>rfl):p:=h
theorem yq {p q:Prop} (x:q) (e:p=q:=by simp only[Ud,Nat.reduceLT,↓reduceIte,Nat.reduceEqDiff,reduceCtorEq];rfl):p:=e.mpr x
def xq:=nN @Xr.eq_1 (nN @argFrom.eq_1 @argFrom.eq_2)
theorem AC.vE {P:Program} {W0:Ac} {h:AHeap} {f:FuncId} {args:List Value} {fn:Func} {c:Code} {R:Value→AHeap→Prop} (hg:Good P f fn c) {n:Nat} (hn:fn.ntmps=n) {rs:Array ResultVar} (hrs:fn.results=rs)
    (hc:WF h→VK P W0 n c [] (retQ P rs.toList R) (Xr args) h) (hlen:args.length≤n:=by simp):AC P W0 f args h R:=AC.vc hg hn hrs hlen hc
section
variable {P : Program} {h h' : AHeap}
def GT (k:Nat) (h:AHeap) (v:Value) (n:Nat) (cs:List Value):Prop:=
 cs.length=n*k/\((v=.slice none 0 0/\n=0)\/
  ∃id c cap,v=.slice (some ⟨id,0,none⟩) n cap/\h.own id=some (.cells c)/\c.take (n*k)=cs/\(cap=km+k\/(n<=cap/\cap<1000000000000/\cap*k<=c.length)))
def GS.gt {k n:Nat} {v:Value} {cs:List Value} (g:GS k h v n cs):GT k h v n cs:=by
 obtain⟨a,g|⟨id,c,cap,rfl,d,b,r⟩⟩:=g
 .exact⟨a,.inl g⟩
 .refine ⟨a, .inr ⟨id, c, cap, rfl, d, b, ?_⟩⟩
  rcases r with r|⟨rfl,r⟩
  .exact .inl r
  .refine .inr ⟨J4 _, r, ?_⟩
   rw[<-a,<-b,Ja];omega
def GT.le {k n:Nat} {v:Value} {cs:List Value} (g:GT k h v n cs) (e:Le h h'):GT k h' v n cs:=by
 obtain⟨a,g|⟨id,c,cap,rfl,b,r⟩⟩:=g
 .exact⟨a,.inl g⟩
 .exact⟨a,.inr ⟨id,c,cap,rfl,e.own _ _ b,r⟩⟩
def GT.kept {k n:Nat} {v:Value} {cs:List Value} (g:GT k h v n cs) (d:∀b o,blk v=some b->h.own b=some o->h'.own b=some o):GT k h' v n cs:=by
 obtain⟨a,q|⟨i,c,cap,rfl,e,f⟩⟩:=g
 .exact⟨a,.inl q⟩
 .exact⟨a,.inr ⟨i,c,cap,rfl,d i _ rfl e,f⟩⟩
def GT.put {k n:Nat} {v:Value} {cs:List Value} (g:GT k h v n cs) {id:Nat} (o:Uw) (hb:blk v≠some id):GT k (h.put id o) v n cs:=
 g.kept fun b d a c=>by rw[AHeap.Dz _ _ _ _ (fun e=>hb (by rw[<-e];exact a))];exact c
def GT.cs {k n:Nat} {v:Value} {cs:List Value} (g:GT k h v n cs):CS k h v n cs:=by
 obtain⟨b,⟨rfl,rfl⟩|⟨id,c,cap,rfl,d,rfl,e⟩⟩:=g
 .have : cs = [] := by simpa using b
  subst this;exact .nil k h
 .refine ⟨⟨_, cap, rfl, YX⟩, b, fun i x a => ?_⟩
  rw[Tl,Co,FG d,Qs];rw[IK]at a;split at a
  .exact a
  .cases a
def GT.Rf {k n:Nat} {v:Value} {cs:List Value} (g:GT k h v n cs) {b:Nat} (hb:blk v=some b):∃c,h.own b=some (.cells c):=by
 obtain⟨d,⟨rfl,rfl⟩|⟨i,c,cap,rfl,a,e⟩⟩:=g
 .cases hb
 .injection hb with hb;subst hb;exact⟨c,a⟩
def GT.append {t xt:TypeId} {k n n':Nat} {v x:Value} {cs news:List Value} (m:apT P t xt k=true) (g:GT k h v n cs) (hs:∀e,JO P e=k->srcCells P h e x=some (n',news))
  (o:cs.all (·.oneCell')=true) (A:news.all (·.oneCell')=true) (d:news.length=n'*k) (hb:n+n'<=1000000000):
  ∃v' h',aAppend P h t xt v x=some (v',h')/\GT k h' v' (n+n') (cs++news)/\(∀f,WF h->Le f h->tQ f v->Le f h'/\tQ f v'):=by
 obtain⟨r,⟨rfl,rfl⟩|⟨id,c,cap,rfl,w,i,Q⟩⟩:=g
 .have B : cs = [] := by simpa using r
  subst B;obtain⟨v',h',C,D,E⟩:=GS.append m (GS.nil k h) hs o A d hb;exact⟨v',h',C,D.gt,E⟩
 .rcases Q with rfl | ⟨s, p, q⟩
  .obtain ⟨v', h', C, D, E⟩ := GS.append m ⟨r, .inr ⟨id, c, _, rfl, w, i, .inl rfl⟩⟩ hs o A d hb
   exact⟨v',h',C,D.gt,E⟩
  .unfold apT at m
   split at m
   .rename_i e R F G
    split at m
    .rename_i z H
     simp only[SH,beq_iff_eq,decide_eq_true_eq]at m;obtain⟨⟨⟨⟨⟨I,J⟩,S⟩,K⟩,y⟩,L⟩:=m;have hs:=hs e y;have T:(n+n')*P.bytesOf e<=140737488355328:=Jh (Xd hb L) xr;have U:n+n'<=140737488355328:=QT;have j:z.cells.size=JO P e/\z.cells.toList.all (·.oneCell')/\(P.underlying e).isSome/\notIntD R/\news.all (·.oneCell')/\(n+n')*P.bytesOf e<=140737488355328/\n+n'<=140737488355328/\news.length=n'*JO P e:=
      ⟨I,J,S,K,A,T,U,by rw[y];exact d⟩
     have hlen:(cs++news).length=(n+n')*k:=by rw[Vw,r,d,WB]
     have u:¬km<=cap:=eV.2 (K2 p xr);have M:Fw.readN h ⟨id,0,none⟩ (n*k)=some cs:=by
      have:n*k<=c.length:=by have:=r;rw[<-i,Ja]at this;omega
      rw[J7 w (n*k) 0 QT];simp[i]
     by_cases N:n'=0
     .subst N
      have O:news=[]:=by simpa using d
      subst O;refine⟨_,h,?_,⟨by simpa using r,.inr ⟨id,c,cap,rfl,w,by simpa using i,.inr ⟨s,p,q⟩⟩⟩,fun f _ e a=>⟨e,a⟩⟩;simp only[aAppend,F,G,H,hs];rw[if_pos j,if_pos trivial,if_pos s];rfl
     .by_cases hf : n + n' <= cap
      .have l:n*k+news.length<=c.length:=by
        rw[d,<-WB];exact Jh (Uj _ hf) q
       refine⟨.slice (some ⟨id,0,none⟩) (n+n') cap,h.put id (.cells (putCells c (n*k) news)),?_,⟨hlen,.inr ⟨id,_,cap,rfl,AHeap.zm _ _ _,?_,.inr ⟨hf,p,by rw[Am];exact q⟩⟩⟩,fun f _ e a=>⟨e.put _ (a _ rfl),a⟩⟩
       .simp only [aAppend, F, G, H, hs]
        rw[if_pos j,if_neg N,if_neg u,if_pos hf];simp only[w,y,Qs,l,if_true]
       .rw [NT _ _ _ l]
        rw[wO (by simp[d];rw[WB];omega)];rw[xV (by simp[d];rw[WB];omega),i]
      .refine ⟨_, _, ?_, ⟨hlen, .inr ⟨h.next, cs ++ news, km + k, rfl, AHeap.vA _ _, by rw [<- hlen, Cp], .inl rfl⟩⟩, fun f hw e a => ⟨e.alloc hw _, ?_⟩⟩
       .simp only [aAppend, F, G, H, hs]
        rw[if_pos j,if_neg N,if_neg u,if_neg hf];simp only[DJ,y,M,o,if_true]
       .intro b hb;simp[blk]at hb;subst hb;exact e.next hw (J4 _)
    .cases m
   .cases m
def GT.push {t:TypeId} {n id:Nat} {v x:Value} {cs:List Value} (b:apT P t t 1=true) (g:GT 1 h v n cs) (c:h.own id=some (.cells [x])) (a:cs.all (·.oneCell')=true) (d:x.oneCell'=true) (hb:n+1<=1000000000):
  ∃v' h',aAppend P h t t v (.slice (some ⟨id,0,none⟩) 1 1)=some (v',h')/\GT 1 h' v' (n+1) (cs++[x])/\(∀f,WF h->Le f h->tQ f v->Le f h'/\tQ f v'):=
 GT.append b g (fun e i=>CS.src i (CS.own (k:=1) (off:=0) (n:=1) (cap:=1) c YX)) a (by simpa using d) YX hb
def GT.cut {k n:Nat} {v:Value} {cs:List Value} {t e:TypeId} {d:TypeDesc} (i:P.underlying t=some (.slice e)) (j:P.underlying e=some d) (hs:JO P e=k) (g:GT k h v n cs) (m:Nat) (r:m<=n):
  ∃v',aSlice P t v none (some (.int .i64 m)) none=some v'/\GT k h v' m (cs.take (m*k))/\blk v'=blk v:=by
 obtain⟨s,⟨rfl,rfl⟩|⟨id,c,cap,rfl,q,u,w⟩⟩:=g
 .obtain rfl : m = 0 := QT
  refine⟨.slice none 0 0,?_,⟨YX,.inl ⟨rfl,rfl⟩⟩,rfl⟩;have:¬km<=0:=by decide
  simp[aSlice,i,j,this,aBounds,aBound]
 .have h2 : (0 : Int) <= m := QT
  have l:m*k<=n*k:=Uj _ r;have a:cs.take (m*k)=c.take (m*k):=by rw[<-u,aaU,bE l]
  have b:(cs.take (m*k)).length=m*k:=by rw[Ja,s];omega
  rcases w with rfl|⟨o,f,p⟩
  .have h3 : (m : Int) <= n := QT
   refine⟨.slice (some ⟨id,0,none⟩) m (km+k),?_,⟨b,.inr ⟨id,c,_,rfl,q,a.symm,.inl rfl⟩⟩,rfl⟩;simp[aSlice,i,j,hs,aBounds,aBound,Co,h2,h3]
  .have x : ¬ km <= cap := eV.2 (K2 f xr)
   have h3:(m:Int)<=cap:=QT;refine⟨.slice (some ⟨id,0,none⟩) m cap,?_,⟨b,.inr ⟨id,c,_,rfl,q,a.symm,.inr ⟨QT,f,p⟩⟩⟩,rfl⟩;simp[aSlice,i,x,o,j,aBounds,aBound,h2,h3,Co]
end
end Go.Fw
namespace Go.Fw
variable {P : Program} {h h' : AHeap}
def Is {α:Type} (R:AHeap->Value->α->Prop) (h:AHeap) (v:Value) (xs:List α):Prop:=
 ∃us:List Value,GS 1 h v us.length us/\us.length=xs.length/\us.all (·.oneCell')=true/\∀(i:Nat) x u,xs[i]?=some x->us[i]?=some u->R (rem (bl v) h) u x
section
variable {α : Type} {R : AHeap → Value → α → Prop} {v : Value} {xs : List α}
def Is.rl (s:Rr R) (g:Is R h v xs):RL R h v xs:=by
 obtain⟨us,a,b,_,c⟩:=g;exact⟨us,a.cs.rs,b,fun i x u d e=>s _ _ _ _ (c i x u d e) (iq _ _)⟩
def Is.le (s:Rr R) (g:Is R h v xs) (e:Le h h'):Is R h' v xs:=by
 obtain⟨us,a,b,c,d⟩:=g;exact⟨us,a.le e,b,c,fun i x u f j=>s _ _ _ _ (d i x u f j) e.rS⟩
def Is.empty (R:AHeap->Value->α->Prop) {id:Nat} (a:h.own id=some (.cells [])):Is R h (.slice (some ⟨id,0,none⟩) 0 0) []:=⟨[],GS.full a rfl xr,rfl,rfl,fun i x u b=>by simp at b⟩
def Is.push (s:Rr R) {t:TypeId} (p:apT P t t 1=true) (g:Is R h v xs) (c:WF h) {u:Value} {x:α} (q:R (rem (bl v) h) u x) (u1:u.oneCell'=true) (G:xs.length<=100000000):
  ∃k v' a,h.alloc (.cells [u])=k/\aAppend P k t t v (.slice (some ⟨h.next,0,none⟩) 1 1)=some (v',a)/\Is R a v' (xs++[x])/\Le h k/\WF k/\
   (∀f,Le f h->tQ f v->Le f a/\tQ f v')/\(∀b o,h.own b=some o->blk v≠some b->a.own b=some o/\blk v'≠some b):=by
 obtain⟨us,r,m,n,z⟩:=g;have l4:Le h (h.alloc (.cells [u])):=(Le.refl h).alloc c _;have l:WF (h.alloc (.cells [u])):=c.alloc _
 have A:(h.alloc (.cells [u])).own h.next=some (.cells [u]):=AHeap.vA _ _
 obtain⟨v',a,B,C,hf⟩:=GS.push (P:=P) p (r.le l4) A n u1 QT;refine⟨_,v',a,rfl,B,⟨us++[u],?_,by simp[m],by simpa[u1]using n,fun i y w d hw=>?_⟩,l4,l,fun f D af=>hf f l (D.trans l4) af,fun b o E hb=>Na hf l (l4.own _ _ E) hb⟩
 .rw[Vw];exact C
 .have j : tQ (rem (bl v) h) v := fun b hb => by rw [Q3, if_pos (ED.2 hb)]
  obtain⟨l5,F⟩:=hf _ l ((iq (bl v) h).trans l4) j;have le:Le (rem (bl v) h) (rem (bl v') a):=l5.Cj fun i hi=>F i (ED.1 hi);by_cases hi:i<us.length
  .rw [US hi] at hw
   rw[US QT]at d;exact s _ _ _ _ (z i y w d hw) le
  .have e:i=us.length:=by
    have:=(bH.1 hw).1;simp at this;omega
   subst e;rw[kc QT]at hw;rw[kc QT,m]at d;simp at hw d;subst hw d;exact s _ _ _ _ q le
def RMR (l:wi) (R:AHeap->Value->α->Prop):AHeap->Value->α->Prop:=fun h u x=>R (rem l h) u x
def RMR.stays (s:Rr R) (l:wi):Rr (RMR l R):=fun _ _ _ _ r e=>s _ _ _ _ r e.rS
def Qn (l l':wi) (h:AHeap):Le (rem l (rem l' h)) (rem l' (rem l h)):=
 ⟨by simp[wY],fun i o hi=>by
  obtain⟨a,h2⟩:=MR.1 hi;obtain⟨h3,b⟩:=MR.1 a;exact MR.2 ⟨MR.2 ⟨h3,h2⟩,b⟩⟩
def Is.remI (s:Rr R) {l:wi} (g:Is R (rem l h) v xs):Is (RMR l R) h v xs:=by
 obtain⟨us,a,b,c,d⟩:=g;exact⟨us,a.le (iq _ _),b,c,fun i x u e f=>s _ _ _ _ (d i x u e f) (Qn _ _ _)⟩
def Is.remE (s:Rr R) {l:wi} (g:Is (RMR l R) h v xs) (hb:∀b,blk v=some b->b∉l):Is R (rem l h) v xs:=by
 obtain⟨us,a,c,d,e⟩:=g;exact⟨us,a.TQ hb,c,d,fun i x u f j=>s _ _ _ _ (e i x u f j) (Qn _ _ _)⟩
def Is.zS (s:Rr R) {l:wi} {t:TypeId} (k:apT P t t 1=true) (g:Is R (rem l h) v xs) (d:WF h) {u:Value} {x:α} (m:R (rem l (rem (bl v) h)) u x) (u1:u.oneCell'=true) (n:xs.length<=100000000)
  (hb:∀b,blk v=some b->b∉l) (p:∀b∈l,h.own b≠none):
  ∃a v' c,h.alloc (.cells [u])=a/\aAppend P a t t v (.slice (some ⟨h.next,0,none⟩) 1 1)=some (v',c)/\Is R (rem l c) v' (xs++[x])/\Le h a/\WF a/\
   (∀f,Le f h->tQ f v->Le f c/\tQ f v')/\(∀b o,h.own b=some o->blk v≠some b->c.own b=some o/\blk v'≠some b):=by
 obtain⟨a,v',c,q,r,w,l4,y,z,e⟩:=Is.push (RMR.stays s l) k (g.remI s) d (u:=u) (x:=x) m u1 n;refine⟨a,v',c,q,r,w.remE s fun b AD i=>?_,l4,y,z,e⟩;cases j:h.own b with
 |none=>exact p b i j
 |some o=>exact(e b o j fun A=>hb b A i).2 AD
end
end Go.Fw
