/- A text. -/
import Derived.OrdersIn
import Derived.Orders
import Derived.Test.YtkccdnmaaelbiaaGreatFwRules
set_option linter.all false
set_option maxRecDepth 99999
set_option maxHeartbeats 9999999
namespace Go.Fw
section
variable{P:Program}{W0:LA}{N:Nat}{ops:Array Oper}{fr:aap}{h:aae}
theorem aM{fr fr':aap}{x:Operand}(a:∀t,x=.tmp t->fr'.get t=fr.get t):aeA fr' x=aeA fr x:=by
 cases x with
 |tmp t=>exact a t rfl
 |_=>rfl
theorem YK{fr fr':aap}:∀{l:List Operand},(∀t,Operand.tmp t∈l->fr'.get t=fr.get t)->ahv fr' l=ahv fr l
 |[],_=>rfl
 |x::r,a=>by simp only[ahv];rw[aM (fun t e=>a t (by simp[e])),YK (fun t e=>a t (by simp[e]))]
theorem MU{fr fr':aap}:∀{l:List (Nat×Operand)},(∀t,Operand.tmp t∈l.map (·.2)->fr'.get t=fr.get t)->ahR fr' l=ahR fr l
 |[],_=>rfl
 |(i,x)::r,a=>by simp only[ahR];rw[aM (fun t e=>a t (by simp[e])),MU (fun t e=>a t pw)]
theorem tt{fr fr':aap}{x:Option Operand}(a:∀t,x=some (.tmp t)->fr'.get t=fr.get t):ahS fr' x=ahS fr x:=by
 cases x<;>grind[ahS,aM]
theorem qP{o:Oper}{t:Tmp}(h:Operand.tmp t∈o.op.operands.toList):t∈o.looksAt ops:=by unfold Oper.looksAt;grind
theorem yE{fr fr':aap}{o:Oper}(g:∀t,t∈o.looksAt ops->fr'.get t=fr.get t):afN P fr' h o=afN P fr h o:=by
 have d:∀t,Operand.tmp t∈o.op.operands.toList->fr'.get t=fr.get t:=fun t j=>g t (qP j);unfold afN;cases m:o.op<;>rw[m]at d<;>simp only[Op.operands]at d
 case call c=>
  cases c with
  |mk callee args ats=>
   cases callee with
   |builtin b=>simp only[Call.operands]at d;grind[YK]
   |_=>rfl
 case pick c a b=>grind[aM]
 case build t ps=>grind[MU]
 case buildSlice t n ps=>grind[MU]
 case makeFunc f a b=>grind[YK]
 case slice t x l hh mm=>simp only[];rw[aM (x:=x) (fun t e=>d t (by simp[e])),tt (x:=l) (fun t e=>d t (by simp[e])),tt (x:=hh) (fun t e=>d t (by simp[e])),tt (x:=mm) (fun t e=>d t (by simp[e]))]
 case lookup t x i ok=>grind[aM]
 case mapUpdate t x k y=>grind[aM]
 all_goals first
  |rfl
  |(rename_i x;simp only[];rw[aM (x:=x) (fun t e=>d t (by simp[e]))];done)
  |(rename_i _ x;simp only[];rw[aM (x:=x) (fun t e=>d t (by simp[e]))];done)
  |(rename_i x _;simp only[];rw[aM (x:=x) (fun t e=>d t (by simp[e]))];done)
  |(rename_i _ x _;simp only[];rw[aM (x:=x) (fun t e=>d t (by simp[e]))];done)
  |(rename_i _ _ x;simp only[];rw[aM (x:=x) (fun t e=>d t (by simp[e]))];done)
  |(rename_i _ x y;simp only[];rw[aM (x:=x) (fun t e=>d t (by simp[e])),aM (x:=y) (fun t e=>d t (by simp[e]))];done)
  |grind[aM]
theorem Us{fr fr':aap}{o:Oper}(a:∀t,t∈o.looksAt ops->fr'.get t=fr.get t):agU ops fr' o=agU ops fr o:=by
 unfold agU;cases hg:o.guard with
 |none=>rfl
 |some p=>
  obtain⟨j,w⟩:=p;simp only[];cases hd:(ops[j]?).bind (·.dst)with
  |none=>rfl
  |some d=>simp only[];rw[a d (by unfold Oper.looksAt;grind)]
theorem Wf{fr fr':aap}{o:Oper}(b:∀t,t∈o.looksAt ops->fr'.get t=fr.get t):agG fr' o=agG fr o:=by
 have a:∀t,Operand.tmp t∈o.op.operands.toList->fr'.get t=fr.get t:=by grind[qP]
 unfold agG
 cases d:o.op<;>try rfl
 rename_i c;cases c with
 |mk callee args ats=>
  cases callee with
  |value f=>simp only[Op.operands,Call.operands]at a;grind[aM,YK]
  |_=>rfl
inductive DT where
 |done
 |no
 |fl (i:Nat) (t:DT)
 |ch (i:Nat) (pre:II) (t other:DT)
def ze(o:Oper):II:=(o.after.toList.filter fun e=>Region.binds .any e).map (·.on)
def af9(ops:Array Oper)(i:Nat):II:=match ops[i]? with|some o=>ze o|none=>[]
def Y1(ops:Array Oper)(i:Nat):Option Tmp:=match ops[i]? with|some o=>o.dst|none=>none
def Vz(ops:Array Oper)(i:Nat):List Tmp:=match ops[i]? with|some o=>o.looksAt ops|none=>[]
def isFloat(o:Oper):Bool:=
 match o.op with
 |.move _|.assign _|.pick ..|.load ..|.nilCheck _|.binOp ..|.unOp ..|.makeInterface ..|.makeFunc ..|.slice ..|.fieldAddr ..|.field ..|.indexAddr ..|.index ..|.extract ..|.build ..=>true
 |.convert _ _ _=>true
 |.call {callee:=.builtin .len,..}|.call {callee:=.builtin .min,..}|.call {callee:=.builtin .max,..}=>true
 |_=>false
def ajb(ops:Array Oper)(i:Nat):Bool:=
 match Y1 ops i with
 |some d=>(List.range ops.size).all fun j=>!(Vz ops j).contains d||(j !=i&&(af9 ops j).contains i)
 |none=>true
def alr(ops:Array Oper)(i:Nat):Bool:=
 match ops[i]? with
 |some o=>isFloat o&&ajb ops i
 |none=>false
def xx(ops:Array Oper)(rest:II):II:=rest.filter fun x=>(af9 ops x).all fun p=>!rest.contains p
def ako:DT->Bool
 |.no=>false
 |_=>true
def isAlt:DT->Bool
 |.no=>true
 |.ch ..=>true
 |_=>false
def ahB(ops:Array Oper):II->II->DT->Bool
  |rest,_,.done=>rest.isEmpty
  |_,cs,.no=>cs.isEmpty
  |rest,_,.fl i t=>rest.contains i&&alr ops i&&(af9 ops i).all (fun p=>!rest.contains p)&&ako t&&ahB ops (rest.filter fun x=>x !=i) (xx ops (rest.filter fun x=>x !=i)) t
  |rest,cs,.ch i pre t other=>rest.contains i&&(af9 ops i).all (fun p=>!rest.contains p)&&pre.all (fun q=>(af9 ops i).contains q)&&
      ako t&&ahB ops (rest.filter fun x=>x !=i) (xx ops (rest.filter fun x=>x !=i)) t&&isAlt other&&ahB ops rest (cs.filter fun x=>x !=i) other
def ui(ops:Array Oper)(rest:II)(t:DT):Bool:=ako t&&ahB ops rest (xx ops rest) t
def gN(ops:Array Oper)(t:DT):Bool:=
 (List.range ops.size).all (fun i=>(af9 ops i).all fun p=>Nat.blt p i)&&
 (List.range ops.size).all (fun i=>(List.range ops.size).all fun j=>i==j||
  match Y1 ops j with
  |some d=>(!(Vz ops i).contains d||(af9 ops i).contains j||(af9 ops j).contains i)&&Y1 ops i !=some d
  |none=>true)&&
 ui ops (List.range ops.size) t
def Holds(P:Program)(ops:Array Oper)(fr:aap)(h:aae)(p:Nat):Prop:=
  match ops[p]? with
  |some o=>match agU ops fr o with
    |some true=>∃v,afN P fr h o=some (v,h)/\∀d,o.dst=some d->fr.get d=some v
    |some false=>∀d,o.dst=some d->fr.get d=some Yx
    |none=>False
  |none=>False
def afI(P:Program)(ops:Array Oper)(fr:aap)(h:aae):II->Prop
 |[]=>True
 |p::r=>Holds P ops fr h p/\afI P ops fr h r
def DW(P:Program)(W0:LA)(N:Nat)(ops:Array Oper)(Q:aap->aae->Prop):DT->II->aap->aae->Prop
  |.done,_,fr,h=>Q fr h
  |.no,_,_,_=>True
  |.fl i t,a,fr,h=>
    match ops[i]? with
    |none=>False
    |some o=>
      match agU ops fr o with
      |none=>False
      |some false=>match putDst N fr o.dst Yx with
        |none=>False
        |some fr'=>DW P W0 N ops Q t (i::a) fr' h
      |some true=>match afN P fr h o with
          |none=>False
          |some (v,h')=>h'=h/\match putDst N fr o.dst v with
            |none=>False
            |some fr'=>DW P W0 N ops Q t (i::a) fr' h
  |.ch i pre t other,a,fr,h=>
    (match ops[i]? with
    |none=>False
    |some o=>
      match agU ops fr o with
      |none=>False
      |some false=>match putDst N fr o.dst Yx with
        |none=>False
        |some fr'=>DW P W0 N ops Q t (a.filter fun p=>!pre.contains p) fr' h
      |some true=>
          match Zm o with
          |true=>∃g args fn c,agG fr o=some (g,args)/\Good P g fn c/\AC P W0 g args h fun v h'=>∃fr',putDst N fr o.dst v=some fr'/\
              afI P ops fr' h' (a.filter fun p=>!pre.contains p)/\DW P W0 N ops Q t (a.filter fun p=>!pre.contains p) fr' h'
          |false=>match afN P fr h o with
            |none=>False
            |some (v,h')=>match putDst N fr o.dst v with
              |none=>False
              |some fr'=>afI P ops fr' h' (a.filter fun p=>!pre.contains p)/\DW P W0 N ops Q t (a.filter fun p=>!pre.contains p) fr' h')/\
    DW P W0 N ops Q other a fr h
theorem afI.mem{fr:aap}{h:aae}:∀{l:II},afI P ops fr h l->∀p∈l,Holds P ops fr h p
 |[],_,p,a=>by simp at a
 |q::r,hh,p,a=>by
  rcases vZ.1 a with rfl|a
  .exact hh.1
  .exact afI.mem hh.2 p a
def ag3(fr:aap):List Tmp->aap
 |[]=>fr
 |d::r=>(ag3 fr r).del d
theorem W6(fr:aap)(k:Nat):∀(l:List Tmp),(ag3 fr l).get k=if k∈l then none else fr.get k
 |[]=>by simp[ag3]
 |d::r=>by simp only[ag3,Trie.Ik,W6 fr k r,vZ];grind
def KA(listed:Array Bool)(i:Nat):Bool:=!listed.getD i true
theorem J3{a:Array Bool}{i j:Nat}(hi:KA a i=true):KA (a.setIfInBounds i true) j=(KA a j&&j !=i):=by unfold KA;simp only[To,NC];grind
def OT(n:Nat)(a:Array Bool):Nat:=(List.range n).countP (KA a)
theorem Hk{p q:Nat->Bool}{i:Nat}:∀{l:II},l.Nodup->i∈l->p i=true->q i=false->(∀j,j≠i->q j=p j)->l.countP q+1=l.countP p
 |[],_,h,_,_,_=>by simp at h
 |x::r,a,h,b,c,d=>by
  rw[jz]at a;by_cases e:x=i
  .grind[List.countP_congr]
  .have hi:i∈r:=pw;have:=Hk a.2 hi b c d;grind
theorem u7{n i:Nat}{a:Array Bool}(hi:i<n)(b:KA a i=true):OT n (a.setIfInBounds i true)+1=OT n a:=by
 refine Hk QD (j3.2 hi) b ?_ ?_
 all_goals grind[J3]
theorem sk{n:Nat}{a:Array Bool}(h:OT n a=0)(i:Nat)(hi:i<n):KA a i=false:=by grind[OT,List.countP_eq_zero]
theorem QX{i:Nat}{o:Oper}(h:ops[i]?=some o):af9 ops i=ze o:=by grind[af9]
theorem Rs{i:Nat}{o:Oper}(h:ops[i]?=some o):Y1 ops i=o.dst:=by grind[Y1]
theorem YZ{i:Nat}{o:Oper}(h:ops[i]?=some o):Vz ops i=o.looksAt ops:=by grind[Vz]
structure CK (ops:Array Oper):Prop where
 preds:∀i p,i<ops.size->p∈af9 ops i->p<i
 pair:∀i j d,i<ops.size->j<ops.size->i≠j->Y1 ops j=some d->(d∈Vz ops i->j∈af9 ops i\/i∈af9 ops j)/\Y1 ops i≠some d
theorem CK.of{t:DT}(h:gN ops t=true):CK ops/\ui ops (List.range ops.size) t=true:=by simp only[gN,rY,DF,j3,beq_iff_eq,akf,adK,Nat.blt_eq]at h;obtain⟨⟨c,e⟩,a⟩:=h;refine⟨⟨pw,fun i j d hi f b hd=>?_⟩,a⟩;grind
theorem PF{rest:II}{x:Nat}:x∈xx ops rest↔x∈rest/\∀p∈af9 ops x,p∉rest:=by grind[xx]
structure Inv (P:Program) (N:Nat) (ops:Array Oper) (rest pend:II) (fr:aap) (h:aae) (listed:Array Bool):Prop where
 every:∀i,i<ops.size->KA listed i=true->i∈pend\/i∈rest
 Cf:∀i∈rest,KA listed i=true/\i<ops.size
 OF:∀p∈pend,p<ops.size/\p∉rest/\(∀q∈af9 ops p,q∉rest)/\(∀d,Y1 ops p=some d->d<N)/\ajb ops p=true
 holds:∀p∈pend,KA listed p=true->Holds P ops fr h p
def BG(ops:Array Oper)(b:II)(a:Array Bool):List Tmp:=(b.filter (KA a)).filterMap (Y1 ops)
theorem WN{b:II}{a:Array Bool}{t:Tmp}:t∈BG ops b a↔∃p∈b,KA a p=true/\Y1 ops p=some t:=by grind[BG]
theorem ahl{fr fr':aap}{d:Option Tmp}{v:Value}(h:putDst N fr d v=some fr'):(∀k,d≠some k->fr'.get k=fr.get k)/\∀k,d=some k->fr'.get k=some v/\k<N:=by
 cases d<;>grind[putDst,Trie.bR,Trie.Xw]
theorem Holds.congr{fr fr':aap}{h:aae}{p:Nat}(hh:Holds P ops fr h p)(a:∀t∈Vz ops p,fr'.get t=fr.get t)(hd:∀d,Y1 ops p=some d->fr'.get d=fr.get d):Holds P ops fr' h p:=by
 unfold Holds at*;cases c:ops[p]? with
 |none=>grind
 |some o=>
  rw[c]at hh;simp only[]at hh ⊢;rw[YZ c]at a;rw[Rs c]at hd;rw[Us a];cases hw:agU ops fr o with
  |none=>grind
  |some b=>
   rw[hw]at hh;cases b with
   |false=>grind
   |true=>obtain⟨v,e,h2⟩:=hh;exact⟨v,by rw[yE a];exact e,pw⟩
theorem Inv.absorb{rest k:II}{fr fr':aap}{h:aae}{g:Array Bool}{i:Nat}{o:Oper}{v:Value}(ok:CK ops)(m:Inv P N ops rest k fr h g)(n:i∈rest)(q:∀p∈af9 ops i,p∉rest)(B:ops[i]?=some o)(w:ajb ops i=true)(y:putDst N fr o.dst v=some fr')(z:Holds P ops fr' h i):
  Inv P N ops (rest.filter fun x=>x !=i) (i::k) fr' h g:=by
 obtain⟨l,A⟩:=ahl y;have hi:=m.Cf i n;have s:∀x,x∈rest.filter (fun x=>x !=i)↔x∈rest/\x≠i:=fun x=>by simp
 refine⟨fun j C u=>?_,(by grind[Inv.Cf]),fun p f=>?_,fun p f u=>?_⟩
 .grind[Inv.every]
 .rcases vZ.1 f with rfl|f
  .grind[Rs]
  .obtain⟨a,b,c,d⟩:=m.OF p f;grind
 .rcases vZ.1 f with rfl|f
  .exact z
  .obtain⟨a,b,c,_⟩:=m.OF p f;have r:p≠i:=pw;refine(m.holds p f u).congr (fun t D=>l t fun e=>?_) (fun d hd=>l d fun e=>?_)
   .grind[ajb,Rs]
   .exact(ok.pair i p d hi.2 a (Hs r) hd).2 (by grind[Rs])
theorem SI{a:Array Bool}{q:Nat}(hs:q<a.size)(h:KA a q=false):a.getD q false=true:=by grind[KA]
theorem zG{a:Array Bool}{i:Nat}(h:i∈Region.ready .any ops a):KA a i=true/\i<ops.size/\∃o,ops[i]?=some o/\∀q∈ze o,KA a q=false:=by grind[Go.mem_ready,KA,ze]
theorem QS{a:Array Bool}(ok:CK ops)(hs:a.size=ops.size)(h:Region.ready .any ops a=[]):∀i,i<ops.size->KA a i=false:=by
 intro i
 induction i using Nat.strongRecOn with
 |_ i b=>
  intro hi;cases c:KA a i with
  |false=>rfl
  |true=>
   have:i∈Region.ready .any ops a:=by
    refine mem_ready.2 ⟨by grind[KA],ops[i],xP hi,fun e d hb=>?_⟩;have f:e.on∈af9 ops i:=by rw[QX (xP hi)];grind[ze]
    grind[CK.preds,SI]
   grind
theorem PV{m:aad}{n:Nat}{o:Oper}{fr c:aap}{tmps:Array Value}{b:Bool}(F:FR n m c tmps)(d:∀t∈o.looksAt ops,c.get t=fr.get t)(hw:agU ops fr o=some b):
  Region.wanted o (yielded ops tmps)=b:=
 tz (a:=⟨tmps,[]⟩) F (by grind[Us])
theorem Bz{p j:Nat}{d:Tmp}(h:ajb ops p=true)(hd:Y1 ops p=some d)(a:j<ops.size)(b:d∈Vz ops j):j≠p/\p∈af9 ops j:=by grind[ajb]
theorem St.fill{f:Cx}{m e:aad}{b c:aap}{h h':aae}{a:Act}{w w':World}(s:St W0 f N m b h a w)(R':Rel (W0.add f.ex) e h' w')(g:ZK h.next m e)(j:h.next<=h'.next){d:Option Tmp}{v v':Value}(l:VR h'.next e v v')(hf:∀k u,c.get k=some u->(d=some k/\u=v/\k<N)\/(d≠some k/\b.get k=some u)):St W0 f N e c h' (a.put d v') w':=by
 have F:=s.frame.mono j g;refine⟨R',fun k u n=>?_,?_,?_,?_⟩
 .rcases hf k u n with⟨rfl,rfl,o⟩|⟨hd,hg⟩
  .exact⟨v',by simp[Act.put,s.size,o],l⟩
  .obtain⟨u',i,h2⟩:=F k u hg;refine⟨u',?_,h2⟩;cases d with
   |none=>exact i
   |some d=>have:d≠k:=pw;simp[Act.put,this,i]
 .cases d<;>exact s.defers
 .cases d<;>simp[Act.put,s.size]
 .exact s.round
theorem call_wp{k:Cx}{nn:Nat}{m:aad}{fr:aap}{h:aae}{a:Act}{w:World}(s:St W0 k N m fr h a w){o:Oper}{g:FuncId}{args:List Value}{fn:Func}{c:Code}(d:agG fr o=some (g,args))(hg:Good P g fn c){R:Value->aae->Prop}(u:AC P W0 g args h R){r:Act->World->Prop}{K:Exit->Act->World->Prop}(D:∀v v' l h' w',ZK h.next m l->h.next<=h'.next->Rel (W0.add k.ex) l h' w'->VR h'.next l v v'->R v h'->r (a.put o.dst v') w'):o.wpIn (Xc k.ro) nn P a w r K:=by
 unfold agG at d;split at d
 .rename_i f as ats n;split at d
  .rename_i t first cap vs hf p
   injection d with d;simp only[si]at d;obtain⟨rfl,rfl⟩:=d;have i:=Ns s.frame hf;have y:=PZ s.frame p;refine ph pw ?_
   have key:∃b cap',a.eval f=.func (.func t) b cap'/\AK h.next m first.toList b.toList/\AK h.next m cap.toList cap'.toList:=by
    generalize a.eval f=x at i;cases i with
    |flat hf=>grind[flat]
    |func E h2 h3 F=>exact⟨_,_,rfl,⟨pw,pw⟩,⟨pw,pw⟩⟩
   obtain⟨b,cap',q,z,A⟩:=key
   have j:(execOp a.eval o).run P w=.ok (.enter t ((b.toList++as.toList.map a.eval++cap'.toList).toArray)) w:=by
    have B:(b++as.map a.eval++cap')=(b.toList++as.toList.map a.eval++cap'.toList).toArray:=by simp
    simp only[execOp,n,resolve,q,Deferred.ofValue,Sem.run_bind,Sem.run_pure,Result.andThen_ok,invoke,callFunc,run_program,hg.func,hg.name,akd,if_false,hg.body,Po,B]
   rw[j]
   have e:=u k.ex m w (b.toList++as.toList.map a.eval++cap'.toList) s.rel (by grind[AK.append])
   refine⟨(fun C=>by cases C),qN (e.mono ?_)⟩;grind
  .cases d
 .cases d
theorem YF{l:Cx}{nn:Nat}{Q:aap->aae->Prop}{K:Exit->Act->World->Prop}{fuel:Nat}(V:∀(t:DT)(rest c:II)(fr:aap)(h:aae)(b:Array Bool)(m:aad)(a:Act)(w:World),
   OT ops.size b=fuel->b.size=ops.size->Inv P N ops rest c fr h b->ui ops rest t=true->DW P W0 N ops Q t c fr h->St W0 l N m (ag3 fr (BG ops c b)) h a w->
   (∀n fr' h' a' w',ZK h.next m n->h.next<=h'.next->St W0 l N n fr' h' a' w'->Q fr' h'->K .normal a' w')->wpAnyIn (Xc l.ro) nn P .any ops K fuel b a w){t:DT}{rest c:II}{fr:aap}{h:aae}{b:Array Bool}{m:aad}{a:Act}{w:World}(hc:OT ops.size b=fuel+1)(hs:b.size=ops.size)(x:Inv P N ops rest c fr h b)(y:ui ops rest t=true)(W:DW P W0 N ops Q t c fr h)(s:St W0 l N m (ag3 fr (BG ops c b)) h a w)(X:∀n fr' h' a' w',ZK h.next m n->h.next<=h'.next->St W0 l N n fr' h' a' w'->Q fr' h'->K .normal a' w'){j:Nat}(hj:j∈Region.ready .any ops b)(z:j∈c):wpOpIn (Xc l.ro) nn P ops K j (wpAnyIn (Xc l.ro) nn P .any ops K fuel (b.setIfInBounds j true)) a w:=by
 obtain⟨hu,C,o,M,O⟩:=zG hj;have D:OT ops.size (b.setIfInBounds j true)=fuel:=by grind[u7]
 have hs':(b.setIfInBounds j true).size=ops.size:=pw;have aa:j∉rest:=(x.OF j z).2.1;have E:Inv P N ops rest c fr h (b.setIfInBounds j true):=by
  refine⟨fun i hi ae=>?_,fun i hi=>⟨?_,(x.Cf i hi).2⟩,x.OF,fun p R F=>?_⟩
  .grind[J3,Inv.every]
  .grind[J3,Inv.Cf]
  grind[J3,Inv.holds]
 have e:∀t∈o.looksAt ops,(ag3 fr (BG ops c b)).get t=fr.get t:=by intro t ht;rw[W6,aal];intro hh;obtain⟨p,R,F,G⟩:=WN.1 hh;obtain⟨_,_,_,_,H⟩:=x.OF p R;obtain⟨ag,S⟩:=Bz H G C (by grind[YZ]);grind[QX]
 have g:∀v,(∀d,o.dst=some d->fr.get d=some v)->∀k u,(ag3 fr (BG ops c (b.setIfInBounds j true))).get k=some u->
   (o.dst=some k/\u=v/\k<N)\/(o.dst≠some k/\(ag3 fr (BG ops c b)).get k=some u):=by
  intro v T k u q;rw[W6]at q;split at q
  .cases q
  .by_cases hd:o.dst=some k
   .grind[Inv.OF,Rs]
   grind[W6,WN,J3,Rs]
 have r:=x.holds j z hu;unfold Holds at r;rw[M]at r;simp only[]at r;unfold wpOpIn;rw[M];simp only[];split at r
 .rename_i hw;obtain⟨v,A,I⟩:=r;rw[AE (PV s.frame e hw)];obtain⟨n,v',w',f,R',B,J,T⟩:=ah8 (P:=P) (a:=a) s.rel s.frame (by rw[yE e];exact A);have U:=s.fill R' B J T (g v I);have:=V t rest c fr h _ n (a.put o.dst v') w' D hs' E y W U fun m2 L h2 a2 w2 e1 e2 e3 e4=>X m2 L h2 a2 w2 (B.trans e1 J) (Tn J e2) e3 e4;refine ph (Nw A) ?_;rcases f with f|⟨f,rfl⟩<;>rw[f]<;>exact this
 .rename_i hw;rw[aal (by rw[PV s.frame e hw];simp)];have U:=s.fill s.rel (.refl _ _) (qL0 _) (v:=Yx) (v':=undef) (.tuple rfl pw) (g Yx r);refine⟨fun _ _=>trivial,?_⟩;grind
 grind
theorem draw_do{E:Cx}{nn:Nat}(ok:CK ops){Q:aap->aae->Prop}{K:Exit->Act->World->Prop}{fuel:Nat}(ih:∀(t:DT)(rest f:II)(fr:aap)(h:aae)(b:Array Bool)(m:aad)(a:Act)(w:World),
   OT ops.size b=fuel->b.size=ops.size->Inv P N ops rest f fr h b->ui ops rest t=true->DW P W0 N ops Q t f fr h->St W0 E N m (ag3 fr (BG ops f b)) h a w->
   (∀D fr' h' a' w',ZK h.next m D->h.next<=h'.next->St W0 E N D fr' h' a' w'->Q fr' h'->K .normal a' w')->wpAnyIn (Xc E.ro) nn P .any ops K fuel b a w){t other:DT}{j:Nat}{pre:II}{rest f:II}{fr:aap}{h:aae}{b:Array Bool}{m:aad}{a:Act}{w:World}(hc:OT ops.size b=fuel+1)(hs:b.size=ops.size)(I:Inv P N ops rest f fr h b)(av:j∈rest)(T:∀q∈pre,q∈af9 ops j)(A:ui ops (rest.filter fun x=>x !=j) t=true)(l:DW P W0 N ops Q (.ch j pre t other) f fr h)(s:St W0 E N m (ag3 fr (BG ops f b)) h a w)(hK:∀D fr' h' a' w',ZK h.next m D->h.next<=h'.next->St W0 E N D fr' h' a' w'->Q fr' h'->K .normal a' w')(hj:j∈Region.ready .any ops b):wpOpIn (Xc E.ro) nn P ops K j (wpAnyIn (Xc E.ro) nn P .any ops K fuel (b.setIfInBounds j true)) a w:=by
 obtain⟨hu,U,o,ho,aq⟩:=zG hj;have ar:∀x,x∈rest.filter (fun x=>x !=j)↔x∈rest/\x≠j:=fun x=>by simp
 have J:OT ops.size (b.setIfInBounds j true)=fuel:=by grind[u7]
 have hs':(b.setIfInBounds j true).size=ops.size:=pw;have ay:∀p∈f,p≠j:=by grind[Inv.OF]
 have V:∀p∈f,KA b p=true->p∈f.filter fun p=>!pre.contains p:=by grind[QX]
 have i:∀t∈o.looksAt ops,(ag3 fr (BG ops f b)).get t=fr.get t:=by intro t ht;rw[W6,aal];intro hh;obtain⟨p,r,B,az⟩:=WN.1 hh;obtain⟨_,_,_,_,aB⟩:=I.OF p r;grind[Bz,YZ,QX]
 have hinv:∀fr' h',(∀p∈f.filter (fun p=>!pre.contains p),KA (b.setIfInBounds j true) p=true->Holds P ops fr' h' p)->Inv P N ops (rest.filter fun x=>x !=j) (f.filter fun p=>!pre.contains p) fr' h' (b.setIfInBounds j true):=by
  intro fr' h' y;refine⟨fun i' W aC=>?_,fun i' W=>⟨?_,(I.Cf i' pw).2⟩,fun p r=>?_,y⟩
  .grind[J3,Inv.every]
  .grind[J3,Inv.Cf]
  .obtain⟨a1,X,a3,a4,a5⟩:=I.OF p (uV.1 r).1;grind
 have n:∀{v:Value}{fr':aap},putDst N fr o.dst v=some fr'->∀k u,(ag3 fr' (BG ops (f.filter fun p=>!pre.contains p) (b.setIfInBounds j true))).get k=some u->
   (o.dst=some k/\u=v/\k<N)\/(o.dst≠some k/\(ag3 fr (BG ops f b)).get k=some u):=by
  intro v fr' r k u F;obtain⟨G,aa⟩:=ahl r;rw[W6]at F;split at F
  .cases F
  grind[W6,WN,J3]
 simp only[DW,ho]at l;replace l:=l.1;unfold wpOpIn;rw[ho];simp only[];split at l
 .exact l.elim
 .rename_i hw;rw[aal (by rw[PV s.frame i hw];simp)];split at l
  .exact l.elim
  .rename_i fr' r;obtain⟨G,aa⟩:=ahl r;have S:=s.fill s.rel (.refl _ _) (qL0 _) (v:=Yx) (v':=undef) (.tuple rfl pw) (n r);refine⟨fun _ _=>trivial,ih t _ _ fr' h _ m _ w J hs' (hinv fr' h fun p ae B=>?_) A l S hK⟩;rw[J3 hu]at B;simp at B;have L:=(uV.1 ae).1;obtain⟨a1,X,a3,_⟩:=I.OF p L;refine(I.holds p L B.1).congr (fun t ht=>G t fun e=>?_) (fun d hd=>G d fun e=>?_)
   .grind[CK.pair,Rs,QX]
   .exact(ok.pair j p d U a1 (Hs B.2) hd).2 (by grind[Rs])
 .rename_i hw;rw[AE (PV s.frame i hw)];split at l
  .obtain⟨g,args,fn,c,ag,H,aj⟩:=l;refine call_wp s (by rw[Wf i];exact ag) H aj ?_;rintro v v' D h' w' C M R' hv ⟨fr',r,y,O⟩;have S:=s.fill R' C M hv (n r);grind[afI.mem,ZK.trans]
  .split at l
   .exact l.elim
   .rename_i v h' R;split at l
    .exact l.elim
    .rename_i fr' r;obtain⟨y,O⟩:=l;obtain⟨D,v',w',z,R',C,M,hv⟩:=ah8 (P:=P) (a:=a) s.rel s.frame (by rw[yE i];exact R);have S:=s.fill R' C M hv (n r);have:=ih t _ _ fr' h' _ D (a.put o.dst v') w' J hs' (hinv fr' h' fun p r _=>y.mem p r) A O S fun m2 al h2 X w2 e1 e2 e3 e4=>hK m2 al h2 X w2 (C.trans e1 M) (Tn M e2) e3 e4;refine ph (Nw R) ?_;rcases z with z|⟨z,rfl⟩<;>rw[z]<;>exact this
theorem alt_find{Q:aap->aae->Prop}{rest a:II}{fr:aap}{h:aae}{j:Nat}:∀{t:DT}{cs:II},j∈cs->ahB ops rest cs t=true->DW P W0 N ops Q t a fr h->isAlt t=true->
  ∃pre b other,(∀q∈pre,q∈af9 ops j)/\ui ops (rest.filter fun x=>x !=j) b=true/\DW P W0 N ops Q (.ch j pre b other) a fr h:=by
 intro t
 induction t with
 |done=>intro cs _ _ _ ha;cases ha
 |fl i t _=>intro cs _ _ _ ha;cases ha
 |no=>grind[ahB]
 |ch i pre t other _ c=>grind[ahB,ui,DW]
theorem gG{H:Cx}{nn:Nat}(ok:CK ops){Q:aap->aae->Prop}{K:Exit->Act->World->Prop}:∀(fuel:Nat)(t:DT)(rest c:II)(fr:aap)(h:aae)(b:Array Bool)(m:aad)(a:Act)(w:World),
  OT ops.size b=fuel->b.size=ops.size->Inv P N ops rest c fr h b->ui ops rest t=true->DW P W0 N ops Q t c fr h->St W0 H N m (ag3 fr (BG ops c b)) h a w->
  (∀V fr' h' a' w',ZK h.next m V->h.next<=h'.next->St W0 H N V fr' h' a' w'->Q fr' h'->K .normal a' w')->
  wpAnyIn (Xc H.ro) nn P .any ops K fuel b a w:=by
 intro fuel
 induction fuel with
 |zero=>
  intro t
  induction t with
  |no=>grind[ui,ako]
  |done=>
   intro rest c fr h b m a w n hs l e d s r;have q:=sk n;have hh:BG ops c b=[]:=by apply Uz.2;intro t e;obtain⟨p,y,C,_⟩:=WN.1 e;rw[q p (l.OF p y).1]at C;cases C
   rw[hh]at s;refine⟨?_,r m fr h a w (.refl _ _) (qL0 _) s d⟩;apply Uz.2;intro i hi;obtain⟨W,h2,_⟩:=zG hi;grind
  |fl i t _=>intro rest c fr h b m a w n hs l e d s r;have q:=sk n;simp only[ui,ahB,rY,adK,vg]at e;have:=l.Cf i e.2.1.1.1.1;grind
  |ch i pre t other _ _=>intro rest c fr h b m a w n hs l e d s r;have q:=sk n;simp only[ui,ahB,rY,adK,vg]at e;have:=l.Cf i e.2.1.1.1.1.1.1;grind
 |succ fuel J=>
  intro t
  induction t with
  |no=>grind[ui,ako]
  |done=>
   intro rest c fr h b m a w n hs l e d s r;have L:rest=[]:=by grind[ui,ahB]
   refine⟨fun hr=>?_,fun j D=>?_⟩
   .grind[QS,OT,List.countP_eq_zero]
   .obtain⟨C,z,_⟩:=zG D;rcases l.every j z C with A|E
    .exact YF J n hs l e d s r D A
    grind
  |fl i t ag=>
   intro rest c fr h b m a w n hs l e d s r;simp only[ui,ahB,rY,adK,vg]at e;obtain⟨_,⟨⟨⟨M,aj⟩,al⟩,X⟩,f⟩:=e;have O:ui ops (rest.filter fun x=>x !=i) t=true:=by grind[ui]
   have R:∀p∈af9 ops i,p∉rest:=fun p y=>by grind
   have hi:=l.Cf i M;have S:ops[i]?=some ops[i]:=xP hi.2;generalize ops[i]'hi.2=o at S
   have aq:ajb ops i=true:=by grind[alr]
   have T:∀{fr':aap}{v:Value},putDst N fr o.dst v=some fr'->St W0 H N m (ag3 fr' (BG ops (i::c) b)) h a w:=by intro fr' v y;obtain⟨F,G⟩:=ahl y;refine⟨s.rel,fun k u hk=>s.frame k u ?_,s.defers,s.size,s.round⟩;grind[W6,WN,Rs]
   simp only[DW,S]at d;split at d
   .exact d.elim
   .rename_i hw;split at d
    .exact d.elim
    .rename_i fr' y;obtain⟨F,G⟩:=ahl y;have g:∀t∈o.looksAt ops,fr'.get t=fr.get t:=by grind[Bz,Rs,YZ]
     have hH:Holds P ops fr' h i:=by grind[Holds,Us]
     grind[Inv.absorb]
   .rename_i hw;split at d
    .exact d.elim
    .rename_i v h' U;obtain⟨rfl,d⟩:=d;split at d
     .exact d.elim
     .rename_i fr' y;obtain⟨F,G⟩:=ahl y;have g:∀t∈o.looksAt ops,fr'.get t=fr.get t:=by grind[Bz,Rs,YZ]
      have hH:Holds P ops fr' h' i:=by unfold Holds;rw[S];simp only[];rw[Us g,hw];exact⟨v,by rw[yE g];exact U,pw⟩
      grind[Inv.absorb]
  |ch i pre t other _ _=>
   intro rest c fr h b m a w n hs l e d s r;refine⟨fun hr=>?_,fun j D=>?_⟩
   .grind[QS,OT,List.countP_eq_zero]
   .obtain⟨C,z,oj,ar,aa⟩:=zG D;rcases l.every j z C with A|E
    .exact YF J n hs l e d s r D A
    .have B:j∈xx ops rest:=by grind[PF,QX,Inv.Cf]
     have f:=e;simp only[ui,rY]at f;obtain⟨ae,t',I,W,h2,h3⟩:=alt_find B f.2 d rfl;exact draw_do ok J n hs l E W h2 h3 s r D
theorem ud.draw{i:Nat}{ol:List Oper}{Q:Exit->aap->aae->Prop}(f:P.follows .mixedOrders=true)(t:DT)(c:gN ol.toArray t=true)(hd:DW P W0 N ol.toArray (Q .normal) t [] fr h):ud P W0 N (.region i ol.toArray true) fr h Q:=by
 intro g nn m a w s K k;obtain⟨ok,b⟩:=CK.of c;refine wpIn_region_any f ?_;have l:∀j,j<ol.toArray.size->KA (Array.replicate ol.toArray.size false) j=true:=by intro j r;have d:j<ol.length:=pw;simp[KA,To,d]
 have s0:St W0 g N m (ag3 fr (BG ol.toArray [] (Array.replicate ol.toArray.size false))) h a w.drew:=⟨s.rel.drew,s.frame,s.defers,s.size,s.round⟩;refine gG ok ol.toArray.size t (List.range ol.toArray.size) [] fr h (Array.replicate ol.toArray.size false) m a w.drew ?_ Ma ?_ b hd s0 ?_
 .grind[OT,List.countP_eq_length]
 .refine⟨pw,pw,pw,pw⟩
 .intro n fr' h' a' w' e o p q;exact k [] .normal n fr' h' a' w' e o p.nil q
def onO{α:Type}(x:Option α)(f:α->Prop):Prop:=
 match x with
 |some a=>f a
 |none=>False
def Vm(b:Bool)(p q:Prop):Prop:=
 match b with
 |true=>p
 |false=>q
def yF(p q:Prop):Vm true p q=p:=rfl
theorem G9{α:Type}{x:Option α}{f:α->Prop}:onO x f↔∃a,x=some a/\f a:=by
 cases x<;>simp[onO]
def cD(P:Program)(W0:LA)(N:Nat)(o:Oper)(fr:aap)(h:aae)(K:aap->aae->Prop):Prop:=∃g args fn c,agG fr o=some (g,args)/\Good P g fn c/\AC P W0 g args h fun v h'=>onO (putDst N fr o.dst v) fun fr'=>K fr' h'
def IH(P:Program)(W0:LA)(N:Nat)(o:Oper)(fr:aap)(h:aae)(K:aap->aae->Prop):Prop:=cD P W0 N o fr h K\/∃d args,yieldOf fr o=some (d,args)/\AY P W0 d args h fun v h'=>onO (putDst N fr o.dst v) fun fr'=>K fr' h'
def ahP(P:Program)(W0:LA)(N:Nat)(ops:Array Oper)(Q:aap->aae->Prop):List Oper->aap->aae->Prop
 |[],fr,h=>Q fr h
 |o::r,fr,h=>
  onO (agU ops fr o) fun w=>
   Vm w
    (Vm (Zm o) (IH P W0 N o fr h (ahP P W0 N ops Q r))
     (onO (afN P fr h o) fun p=>onO (putDst N fr o.dst p.1) fun fr'=>ahP P W0 N ops Q r fr' p.2))
    (onO (putDst N fr o.dst Yx) fun fr'=>ahP P W0 N ops Q r fr' h)
def ahP.sound{Q:aap->aae->Prop}:∀{l:List Oper}{fr:aap}{h:aae},ahP P W0 N ops Q l fr h->ML P W0 N ops l fr h Q
 |[],fr,h,q=>.nil q
 |o::r,fr,h,q=>by
  simp only[ahP]at q;obtain⟨w,hw,q⟩:=G9.1 q;cases w with
  |false=>obtain⟨fr',d,q⟩:=G9.1 q;exact .skip hw d (ahP.sound q)
  |true=>
   simp only[yF]at q;cases k:Zm o with
   |true=>
    rw[k]at q;rcases q with⟨g,args,fn,c,f,hg,ha⟩|⟨n,args,m,ha⟩
    .exact .call hw f hg (ha.mono fun v h' e=>let⟨fr',d,e⟩:=G9.1 e;⟨fr',d,ahP.sound e⟩)
    .exact .yield hw m (ha.mono fun v h' e=>let⟨fr',d,e⟩:=G9.1 e;⟨fr',d,ahP.sound e⟩)
   |false=>rw[k]at q;obtain⟨⟨v,h'⟩,hs,q⟩:=G9.1 q;obtain⟨fr',d,q⟩:=G9.1 q;exact .step hw hs d (ahP.sound q)
def WF(h:aae):Prop:=∀i,h.own i≠none->i<h.next
def AC.wf{f:FuncId}{args:List Value}{R:Value->aae->Prop}(e:WF h->AC P W0 f args h R):AC P W0 f args h R:=fun ex m w d r g=>e r.lt ex m w d r g
def ud.wf{c:Code}{Q:Exit->aap->aae->Prop}(d:WF h->ud P W0 N c fr h Q):ud P W0 N c fr h Q:=fun e nn m a w s K f=>d s.rel.lt e nn m a w s K f
def AC.post{f:FuncId}{args:List Value}{R:Value->aae->Prop}(e:AC P W0 f args h R):AC P W0 f args h fun v h'=>WF h'/\R v h':=fun ex m w d r g=>(e ex m w d r g).mono fun _ _ ⟨v,v',k,h',l,h2,h3,n,p,q⟩=>⟨v,v',k,h',l,h2,h3,n,p,h2.lt,q⟩
def rZ{o:Oper}{g:FuncId}{args:List Value}{fn:Func}{c:Code}{R:Value->aae->Prop}{K:aap->aae->Prop}(d:agG fr o=some (g,args))(hg:Good P g fn c)(ha:AC P W0 g args h R)(e:∀v h',WF h'->R v h'->onO (putDst N fr o.dst v) fun fr'=>K fr' h'):cD P W0 N o fr h K:=
 ⟨g,args,fn,c,d,hg,ha.post.mono fun v h' ⟨hw,f⟩=>e v h' hw f⟩
def vseq(y:aap->aae->Prop)(Q:Exit->aap->aae->Prop):Exit->aap->aae->Prop
 |.normal,fr,h=>y fr h
 |e,fr,h=>Q e fr h
def onV(x:Option Value)(p q:Prop):Prop:=
 match x with
 |some (.bool b)=>Vm b p q
 |_=>False
def VC(P:Program)(W0:LA)(N:Nat):Code->(Exit->aap->aae->Prop)->aap->aae->Prop
 |.skip,Q,fr,h=>Q .normal fr h
 |.ret,Q,fr,h=>Q .ret fr h
 |.exit i,Q,fr,h=>Q (.exit i) fr h
 |.seq a b,Q,fr,h=>VC P W0 N a (vseq (VC P W0 N b Q) Q) fr h
 |.block i a,Q,fr,h=>VC P W0 N a (ajY i Q) fr h
 |.region _ ops false,Q,fr,h=>ahP P W0 N ops (Q .normal) ops.toList fr h
 |.cond c a b,Q,fr,h=>onV (aeA fr c) (VC P W0 N a Q fr h) (VC P W0 N b Q fr h)
 |c,Q,fr,h=>ud P W0 N c fr h Q
def VC.sound:∀{c:Code}{Q:Exit->aap->aae->Prop}{fr:aap}{h:aae},VC P W0 N c Q fr h->ud P W0 N c fr h Q:=by
 intro c
 induction c with
 |skip=>intro Q fr h q;exact .skip q
 |ret=>intro Q fr h q;exact .ret q
 |exit i=>intro Q fr h q;exact .exit q
 |seq a b f g=>
  intro Q fr h q;refine .seq ((f q).mono fun e fr h k=>?_);cases e with
  |normal=>exact g k
  |_=>exact k
 |block i a f=>intro Q fr h q;exact .block (f q)
 |region i ops d=>
  intro Q fr h q;cases d with
  |false=>obtain⟨l⟩:=ops;exact .region (ahP.sound q)
  |true=>exact q
 |cond c a b f g=>
  intro Q fr h q;simp only[VC]at q;unfold onV at q;split at q
  .rename_i t m;refine .cond m (fun e=>?_) (fun e=>?_)
   .subst e;exact f q
   .subst e;exact g q
  .exact q.elim
 |loop c=>intro Q fr h q;exact q
 |rangeFunc=>intro Q fr h q;exact q
 |scope c=>intro Q fr h q;exact q
 |label l=>intro Q fr h q;exact q
 |goto l=>intro Q fr h q;exact q
 |refuse w=>intro Q fr h q;exact q
inductive Kt where
 |seq (c:Code)
 |blk (i:Nat)
def KE(P:Program)(W0:LA)(N:Nat)(R:Exit->aap->aae->Prop):List Kt->Exit->aap->aae->Prop
 |[]=>R
 |.seq c::ks=>vseq (VC P W0 N c (KE P W0 N R ks)) (KE P W0 N R ks)
 |.blk i::ks=>ajY i (KE P W0 N R ks)
def VK(P:Program)(W0:LA)(N:Nat)(c:Code)(ks:List Kt)(R:Exit->aap->aae->Prop)(fr:aap)(h:aae):Prop:=VC P W0 N c (KE P W0 N R ks) fr h
def KN(P:Program)(W0:LA)(N:Nat)(ks:List Kt)(R:Exit->aap->aae->Prop)(fr:aap)(h:aae):Prop:=KE P W0 N R ks .normal fr h
def KX(P:Program)(W0:LA)(N:Nat)(e:Exit)(ks:List Kt)(R:Exit->aap->aae->Prop)(fr:aap)(h:aae):Prop:=KE P W0 N R ks e fr h
def KO(P:Program)(W0:LA)(N:Nat)(ops:Array Oper)(ks:List Kt)(R:Exit->aap->aae->Prop)(l:List Oper)(fr:aap)(h:aae):Prop:=ahP P W0 N ops (KE P W0 N R ks .normal) l fr h
def rS(P:Program)(W0:LA)(N:Nat)(ops:Array Oper)(ks:List Kt)(R:Exit->aap->aae->Prop)(o:Oper)(l:List Oper)(fr:aap)(h:aae)(w:Option Bool):Prop:=
 onO w fun w=>
   Vm w
    (Vm (Zm o) (IH P W0 N o fr h (ahP P W0 N ops (KE P W0 N R ks .normal) l))
     (onO (afN P fr h o) fun p=>onO (putDst N fr o.dst p.1) fun fr'=>ahP P W0 N ops (KE P W0 N R ks .normal) l fr' p.2))
    (onO (putDst N fr o.dst Yx) fun fr'=>ahP P W0 N ops (KE P W0 N R ks .normal) l fr' h)
def lU(P:Program)(W0:LA)(N:Nat)(ops:Array Oper)(ks:List Kt)(R:Exit->aap->aae->Prop)(o:Oper)(l:List Oper)(fr:aap)(h:aae)(b:Bool):Prop:=
  Vm b (IH P W0 N o fr h (ahP P W0 N ops (KE P W0 N R ks .normal) l))
          (onO (afN P fr h o) fun p=>onO (putDst N fr o.dst p.1) fun fr'=>ahP P W0 N ops (KE P W0 N R ks .normal) l fr' p.2)
def MQ(P:Program)(W0:LA)(N:Nat)(ops:Array Oper)(ks:List Kt)(R:Exit->aap->aae->Prop)(o:Oper)(l:List Oper)(fr:aap)(x:Option (Value×aae)):Prop:=onO x fun p=>onO (putDst N fr o.dst p.1) fun fr'=>ahP P W0 N ops (KE P W0 N R ks .normal) l fr' p.2
def Kp(P:Program)(W0:LA)(N:Nat)(ops:Array Oper)(ks:List Kt)(R:Exit->aap->aae->Prop)(l:List Oper)(h:aae)(x:Option aap):Prop:=onO x fun fr'=>ahP P W0 N ops (KE P W0 N R ks .normal) l fr' h
def TC(P:Program)(W0:LA)(N:Nat)(ops:Array Oper)(ks:List Kt)(R:Exit->aap->aae->Prop)(o:Oper)(l:List Oper)(fr:aap)(h:aae):Prop:=IH P W0 N o fr h (ahP P W0 N ops (KE P W0 N R ks .normal) l)
def Kl(P:Program)(W0:LA)(N:Nat)(a b:Code)(ks:List Kt)(R:Exit->aap->aae->Prop)(fr:aap)(h:aae)(x:Option Value):Prop:=onV x (VK P W0 N a ks R fr h) (VK P W0 N b ks R fr h)
def aab(P:Program)(W0:LA)(N:Nat)(c:Code)(ks:List Kt)(R:Exit->aap->aae->Prop)(fr:aap)(h:aae):Prop:=ud P W0 N (.loop c) fr h (KE P W0 N R ks)
def ZJ(P:Program)(W0:LA)(N:Nat)(i:Nat)(ops:Array Oper)(ks:List Kt)(R:Exit->aap->aae->Prop)(fr:aap)(h:aae):Prop:=ud P W0 N (.region i ops true) fr h (KE P W0 N R ks)
theorem ahI(a b:Int):(a==b)=decide (a=b):=pw
def fst_mk{α β:Type}(a:α)(b:β):(a,b).1=a:=id rfl
def snd_mk{α β:Type}(a:α)(b:β):(a,b).2=b:=id rfl
section eqs
variable{ks:List Kt}{R:Exit->aap->aae->Prop}{a b:Code}{o:Oper}{i j:Nat}{c:Operand}
def Mc:VK P W0 N .skip ks R fr h=KN P W0 N ks R fr h:=id rfl
def VK_ret:VK P W0 N .ret ks R fr h=KX P W0 N .ret ks R fr h:=id rfl
def aeN:VK P W0 N (.exit i) ks R fr h=KX P W0 N (.exit i) ks R fr h:=id rfl
def VK_seq:VK P W0 N (.seq a b) ks R fr h=VK P W0 N a (.seq b::ks) R fr h:=id rfl
def SC:VK P W0 N (.block i a) ks R fr h=VK P W0 N a (.blk i::ks) R fr h:=id rfl
def qS{l:List Oper}:VK P W0 N (.region i (List.toArray l) false) ks R fr h=KO P W0 N (List.toArray l) ks R l fr h:=id rfl
def aeO:VK P W0 N (.region i ops true) ks R fr h=ZJ P W0 N i ops ks R fr h:=id rfl
def L5:VK P W0 N (.cond c a b) ks R fr h=Kl P W0 N a b ks R fr h (aeA fr c):=id rfl
def Fe:Kl P W0 N a b ks R fr h (some (.bool true))=VK P W0 N a ks R fr h:=id rfl
def Wi:Kl P W0 N a b ks R fr h (some (.bool false))=VK P W0 N b ks R fr h:=id rfl
def T4:VK P W0 N (.loop a) ks R fr h=aab P W0 N a ks R fr h:=id rfl
def KN_nil:KN P W0 N [] R fr h=R .normal fr h:=id rfl
def KN_seq:KN P W0 N (.seq a::ks) R fr h=VK P W0 N a ks R fr h:=id rfl
def KN_blk:KN P W0 N (.blk i::ks) R fr h=KN P W0 N ks R fr h:=id rfl
def sn:KX P W0 N .ret [] R fr h=R .ret fr h:=id rfl
def Vy:KX P W0 N .ret (.seq a::ks) R fr h=KX P W0 N .ret ks R fr h:=id rfl
def Y6:KX P W0 N .ret (.blk i::ks) R fr h=KX P W0 N .ret ks R fr h:=id rfl
def Kw:KX P W0 N (.exit j) [] R fr h=R (.exit j) fr h:=id rfl
def zz:KX P W0 N (.exit j) (.seq a::ks) R fr h=KX P W0 N (.exit j) ks R fr h:=id rfl
def ach:KX P W0 N (.exit j) (.blk i::ks) R fr h=if j=i then KN P W0 N ks R fr h else KX P W0 N (.exit j) ks R fr h:=id rfl
def J1:KE P W0 N R ks .normal fr h=KN P W0 N ks R fr h:=id rfl
def KE_ret:KE P W0 N R ks .ret fr h=KX P W0 N .ret ks R fr h:=id rfl
def mK:KE P W0 N R ks (.exit i) fr h=KX P W0 N (.exit i) ks R fr h:=id rfl
def KO_nil:KO P W0 N ops ks R [] fr h=KN P W0 N ks R fr h:=id rfl
def cj{l:List Oper}:KO P W0 N ops ks R (o::l) fr h=rS P W0 N ops ks R o l fr h (agU ops fr o):=id rfl
def bE{l l':List Oper}:KO P W0 N ops ks R (List.append (o::l) l') fr h=KO P W0 N ops ks R (o::List.append l l') fr h:=id rfl
def Q2{l:List Oper}:KO P W0 N ops ks R (List.append [] l) fr h=KO P W0 N ops ks R l fr h:=id rfl
def HA{l:List Oper}:rS P W0 N ops ks R o l fr h (some true)=lU P W0 N ops ks R o l fr h (Zm o):=id rfl
def RW{l:List Oper}:rS P W0 N ops ks R o l fr h (some false)=Kp P W0 N ops ks R l h (putDst N fr o.dst Yx):=id rfl
def Px{l:List Oper}:lU P W0 N ops ks R o l fr h true=TC P W0 N ops ks R o l fr h:=id rfl
def re{l:List Oper}:lU P W0 N ops ks R o l fr h false=MQ P W0 N ops ks R o l fr (afN P fr h o):=id rfl
def akp{l:List Oper}{v:Value}{h':aae}:MQ P W0 N ops ks R o l fr (some (v,h'))=Kp P W0 N ops ks R l h' (putDst N fr o.dst v):=id rfl
def EV{l:List Oper}:Kp P W0 N ops ks R l h (some fr)=KO P W0 N ops ks R l fr h:=id rfl
end eqs
def VK.sound{c:Code}{R:Exit->aap->aae->Prop}(q:VK P W0 N c [] R fr h):ud P W0 N c fr h R:=VC.sound q
def Kl.intro{a b:Code}{t:Bool}{ks:List Kt}{R:Exit->aap->aae->Prop}(d:t=true->VK P W0 N a ks R fr h)(hf:t=false->VK P W0 N b ks R fr h):Kl P W0 N a b ks R fr h (some (.bool t)):=by
 cases t
 .exact hf rfl
 .exact d rfl
def TC.intro{ks:List Kt}{R:Exit->aap->aae->Prop}{o:Oper}{l:List Oper}{g:FuncId}{args:List Value}{fn:Func}{c:Code}{Rc:Value->aae->Prop}(d:agG fr o=some (g,args))(hg:Good P g fn c)(ha:AC P W0 g args h Rc)(e:∀v h',WF h'->Rc v h'->Kp P W0 N ops ks R l h' (putDst N fr o.dst v)):TC P W0 N ops ks R o l fr h:=.inl (rZ d hg ha e)
def TC.yield{ks:List Kt}{R:Exit->aap->aae->Prop}{o:Oper}{l:List Oper}{d:Nat}{args:List Value}{Rc:Value->aae->Prop}(e:yieldOf fr o=some (d,args))(ha:AY P W0 d args h Rc)(f:∀v h',WF h'->Rc v h'->Kp P W0 N ops ks R l h' (putDst N fr o.dst v)):TC P W0 N ops ks R o l fr h:=.inr ⟨d,args,e,ha.post.mono fun v h' ⟨hw,g⟩=>f v h' hw g⟩
def UH(R:Value->aae->Prop):Exit->aap->aae->Prop:=fun e _ h=>e=.normal/\R (.bool true) h
def ah9{R:Value->aae->Prop}:UH R .normal fr h=R (.bool true) h:=by simp[UH]
theorem VK.round{ps:Array Tmp}{assign body:Code}{args:List Value}{d:aae}{R:Value->aae->Prop}(q:VK P W0 N (.seq assign body) [] (UH R) (ah3 ps.toList args fr) d):Rnd P W0 N ps fr assign body args d R:=by
 have g:VC P W0 N assign (vseq (VC P W0 N body (KE P W0 N (UH R) [])) (KE P W0 N (UH R) [])) (ah3 ps.toList args fr) d:=q;refine(VC.sound g).mono fun e k h2 f=>?_;cases e with
 |normal=>exact⟨rfl,VC.sound f⟩
 |_=>exact absurd f.1 Ma
def VK.rangeFunc{ks:List Kt}{R:Exit->aap->aae->Prop}{g:Operand}{ps:Array Tmp}{assign body:Code}{gf:FuncId}{fn:Func}{c:Code}{first cap:Array Value}(hg:aeA fr g=some (.func (.func gf) first cap))(d:Good P gf fn c)(l:ps.toList.all (fun p=>Nat.blt p N)=true)(m:∀(f:LA)(k:Nat),(∀(args:List Value)(e:aae)(R:Value->aae->Prop),args.length=ps.size->h.next<=e.next->VK P W0 N (.seq assign body) [] (UH R) (ah3 ps.toList args fr) e->AY P f k args e R)->
   AC P f gf (first.toList++[Yg k]++cap.toList) h fun _ h'=>WF h'->KN P W0 N ks R fr h'):VK P W0 N (.rangeFunc g ps assign body) ks R fr h:=
 ud.rangeFunc hg d l fun f k n=>(m f k fun args e R' r s q=>n args e R' r s (VK.round q)).post.mono fun _ _ ⟨hw,u⟩=>u hw
def G8(P:Program)(rs:List ResultVar)(R:Value->aae->Prop)(fr:aap)(h:aae):Prop:=
 match aht P fr h rs with
 |some v=>R v h
 |none=>False
def akV(P:Program)(rs:List ResultVar)(R:Value->aae->Prop):Exit->aap->aae->Prop
 |.normal,fr,h=>G8 P rs R fr h
 |.ret,fr,h=>G8 P rs R fr h
 |_,_,_=>False
theorem AC.vc{f:FuncId}{args:List Value}{fn:Func}{c:Code}{R:Value->aae->Prop}(hg:Good P f fn c){n:Nat}(m:fn.ntmps=n){rs:Array ResultVar}(d:fn.results=rs)(hlen:args.length<=n)(g:WF h->VK P W0 n c [] (akV P rs.toList R) (me args) h):AC P W0 f args h R:=by
 subst m;subst d;refine AC.wf fun k=>?_;replace g:=g k;refine .body hg hlen ((VK.sound g).mono fun e fr' h' l=>?_);have key:∀fr h,G8 P fn.results.toList R fr h->∃v,aht P fr h fn.results.toList=some v/\R v h:=by grind[G8]
 cases e with
 |normal=>exact⟨.inl rfl,key _ _ l⟩
 |ret=>exact⟨.inr rfl,key _ _ l⟩
 |_=>exact l.elim
def mkF:List (Nat×Value)->aap
 |[]=>.leaf
 |(t,v)::r=>(mkF r).set t v
def Fj(fr:aap):List (Nat×Value)->Prop
 |[]=>True
 |(t,v)::r=>fr.get t=some v/\Fj fr r
theorem Sub.mkF{fr:aap}:∀{l:List (Nat×Value)},Fj fr l->Sub (mkF l) fr
 |[],_,k,v,h=>by grind[mkF,Trie.get]
 |(t,u)::r,ha,k,v,h=>by
  simp only[Fw.mkF,Trie.YO]at h;by_cases d:k=t
  .subst d;rw[AE rfl]at h;injection h with h;subst h;exact ha.1
  .rw[aal d]at h;exact Sub.mkF ha.2 k v h
def tn{I:Nat->aap->aae->Prop}{k:Nat}{Q:Exit->aap->aae->Prop}(d:Nat)(l:List (Nat×Value))(e:d<k)(f:Fj fr l)(hi:I d (mkF l) h):adP I k Q .normal fr h:=⟨d,e,_,Sub.mkF f,hi⟩
def NA{I:Nat->aap->aae->Prop}{k:Nat}{Q:Exit->aap->aae->Prop}:adP I k Q .ret fr h=Q .ret fr h:=id rfl
def xz{I:Nat->aap->aae->Prop}{k i:Nat}{Q:Exit->aap->aae->Prop}:adP I k Q (.exit i) fr h=Q (.exit i) fr h:=id rfl
def aab.intro{c:Code}{ks:List Kt}{R:Exit->aap->aae->Prop}(I:Nat->aap->aae->Prop)(k0:Nat)(l:List (Nat×Value))(hs:Fj fr l)(d:I k0 (mkF l) h)(e:∀k fr h,WF h->I k fr h->VK P W0 N c [] (adP I k (KE P W0 N R ks)) fr h):aab P W0 N c ks R fr h:=
 .loop I k0 _ (Sub.mkF hs) d fun k fr h hi=>ud.wf fun hw=>VC.sound (e k fr h hw hi)
def aia(P:Program)(W0:LA)(N:Nat)(ops:Array Oper)(Q:aap->aae->Prop):DT->II->aap->aae->Prop
 |.done,_,fr,h=>Q fr h
 |.no,_,_,_=>True
 |.fl i t,pend,fr,h=>
  onO ops[i]? fun o=>onO (agU ops fr o) fun w=>
   Vm w (onO (afN P fr h o) fun p=>p.2=h/\onO (putDst N fr o.dst p.1) fun fr'=>aia P W0 N ops Q t (i::pend) fr' h)
    (onO (putDst N fr o.dst Yx) fun fr'=>aia P W0 N ops Q t (i::pend) fr' h)
 |.ch i pre t other,pend,fr,h=>
  (onO ops[i]? fun o=>onO (agU ops fr o) fun w=>
   Vm w
    (Vm (Zm o) (cD P W0 N o fr h fun fr' h'=>afI P ops fr' h' (pend.filter fun p=>!pre.contains p)/\aia P W0 N ops Q t (pend.filter fun p=>!pre.contains p) fr' h')
     (onO (afN P fr h o) fun p=>onO (putDst N fr o.dst p.1) fun fr'=>afI P ops fr' p.2 (pend.filter fun p=>!pre.contains p)/\aia P W0 N ops Q t (pend.filter fun p=>!pre.contains p) fr' p.2))
    (onO (putDst N fr o.dst Yx) fun fr'=>aia P W0 N ops Q t (pend.filter fun p=>!pre.contains p) fr' h))/\
  aia P W0 N ops Q other pend fr h
theorem aia.sound{Q:aap->aae->Prop}:∀{t:DT}{pend:II}{fr:aap}{h:aae},aia P W0 N ops Q t pend fr h->DW P W0 N ops Q t pend fr h:=by
 intro t
 induction t with
 |done=>intro pend fr h q;exact q
 |no=>intro pend fr h _;exact trivial
 |fl i t p=>
  intro pend fr h q;simp only[aia]at q;obtain⟨o,d,q⟩:=G9.1 q;obtain⟨w,hw,q⟩:=G9.1 q;simp only[DW,d,hw];cases w with
  |false=>obtain⟨fr',k,q⟩:=G9.1 q;grind
  |true=>obtain⟨⟨v,h'⟩,hs,rfl,q⟩:=G9.1 q;grind[G9]
 |ch i pre t other l e=>
  intro pend fr h q;simp only[aia]at q;obtain⟨q,m⟩:=q;simp only[DW];refine⟨?_,e m⟩;obtain⟨o,d,q⟩:=G9.1 q;obtain⟨w,hw,q⟩:=G9.1 q;simp only[d,hw];cases w with
  |false=>obtain⟨fr',k,q⟩:=G9.1 q;grind
  |true=>
   simp only[yF]at q;cases f:Zm o with
   |true=>rw[f]at q;obtain⟨g,args,fn,c,n,hg,ha⟩:=q;grind[AC.mono,G9]
   |false=>rw[f]at q;obtain⟨⟨v,h'⟩,hs,q⟩:=G9.1 q;grind[G9]
def KD(P:Program)(W0:LA)(N:Nat)(ops:Array Oper)(ks:List Kt)(R:Exit->aap->aae->Prop)(t:DT)(pend:II)(fr:aap)(h:aae):Prop:=aia P W0 N ops (KE P W0 N R ks .normal) t pend fr h
def KF1(P:Program)(W0:LA)(N:Nat)(ops:Array Oper)(ks:List Kt)(R:Exit->aap->aae->Prop)(t:DT)(pend:II)(fr:aap)(h:aae)(x:Option Oper):Prop:=
 onO x fun o=>onO (agU ops fr o) fun w=>
   Vm w (onO (afN P fr h o) fun p=>p.2=h/\onO (putDst N fr o.dst p.1) fun fr'=>KD P W0 N ops ks R t pend fr' h)
    (onO (putDst N fr o.dst Yx) fun fr'=>KD P W0 N ops ks R t pend fr' h)
def KF2(P:Program)(W0:LA)(N:Nat)(ops:Array Oper)(ks:List Kt)(R:Exit->aap->aae->Prop)(t:DT)(pend:II)(fr:aap)(h:aae)(o:Oper)(w:Option Bool):Prop:=
  onO w fun w=>Vm w (onO (afN P fr h o) fun p=>p.2=h/\onO (putDst N fr o.dst p.1) fun fr'=>KD P W0 N ops ks R t pend fr' h)
        (onO (putDst N fr o.dst Yx) fun fr'=>KD P W0 N ops ks R t pend fr' h)
def KF3(P:Program)(W0:LA)(N:Nat)(ops:Array Oper)(ks:List Kt)(R:Exit->aap->aae->Prop)(t:DT)(pend:II)(fr:aap)(h:aae)(o:Oper)(x:Option (Value×aae)):Prop:=onO x fun p=>p.2=h/\onO (putDst N fr o.dst p.1) fun fr'=>KD P W0 N ops ks R t pend fr' h
def KF4(P:Program)(W0:LA)(N:Nat)(ops:Array Oper)(ks:List Kt)(R:Exit->aap->aae->Prop)(t:DT)(pend:II)(h:aae)(x:Option aap):Prop:=onO x fun fr'=>KD P W0 N ops ks R t pend fr' h
def KG1(P:Program)(W0:LA)(N:Nat)(ops:Array Oper)(ks:List Kt)(R:Exit->aap->aae->Prop)(t:DT)(pend:II)(fr:aap)(h:aae)(x:Option Oper):Prop:=
 onO x fun o=>onO (agU ops fr o) fun w=>
   Vm w
    (Vm (Zm o) (cD P W0 N o fr h fun fr' h'=>afI P ops fr' h' pend/\KD P W0 N ops ks R t pend fr' h')
     (onO (afN P fr h o) fun p=>onO (putDst N fr o.dst p.1) fun fr'=>afI P ops fr' p.2 pend/\KD P W0 N ops ks R t pend fr' p.2))
    (onO (putDst N fr o.dst Yx) fun fr'=>KD P W0 N ops ks R t pend fr' h)
def KG2(P:Program)(W0:LA)(N:Nat)(ops:Array Oper)(ks:List Kt)(R:Exit->aap->aae->Prop)(t:DT)(pend:II)(fr:aap)(h:aae)(o:Oper)(w:Option Bool):Prop:=
  onO w fun w=>Vm w
        (Vm (Zm o) (cD P W0 N o fr h fun fr' h'=>afI P ops fr' h' pend/\KD P W0 N ops ks R t pend fr' h')
          (onO (afN P fr h o) fun p=>onO (putDst N fr o.dst p.1) fun fr'=>afI P ops fr' p.2 pend/\KD P W0 N ops ks R t pend fr' p.2))
        (onO (putDst N fr o.dst Yx) fun fr'=>KD P W0 N ops ks R t pend fr' h)
def KG3(P:Program)(W0:LA)(N:Nat)(ops:Array Oper)(ks:List Kt)(R:Exit->aap->aae->Prop)(t:DT)(pend:II)(fr:aap)(h:aae)(o:Oper)(b:Bool):Prop:=
  Vm b (cD P W0 N o fr h fun fr' h'=>afI P ops fr' h' pend/\KD P W0 N ops ks R t pend fr' h')
          (onO (afN P fr h o) fun p=>onO (putDst N fr o.dst p.1) fun fr'=>afI P ops fr' p.2 pend/\KD P W0 N ops ks R t pend fr' p.2)
def VA(P:Program)(W0:LA)(N:Nat)(ops:Array Oper)(ks:List Kt)(R:Exit->aap->aae->Prop)(t:DT)(pend:II)(fr:aap)(h:aae)(o:Oper):Prop:=cD P W0 N o fr h fun fr' h'=>afI P ops fr' h' pend/\KD P W0 N ops ks R t pend fr' h'
def KG4(P:Program)(W0:LA)(N:Nat)(ops:Array Oper)(ks:List Kt)(R:Exit->aap->aae->Prop)(t:DT)(pend:II)(fr:aap)(o:Oper)(x:Option (Value×aae)):Prop:=onO x fun p=>onO (putDst N fr o.dst p.1) fun fr'=>afI P ops fr' p.2 pend/\KD P W0 N ops ks R t pend fr' p.2
def KG5(P:Program)(W0:LA)(N:Nat)(ops:Array Oper)(ks:List Kt)(R:Exit->aap->aae->Prop)(t:DT)(pend:II)(h:aae)(x:Option aap):Prop:=onO x fun fr'=>afI P ops fr' h pend/\KD P W0 N ops ks R t pend fr' h
section eqs
variable{ks:List Kt}{R:Exit->aap->aae->Prop}{o:Oper}{i:Nat}{t other:DT}{pend pre:II}{v:Value}{h':aae}
def KD_done:KD P W0 N ops ks R .done pend fr h=KN P W0 N ks R fr h:=id rfl
def KD_no:KD P W0 N ops ks R .no pend fr h=True:=id rfl
def KD_fl:KD P W0 N ops ks R (.fl i t) pend fr h=KF1 P W0 N ops ks R t (i::pend) fr h ops[i]?:=id rfl
def KF1_some:KF1 P W0 N ops ks R t pend fr h (some o)=KF2 P W0 N ops ks R t pend fr h o (agU ops fr o):=id rfl
def KF2_true:KF2 P W0 N ops ks R t pend fr h o (some true)=KF3 P W0 N ops ks R t pend fr h o (afN P fr h o):=id rfl
def T7:KF2 P W0 N ops ks R t pend fr h o (some false)=KF4 P W0 N ops ks R t pend h (putDst N fr o.dst Yx):=id rfl
def KF3_some:KF3 P W0 N ops ks R t pend fr h o (some (v,h))=KF4 P W0 N ops ks R t pend h (putDst N fr o.dst v):=by simp[KF3,KF4,onO]
def KF4_some:KF4 P W0 N ops ks R t pend h (some fr)=KD P W0 N ops ks R t pend fr h:=id rfl
def KD_ch:KD P W0 N ops ks R (.ch i pre t other) pend fr h=(KG1 P W0 N ops ks R t (pend.filter fun p=>!pre.contains p) fr h ops[i]?/\KD P W0 N ops ks R other pend fr h):=id rfl
def KG1_some:KG1 P W0 N ops ks R t pend fr h (some o)=KG2 P W0 N ops ks R t pend fr h o (agU ops fr o):=id rfl
def KG2_true:KG2 P W0 N ops ks R t pend fr h o (some true)=KG3 P W0 N ops ks R t pend fr h o (Zm o):=id rfl
def YY:KG2 P W0 N ops ks R t pend fr h o (some false)=KF4 P W0 N ops ks R t pend h (putDst N fr o.dst Yx):=id rfl
def KG3_true:KG3 P W0 N ops ks R t pend fr h o true=VA P W0 N ops ks R t pend fr h o:=id rfl
def fw:KG3 P W0 N ops ks R t pend fr h o false=KG4 P W0 N ops ks R t pend fr o (afN P fr h o):=id rfl
def KG4_some:KG4 P W0 N ops ks R t pend fr o (some (v,h'))=KG5 P W0 N ops ks R t pend h' (putDst N fr o.dst v):=id rfl
def KG5_some:KG5 P W0 N ops ks R t pend h (some fr)=(afI P ops fr h pend/\KD P W0 N ops ks R t pend fr h):=id rfl
end eqs
def HD(fr:aap)(d:Option Tmp)(v:Value):Prop:=∀k,d=some k->fr.get k=some v
def H3(fr:aap)(h:aae)(d:Option Tmp)(x:Option (Value×aae)):Prop:=∃v,x=some (v,h)/\HD fr d v
def H2(P:Program)(fr:aap)(h:aae)(o:Oper)(w:Option Bool):Prop:=
 match w with
 |some true=>H3 fr h o.dst (afN P fr h o)
 |some false=>HD fr o.dst Yx
 |none=>False
def H1(P:Program)(ops:Array Oper)(fr:aap)(h:aae)(x:Option Oper):Prop:=
 match x with
 |some o=>H2 P fr h o (agU ops fr o)
 |none=>False
theorem Holds_eq(p:Nat):Holds P ops fr h p=H1 P ops fr h ops[p]?:=by grind[Holds,H1,H2,H3,HD]
def H1_some{o:Oper}:H1 P ops fr h (some o)=H2 P fr h o (agU ops fr o):=id rfl
def H2_true{o:Oper}:H2 P fr h o (some true)=H3 fr h o.dst (afN P fr h o):=id rfl
def H2_false{o:Oper}:H2 P fr h o (some false)=HD fr o.dst Yx:=id rfl
def H3_some{d:Option Tmp}{v:Value}:H3 fr h d (some (v,h))=HD fr d v:=by simp[H3]
def HD_some{k:Tmp}{v:Value}:HD fr (some k) v=(fr.get k=some v):=by simp[HD]
def HD_none{v:Value}:HD fr none v=True:=by simp[HD]
def VA.intro{ks:List Kt}{R:Exit->aap->aae->Prop}{o:Oper}{t:DT}{pend:II}{g:FuncId}{args:List Value}{fn:Func}{c:Code}{Rc:Value->aae->Prop}(d:agG fr o=some (g,args))(hg:Good P g fn c)(ha:AC P W0 g args h Rc)(e:∀v h',WF h'->Rc v h'->KG5 P W0 N ops ks R t pend h' (putDst N fr o.dst v)):VA P W0 N ops ks R t pend fr h o:=rZ d hg ha e
def ZJ.intro{i:Nat}{ol:List Oper}{ks:List Kt}{R:Exit->aap->aae->Prop}(e:P.follows .mixedOrders=true)(t:DT)(d:gN ol.toArray t=true)(hd:KD P W0 N ol.toArray ks R t [] fr h):ZJ P W0 N i ol.toArray ks R fr h:=.draw e t d hd.sound
end
end Go.Fw
