/- A text. -/
import Derived.OrdersIn
import Derived.Orders
import Derived.Test.YtnakkbhjoiheoaaGreatFwOps8
set_option linter.all false
set_option maxRecDepth 99999
set_option maxHeartbeats 9999999
open Option renaming some→Z,none→Y
open Bool renaming true→tT,false→fF
open List renaming replicate→rP,range→rG
open Go.Value renaming slice→sL,pointer→pT
open Go renaming Value→vV
open List
namespace Go.Fw
section
variable{P:Program}{W0:LA}{N:Nat}{ops:Array Oper}{fr:aam}{h:aai}
theorem aM{fr fr':aam}{x:Operand}(a:∀t,x=.tmp t->fr'.get t=fr.get t):aa6 fr' x=aa6 fr x:=by
 cases x with
 |tmp t=>exact a t rfl
 |_=>rfl
theorem YK{fr fr':aam}:∀{l:List Operand},(∀t,Operand.tmp t∈l->fr'.get t=fr.get t)->acZ fr' l=acZ fr l
 |[],_=>rfl
 |x::r,a=>by simp only[acZ];rw[aM (fun t e=>a t (by simp[e])),YK (fun t e=>a t (by simp[e]))]
theorem MU{fr fr':aam}:∀{l:List (Nat×Operand)},(∀t,Operand.tmp t∈l.map (·.2)->fr'.get t=fr.get t)->aeb fr' l=aeb fr l
 |[],_=>rfl
 |(i,x)::r,a=>by simp only[aeb];rw[aM (fun t e=>a t (by simp[e])),MU (fun t e=>a t hGr)]
theorem tt{fr fr':aam}{x:Option Operand}(a:∀t,x=Z (.tmp t)->fr'.get t=fr.get t):aec fr' x=aec fr x:=by
 cases x<;>grind[aec,aM]
theorem qP{o:Oper}{t:Tmp}(h:Operand.tmp t∈o.op.operands.toList):t∈o.looksAt ops:=by unfold Oper.looksAt;grind
theorem yE{fr fr':aam}{o:Oper}(g:∀t,t∈o.looksAt ops->fr'.get t=fr.get t):abr P fr' h o=abr P fr h o:=by
 have d:∀t,Operand.tmp t∈o.op.operands.toList->fr'.get t=fr.get t:=fun t j=>g t (qP j);unfold abr;cases m:o.op<;>rw[m]at d<;>simp only[Op.operands]at d
 case call c=>
  cases c with
  |mk callee args ats=>
   cases callee with
   |builtin b=>simp only[Call.operands]at d;grind[YK]
   |_=>rfl
 case pick c a b=>grind[aM]
 case build t ps=>grind[MU]
 case buildSlice t n ps=>grind[MU]
 case makeFunc f a b=>grind[YK]
 case slice t x l hh mm=>simp only[];rw[aM (x:=x) (fun t e=>d t (by simp[e])),tt (x:=l) (fun t e=>d t (by simp[e])),tt (x:=hh) (fun t e=>d t (by simp[e])),tt (x:=mm) (fun t e=>d t (by simp[e]))]
 case lookup t x i ok=>grind[aM]
 case mapUpdate t x k y=>grind[aM]
 all_goals first
  |rfl
  |(rename_i x;simp only[];rw[aM (x:=x) (fun t e=>d t (by simp[e]))];done)
  |(rename_i _ x;simp only[];rw[aM (x:=x) (fun t e=>d t (by simp[e]))];done)
  |(rename_i x _;simp only[];rw[aM (x:=x) (fun t e=>d t (by simp[e]))];done)
  |(rename_i _ x _;simp only[];rw[aM (x:=x) (fun t e=>d t (by simp[e]))];done)
  |(rename_i _ _ x;simp only[];rw[aM (x:=x) (fun t e=>d t (by simp[e]))];done)
  |(rename_i _ x y;simp only[];rw[aM (x:=x) (fun t e=>d t (by simp[e])),aM (x:=y) (fun t e=>d t (by simp[e]))];done)
  |grind[aM]
theorem Us{fr fr':aam}{o:Oper}(a:∀t,t∈o.looksAt ops->fr'.get t=fr.get t):ab6 ops fr' o=ab6 ops fr o:=by
 unfold ab6;cases hg:o.guard with
 |none=>rfl
 |some p=>
  have⟨j,w⟩:=p;simp only[];cases hd:(ops[j]?).bind (·.dst)with
  |none=>rfl
  |some d=>simp only[];rw[a d (by unfold Oper.looksAt;grind)]
theorem Wf{fr fr':aam}{o:Oper}(b:∀t,t∈o.looksAt ops->fr'.get t=fr.get t):abt fr' o=abt fr o:=by
 have a:∀t,Operand.tmp t∈o.op.operands.toList->fr'.get t=fr.get t:=by grind[qP]
 unfold abt
 cases d:o.op<;>try rfl
 rename_i c;cases c with
 |mk callee args ats=>
  cases callee with
  |value f=>simp only[Op.operands,Call.operands]at a;grind[aM,YK]
  |_=>rfl
inductive DT where
 |done
 |no
 |fl (i:Nat) (t:DT)
 |ch (i:Nat) (pre:II) (t other:DT)
def ze(o:Oper):II:=(o.after.toList.filter fun e=>Region.binds .any e).map (·.on)
def abF(ops:Array Oper)(i:Nat):II:=match ops[i]? with|some o=>ze o|none=>[]
def Y1(ops:Array Oper)(i:Nat):Option Tmp:=match ops[i]? with|some o=>o.dst|none=>Y
def Vz(ops:Array Oper)(i:Nat):List Tmp:=match ops[i]? with|some o=>o.looksAt ops|none=>[]
def isFloat(o:Oper):Bool:=
 match o.op with
 |.move _|.assign _|.pick ..|.load ..|.nilCheck _|.binOp ..|.unOp ..|.makeInterface ..|.makeFunc ..|.slice ..|.fieldAddr ..|.field ..|.indexAddr ..|.index ..|.extract ..|.build ..=>tT
 |.convert _ _ _=>tT
 |.call {callee:=.builtin .len,..}|.call {callee:=.builtin .min,..}|.call {callee:=.builtin .max,..}=>tT
 |_=>fF
def afF(ops:Array Oper)(i:Nat):Bool:=
 match Y1 ops i with
 |some d=>(rG ops.size).all fun j=>!(Vz ops j).contains d||(j !=i&&(abF ops j).contains i)
 |none=>tT
def lV(ops:Array Oper)(i:Nat):Bool:=
 match ops[i]? with
 |some o=>isFloat o&&afF ops i
 |none=>fF
def xx(ops:Array Oper)(rest:II):II:=rest.filter fun x=>(abF ops x).all fun p=>!rest.contains p
def agt:DT->Bool
 |.no=>fF
 |_=>tT
def isAlt:DT->Bool
 |.no=>tT
 |.ch ..=>tT
 |_=>fF
def aeg(ops:Array Oper):II->II->DT->Bool
  |rest,_,.done=>rest.isEmpty
  |_,cs,.no=>cs.isEmpty
  |rest,_,.fl i t=>rest.contains i&&lV ops i&&(abF ops i).all (fun p=>!rest.contains p)&&agt t&&aeg ops (rest.filter fun x=>x !=i) (xx ops (rest.filter fun x=>x !=i)) t
  |rest,cs,.ch i pre t other=>rest.contains i&&(abF ops i).all (fun p=>!rest.contains p)&&pre.all (fun q=>(abF ops i).contains q)&&
      agt t&&aeg ops (rest.filter fun x=>x !=i) (xx ops (rest.filter fun x=>x !=i)) t&&isAlt other&&aeg ops rest (cs.filter fun x=>x !=i) other
def ui(ops:Array Oper)(rest:II)(t:DT):Bool:=agt t&&aeg ops rest (xx ops rest) t
def akk(ops:Array Oper)(t:DT):Bool:=
 (rG ops.size).all (fun i=>(abF ops i).all fun p=>Nat.blt p i)&&
 (rG ops.size).all (fun i=>(rG ops.size).all fun j=>i==j||
  match Y1 ops j with
  |some d=>(!(Vz ops i).contains d||(abF ops i).contains j||(abF ops j).contains i)&&Y1 ops i !=Z d
  |none=>tT)&&
 ui ops (rG ops.size) t
def Holds(P:Program)(ops:Array Oper)(fr:aam)(h:aai)(p:Nat):Prop:=
  match ops[p]? with
  |some o=>match ab6 ops fr o with
    |some tT=>∃v,abr P fr h o=Z (v,h)/\∀d,o.dst=Z d->fr.get d=Z v
    |some fF=>∀d,o.dst=Z d->fr.get d=Z Yx
    |none=>False
  |none=>False
def abj(P:Program)(ops:Array Oper)(fr:aam)(h:aai):II->Prop
 |[]=>True
 |p::r=>Holds P ops fr h p/\abj P ops fr h r
def DW(P:Program)(W0:LA)(N:Nat)(ops:Array Oper)(Q:aam->aai->Prop):DT->II->aam->aai->Prop
  |.done,_,fr,h=>Q fr h
  |.no,_,_,_=>True
  |.fl i t,aac,fr,h=>
    match ops[i]? with
    |none=>False
    |some o=>
      match ab6 ops fr o with
      |none=>False
      |some fF=>match putDst N fr o.dst Yx with
        |none=>False
        |some fr'=>DW P W0 N ops Q t (i::aac) fr' h
      |some tT=>match abr P fr h o with
          |none=>False
          |some (v,h')=>h'=h/\match putDst N fr o.dst v with
            |none=>False
            |some fr'=>DW P W0 N ops Q t (i::aac) fr' h
  |.ch i pre t other,aac,fr,h=>
    (match ops[i]? with
    |none=>False
    |some o=>
      match ab6 ops fr o with
      |none=>False
      |some fF=>match putDst N fr o.dst Yx with
        |none=>False
        |some fr'=>DW P W0 N ops Q t (aac.filter fun p=>!pre.contains p) fr' h
      |some tT=>
          match Zm o with
          |true=>∃g args fn c,abt fr o=Z (g,args)/\Good P g fn c/\AC P W0 g args h fun v h'=>∃fr',putDst N fr o.dst v=Z fr'/\
              abj P ops fr' h' (aac.filter fun p=>!pre.contains p)/\DW P W0 N ops Q t (aac.filter fun p=>!pre.contains p) fr' h'
          |false=>match abr P fr h o with
            |none=>False
            |some (v,h')=>match putDst N fr o.dst v with
              |none=>False
              |some fr'=>abj P ops fr' h' (aac.filter fun p=>!pre.contains p)/\DW P W0 N ops Q t (aac.filter fun p=>!pre.contains p) fr' h')/\
    DW P W0 N ops Q other aac fr h
theorem abj.mem{fr:aam}{h:aai}:∀{l:II},abj P ops fr h l->∀p∈l,Holds P ops fr h p
 |[],_,p,a=>by simp at a
 |q::r,hh,p,a=>by
  rcases HV.1 a with rfl|a
  .exact hh.1
  .exact abj.mem hh.2 p a
def acq(fr:aam):List Tmp->aam
 |[]=>fr
 |d::r=>(acq fr r).del d
theorem W6(fr:aam)(k:Nat):∀(l:List Tmp),(acq fr l).get k=if k∈l then Y else fr.get k
 |[]=>by simp[acq]
 |d::r=>by simp only[acq,Trie.Ik,W6 fr k r,HV];grind
def KA(listed:Array Bool)(i:Nat):Bool:=!listed.getD i tT
theorem J3{a:Array Bool}{i j:Nat}(hi:KA a i=tT):KA (a.setIfInBounds i tT) j=(KA a j&&j !=i):=by unfold KA;simp only[ak4,qL170];grind
def OT(n:Nat)(a:Array Bool):Nat:=(rG n).countP (KA a)
theorem Hk{p q:Nat->Bool}{i:Nat}:∀{l:II},l.Nodup->i∈l->p i=tT->q i=fF->(∀j,j≠i->q j=p j)->l.countP q+1=l.countP p
 |[],_,h,_,_,_=>by simp at h
 |x::r,a,h,b,c,d=>by
  rw[eR]at a;by_cases e:x=i
  .grind[countP_congr]
  .have hi:i∈r:=hGr;have:=Hk a.2 hi b c d;grind
theorem u7{n i:Nat}{a:Array Bool}(hi:i<n)(b:KA a i=tT):OT n (a.setIfInBounds i tT)+1=OT n a:=by
 refine Hk Hs (Db.2 hi) b ?_ ?_
 all_goals grind[J3]
theorem sk{n:Nat}{a:Array Bool}(h:OT n a=0)(i:Nat)(hi:i<n):KA a i=fF:=by grind[OT,countP_eq_zero]
theorem QX{i:Nat}{o:Oper}(h:ops[i]?=Z o):abF ops i=ze o:=by grind[abF]
theorem Rs{i:Nat}{o:Oper}(h:ops[i]?=Z o):Y1 ops i=o.dst:=by grind[Y1]
theorem YZ{i:Nat}{o:Oper}(h:ops[i]?=Z o):Vz ops i=o.looksAt ops:=by grind[Vz]
structure CK (ops:Array Oper):Prop where
 preds:∀i p,i<ops.size->p∈abF ops i->p<i
 pair:∀i j d,i<ops.size->j<ops.size->i≠j->Y1 ops j=Z d->(d∈Vz ops i->j∈abF ops i\/i∈abF ops j)/\Y1 ops i≠Z d
theorem CK.of{t:DT}(h:akk ops t=tT):CK ops/\ui ops (rG ops.size) t=tT:=by simp only[akk,Cg,QD,Db,beq_iff_eq,ai4,alM,Nat.blt_eq]at h;have⟨⟨c,e⟩,a⟩:=h;refine⟨⟨hGr,fun i j d hi f b hd=>?_⟩,a⟩;grind
theorem mem_cands{rest:II}{x:Nat}:x∈xx ops rest↔x∈rest/\∀p∈abF ops x,p∉rest:=by grind[xx]
structure Inv (P:Program) (N:Nat) (ops:Array Oper) (rest aac:II) (fr:aam) (h:aai) (listed:Array Bool):Prop where
 every:∀i,i<ops.size->KA listed i=tT->i∈aac\/i∈rest
 Cf:∀i∈rest,KA listed i=tT/\i<ops.size
 OF:∀p∈aac,p<ops.size/\p∉rest/\(∀q∈abF ops p,q∉rest)/\(∀d,Y1 ops p=Z d->d<N)/\afF ops p=tT
 holds:∀p∈aac,KA listed p=tT->Holds P ops fr h p
def BG(ops:Array Oper)(aac:II)(a:Array Bool):List Tmp:=(aac.filter (KA a)).filterMap (Y1 ops)
theorem WN{aac:II}{a:Array Bool}{t:Tmp}:t∈BG ops aac a↔∃p∈aac,KA a p=tT/\Y1 ops p=Z t:=by grind[BG]
theorem BV{fr fr':aam}{d:Option Tmp}{v:vV}(h:putDst N fr d v=Z fr'):(∀k,d≠Z k->fr'.get k=fr.get k)/\∀k,d=Z k->fr'.get k=Z v/\k<N:=by
 cases d<;>grind[putDst,Trie.bR,Trie.Xw]
theorem Holds.congr{fr fr':aam}{h:aai}{p:Nat}(hh:Holds P ops fr h p)(a:∀t∈Vz ops p,fr'.get t=fr.get t)(hd:∀d,Y1 ops p=Z d->fr'.get d=fr.get d):Holds P ops fr' h p:=by
 unfold Holds at*;cases c:ops[p]? with
 |none=>grind
 |some o=>
  rw[c]at hh;simp only[]at hh ⊢;rw[YZ c]at a;rw[Rs c]at hd;rw[Us a];cases hw:ab6 ops fr o with
  |none=>grind
  |some b=>
   rw[hw]at hh;cases b with
   |false=>grind
   |true=>have⟨v,e,h2⟩:=hh;exact⟨v,by rw[yE a];exact e,hGr⟩
theorem Inv.absorb{rest aac:II}{fr fr':aam}{h:aai}{g:Array Bool}{i:Nat}{o:Oper}{v:vV}(ok:CK ops)(l:Inv P N ops rest aac fr h g)(m:i∈rest)(n:∀p∈abF ops i,p∉rest)(A:ops[i]?=Z o)(u:afF ops i=tT)(w:putDst N fr o.dst v=Z fr')(y:Holds P ops fr' h i):
  Inv P N ops (rest.filter fun x=>x !=i) (i::aac) fr' h g:=by
 have⟨k,z⟩:=BV w;have hi:=l.Cf i m;have r:∀x,x∈rest.filter (fun x=>x !=i)↔x∈rest/\x≠i:=fun x=>by simp
 refine⟨fun j B s=>?_,(by grind[Inv.Cf]),fun p f=>?_,fun p f s=>?_⟩
 .grind[Inv.every]
 .rcases HV.1 f with rfl|f
  .grind[Rs]
  .obtain⟨a,b,c,d⟩:=l.OF p f;grind
 .rcases HV.1 f with rfl|f
  .exact y
  .obtain⟨a,b,c,_⟩:=l.OF p f;have q:p≠i:=hGr;refine(l.holds p f s).congr (fun t C=>k t fun e=>?_) (fun d hd=>k d fun e=>?_)
   .grind[afF,Rs]
   .exact(ok.pair i p d hi.2 a (wI q) hd).2 (by grind[Rs])
theorem SI{a:Array Bool}{q:Nat}(hs:q<a.size)(h:KA a q=fF):a.getD q fF=tT:=by grind[KA]
theorem zG{a:Array Bool}{i:Nat}(h:i∈Region.ready .any ops a):KA a i=tT/\i<ops.size/\∃o,ops[i]?=Z o/\∀q∈ze o,KA a q=fF:=by grind[Go.mem_ready,KA,ze]
theorem QS{a:Array Bool}(ok:CK ops)(hs:a.size=ops.size)(h:Region.ready .any ops a=[]):∀i,i<ops.size->KA a i=fF:=by
 intro i
 induction i using Nat.strongRecOn with
 |_ i b=>
  intro hi;cases c:KA a i with
  |false=>rfl
  |true=>
   have:i∈Region.ready .any ops a:=by
    refine mem_ready.2 ⟨by grind[KA],ops[i],aex hi,fun e d hb=>?_⟩;have f:e.on∈abF ops i:=by rw[QX (aex hi)];grind[ze]
    grind[CK.preds,SI]
   grind
theorem PV{m:abd}{n:Nat}{o:Oper}{fr c:aam}{tmps:Array vV}{b:Bool}(F:FR n m c tmps)(d:∀t∈o.looksAt ops,c.get t=fr.get t)(hw:ab6 ops fr o=Z b):
  Region.wanted o (yielded ops tmps)=b:=
 tz (a:=⟨tmps,[]⟩) F (by grind[Us])
theorem Bz{p j:Nat}{d:Tmp}(h:afF ops p=tT)(hd:Y1 ops p=Z d)(a:j<ops.size)(b:d∈Vz ops j):j≠p/\p∈abF ops j:=by grind[afF]
theorem St.fill{f:Cx}{m e:abd}{b c:aam}{h h':aai}{a:Act}{w w':World}(s:St W0 f N m b h a w)(R':Rel (W0.add f.ex) e h' w')(g:ZK h.next m e)(j:h.next<=h'.next){d:Option Tmp}{v v':vV}(l:VR h'.next e v v')(hf:∀k u,c.get k=Z u->(d=Z k/\u=v/\k<N)\/(d≠Z k/\b.get k=Z u)):St W0 f N e c h' (a.put d v') w':=by
 have F:=s.frame.mono j g;refine⟨R',fun k u n=>?_,?_,?_,?_⟩
 .rcases hf k u n with⟨rfl,rfl,o⟩|⟨hd,hg⟩
  .exact⟨v',by simp[Act.put,s.size,o],l⟩
  .obtain⟨u',i,h2⟩:=F k u hg;refine⟨u',?_,h2⟩;cases d with
   |none=>exact i
   |some d=>have:d≠k:=hGr;simp[Act.put,this,i]
 .cases d<;>exact s.defers
 .cases d<;>simp[Act.put,s.size]
 .exact s.round
theorem call_wp{k:Cx}{nn:Nat}{m:abd}{fr:aam}{h:aai}{a:Act}{w:World}(s:St W0 k N m fr h a w){o:Oper}{g:FuncId}{args:xLV}{fn:Func}{c:Code}(d:abt fr o=Z (g,args))(hg:Good P g fn c){R:vV->aai->Prop}(u:AC P W0 g args h R){r:Act->World->Prop}{K:Exit->Act->World->Prop}(D:∀v v' l h' w',ZK h.next m l->h.next<=h'.next->Rel (W0.add k.ex) l h' w'->VR h'.next l v v'->R v h'->r (a.put o.dst v') w'):o.wpIn (Xc k.ro) nn P a w r K:=by
 unfold abt at d;split at d
 .rename_i f as ats n;split at d
  .rename_i t first cap vs hf p
   injection d with d;simp only[Gw]at d;obtain⟨rfl,rfl⟩:=d;have i:=Ns s.frame hf;have y:=PZ s.frame p;refine ph hGr ?_
   have key:∃b cap',a.eval f=.func (.func t) b cap'/\AK h.next m first.toList b.toList/\AK h.next m cap.toList cap'.toList:=by
    generalize a.eval f=x at i;cases i with
    |flat hf=>grind[flat]
    |func E h2 h3 F=>exact⟨_,_,rfl,⟨hGr,hGr⟩,⟨hGr,hGr⟩⟩
   have⟨b,cap',q,z,A⟩:=key
   have j:(execOp a.eval o).run P w=.ok (.enter t ((b.toList++as.toList.map a.eval++cap'.toList).toArray)) w:=by
    have B:(b++as.map a.eval++cap')=(b.toList++as.toList.map a.eval++cap'.toList).toArray:=by simp
    simp only[execOp,n,resolve,q,Deferred.ofValue,Sem.run_bind,Sem.run_pure,Result.andThen_ok,invoke,callFunc,run_program,hg.func,hg.name,ah9,if_false,hg.body,akN,B]
   rw[j]
   have e:=u k.ex m w (b.toList++as.toList.map a.eval++cap'.toList) s.rel (by grind[AK.append])
   refine⟨(fun C=>by cases C),qN (e.mono ?_)⟩;grind
  .cases d
 .cases d
theorem YF{g:Cx}{nn:Nat}{Q:aam->aai->Prop}{K:Exit->Act->World->Prop}{fuel:Nat}(U:∀(t:DT)(rest aac:II)(fr:aam)(h:aai)(b:Array Bool)(m:abd)(a:Act)(w:World),
   OT ops.size b=fuel->b.size=ops.size->Inv P N ops rest aac fr h b->ui ops rest t=tT->DW P W0 N ops Q t aac fr h->St W0 g N m (acq fr (BG ops aac b)) h a w->
   (∀l fr' h' a' w',ZK h.next m l->h.next<=h'.next->St W0 g N l fr' h' a' w'->Q fr' h'->K .normal a' w')->wpAnyIn (Xc g.ro) nn P .any ops K fuel b a w){t:DT}{rest aac:II}{fr:aam}{h:aai}{b:Array Bool}{m:abd}{a:Act}{w:World}(hc:OT ops.size b=fuel+1)(hs:b.size=ops.size)(r:Inv P N ops rest aac fr h b)(x:ui ops rest t=tT)(V:DW P W0 N ops Q t aac fr h)(s:St W0 g N m (acq fr (BG ops aac b)) h a w)(W:∀l fr' h' a' w',ZK h.next m l->h.next<=h'.next->St W0 g N l fr' h' a' w'->Q fr' h'->K .normal a' w'){j:Nat}(X:j∈Region.ready .any ops b)(y:j∈aac):wpOpIn (Xc g.ro) nn P ops K j (wpAnyIn (Xc g.ro) nn P .any ops K fuel (b.setIfInBounds j tT)) a w:=by
 obtain⟨hu,B,o,L,M⟩:=zG X;have C:OT ops.size (b.setIfInBounds j tT)=fuel:=by grind[u7]
 have hs':(b.setIfInBounds j tT).size=ops.size:=hGr;have aa:j∉rest:=(r.OF j y).2.1;have D:Inv P N ops rest aac fr h (b.setIfInBounds j tT):=by
  refine⟨fun i hi ae=>?_,fun i hi=>⟨?_,(r.Cf i hi).2⟩,r.OF,fun p O E=>?_⟩
  .grind[J3,Inv.every]
  .grind[J3,Inv.Cf]
  grind[J3,Inv.holds]
 have c:∀t∈o.looksAt ops,(acq fr (BG ops aac b)).get t=fr.get t:=by intro t ht;rw[W6,WA];intro hh;obtain⟨p,O,E,F⟩:=WN.1 hh;obtain⟨_,_,_,_,G⟩:=r.OF p O;obtain⟨ai,R⟩:=Bz G F B (by grind[YZ]);grind[QX]
 have f:∀v,(∀d,o.dst=Z d->fr.get d=Z v)->∀k u,(acq fr (BG ops aac (b.setIfInBounds j tT))).get k=Z u->
   (o.dst=Z k/\u=v/\k<N)\/(o.dst≠Z k/\(acq fr (BG ops aac b)).get k=Z u):=by
  intro v S k u n;rw[W6]at n;split at n
  .cases n
  .by_cases hd:o.dst=Z k
   .grind[Inv.OF,Rs]
   grind[W6,WN,J3,Rs]
 have q:=r.holds j y hu;unfold Holds at q;rw[L]at q;simp only[]at q;unfold wpOpIn;rw[L];simp only[];split at q
 .rename_i hw;obtain⟨v,z,H⟩:=q;rw[Sb (PV s.frame c hw)];obtain⟨l,v',w',e,R',A,I,S⟩:=ae4 (P:=P) (a:=a) s.rel s.frame (by rw[yE c];exact z);have T:=s.fill R' A I S (f v H);have:=U t rest aac fr h _ l (a.put o.dst v') w' C hs' D x V T fun m2 J h2 a2 w2 e1 e2 e3 e4=>W m2 J h2 a2 w2 (A.trans e1 I) (ff I e2) e3 e4;refine ph (Nw z) ?_;rcases e with e|⟨e,rfl⟩<;>rw[e]<;>exact this
 .rename_i hw;rw[WA (by rw[PV s.frame c hw];simp)];have T:=s.fill s.rel (.refl _ _) (qL0 _) (v:=Yx) (v':=undef) (.tuple rfl hGr) (f Yx q);refine⟨fun _ _=>trivial,?_⟩;grind
 grind
theorem draw_do{D:Cx}{nn:Nat}(ok:CK ops){Q:aam->aai->Prop}{K:Exit->Act->World->Prop}{fuel:Nat}(ih:∀(t:DT)(rest aac:II)(fr:aam)(h:aai)(b:Array Bool)(m:abd)(a:Act)(w:World),
   OT ops.size b=fuel->b.size=ops.size->Inv P N ops rest aac fr h b->ui ops rest t=tT->DW P W0 N ops Q t aac fr h->St W0 D N m (acq fr (BG ops aac b)) h a w->
   (∀C fr' h' a' w',ZK h.next m C->h.next<=h'.next->St W0 D N C fr' h' a' w'->Q fr' h'->K .normal a' w')->wpAnyIn (Xc D.ro) nn P .any ops K fuel b a w){t other:DT}{j:Nat}{pre:II}{rest aac:II}{fr:aam}{h:aai}{b:Array Bool}{m:abd}{a:Act}{w:World}(hc:OT ops.size b=fuel+1)(hs:b.size=ops.size)(H:Inv P N ops rest aac fr h b)(ar:j∈rest)(S:∀q∈pre,q∈abF ops j)(z:ui ops (rest.filter fun x=>x !=j) t=tT)(i:DW P W0 N ops Q (.ch j pre t other) aac fr h)(s:St W0 D N m (acq fr (BG ops aac b)) h a w)(hK:∀C fr' h' a' w',ZK h.next m C->h.next<=h'.next->St W0 D N C fr' h' a' w'->Q fr' h'->K .normal a' w')(hj:j∈Region.ready .any ops b):wpOpIn (Xc D.ro) nn P ops K j (wpAnyIn (Xc D.ro) nn P .any ops K fuel (b.setIfInBounds j tT)) a w:=by
 obtain⟨hu,T,o,ho,aj⟩:=zG hj;have aq:∀x,x∈rest.filter (fun x=>x !=j)↔x∈rest/\x≠j:=fun x=>by simp
 have I:OT ops.size (b.setIfInBounds j tT)=fuel:=by grind[u7]
 have hs':(b.setIfInBounds j tT).size=ops.size:=hGr;have av:∀p∈aac,p≠j:=by grind[Inv.OF]
 have U:∀p∈aac,KA b p=tT->p∈aac.filter fun p=>!pre.contains p:=by grind[QX]
 have f:∀t∈o.looksAt ops,(acq fr (BG ops aac b)).get t=fr.get t:=by intro t ht;rw[W6,WA];intro hh;obtain⟨p,n,A,ay⟩:=WN.1 hh;obtain⟨_,_,_,_,az⟩:=H.OF p n;grind[Bz,YZ,QX]
 have hinv:∀fr' h',(∀p∈aac.filter (fun p=>!pre.contains p),KA (b.setIfInBounds j tT) p=tT->Holds P ops fr' h' p)->Inv P N ops (rest.filter fun x=>x !=j) (aac.filter fun p=>!pre.contains p) fr' h' (b.setIfInBounds j tT):=by
  intro fr' h' r;refine⟨fun i' V aC=>?_,fun i' V=>⟨?_,(H.Cf i' hGr).2⟩,fun p n=>?_,r⟩
  .grind[J3,Inv.every]
  .grind[J3,Inv.Cf]
  .obtain⟨a1,a2,a3,a4,a5⟩:=H.OF p (xD.1 n).1;grind
 have l:∀{v:vV}{fr':aam},putDst N fr o.dst v=Z fr'->∀k u,(acq fr' (BG ops (aac.filter fun p=>!pre.contains p) (b.setIfInBounds j tT))).get k=Z u->
   (o.dst=Z k/\u=v/\k<N)\/(o.dst≠Z k/\(acq fr (BG ops aac b)).get k=Z u):=by
  intro v fr' n k u E;obtain⟨F,W⟩:=BV n;rw[W6]at E;split at E
  .cases E
  grind[W6,WN,J3]
 simp only[DW,ho]at i;replace i:=i.1;unfold wpOpIn;rw[ho];simp only[];split at i
 .exact i.elim
 .rename_i hw;rw[WA (by rw[PV s.frame f hw];simp)];split at i
  .exact i.elim
  .rename_i fr' n;obtain⟨F,W⟩:=BV n;have R:=s.fill s.rel (.refl _ _) (qL0 _) (v:=Yx) (v':=undef) (.tuple rfl hGr) (l n);refine⟨fun _ _=>trivial,ih t _ _ fr' h _ m _ w I hs' (hinv fr' h fun p X A=>?_) z i R hK⟩;rw[J3 hu]at A;simp at A;have J:=(xD.1 X).1;obtain⟨a1,a2,a3,_⟩:=H.OF p J;refine(H.holds p J A.1).congr (fun t ht=>F t fun e=>?_) (fun d hd=>F d fun e=>?_)
   .grind[CK.pair,Rs,QX]
   .exact(ok.pair j p d T a1 (wI A.2) hd).2 (by grind[Rs])
 .rename_i hw;rw[Sb (PV s.frame f hw)];split at i
  .obtain⟨g,args,fn,c,aa,G,ae⟩:=i;refine call_wp s (by rw[Wf f];exact aa) G ae ?_;rintro v v' C h' w' B L R' hv ⟨fr',n,r,M⟩;have R:=s.fill R' B L hv (l n);grind[abj.mem,ZK.trans]
  .split at i
   .exact i.elim
   .rename_i v h' O;split at i
    .exact i.elim
    .rename_i fr' n;obtain⟨r,M⟩:=i;obtain⟨C,v',w',y,R',B,L,hv⟩:=ae4 (P:=P) (a:=a) s.rel s.frame (by rw[yE f];exact O);have R:=s.fill R' B L hv (l n);have:=ih t _ _ fr' h' _ C (a.put o.dst v') w' I hs' (hinv fr' h' fun p n _=>r.mem p n) z M R fun m2 ai h2 a2 w2 e1 e2 e3 e4=>hK m2 ai h2 a2 w2 (B.trans e1 L) (ff L e2) e3 e4;refine ph (Nw O) ?_;rcases y with y|⟨y,rfl⟩<;>rw[y]<;>exact this
theorem alt_find{Q:aam->aai->Prop}{rest aac:II}{fr:aam}{h:aai}{j:Nat}:∀{t:DT}{cs:II},j∈cs->aeg ops rest cs t=tT->DW P W0 N ops Q t aac fr h->isAlt t=tT->
  ∃pre a other,(∀q∈pre,q∈abF ops j)/\ui ops (rest.filter fun x=>x !=j) a=tT/\DW P W0 N ops Q (.ch j pre a other) aac fr h:=by
 intro t
 induction t with
 |done=>intro cs _ _ _ ha;cases ha
 |fl i t _=>intro cs _ _ _ ha;cases ha
 |no=>grind[aeg]
 |ch i pre t other _ b=>grind[aeg,ui,DW]
theorem draw_main{G:Cx}{nn:Nat}(ok:CK ops){Q:aam->aai->Prop}{K:Exit->Act->World->Prop}:∀(fuel:Nat)(t:DT)(rest aac:II)(fr:aam)(h:aai)(b:Array Bool)(m:abd)(a:Act)(w:World),
  OT ops.size b=fuel->b.size=ops.size->Inv P N ops rest aac fr h b->ui ops rest t=tT->DW P W0 N ops Q t aac fr h->St W0 G N m (acq fr (BG ops aac b)) h a w->
  (∀U fr' h' a' w',ZK h.next m U->h.next<=h'.next->St W0 G N U fr' h' a' w'->Q fr' h'->K .normal a' w')->
  wpAnyIn (Xc G.ro) nn P .any ops K fuel b a w:=by
 intro fuel
 induction fuel with
 |zero=>
  intro t
  induction t with
  |no=>grind[ui,agt]
  |done=>
   intro rest aac fr h b m a w l hs g d c s q;have n:=sk l;have hh:BG ops aac b=[]:=by apply jz.2;intro t d;have⟨p,r,B,_⟩:=WN.1 d;rw[n p (g.OF p r).1]at B;cases B
   rw[hh]at s;refine⟨?_,q m fr h a w (.refl _ _) (qL0 _) s c⟩;apply jz.2;intro i hi;have⟨V,h2,_⟩:=zG hi;grind
  |fl i t _=>intro rest aac fr h b m a w l hs g d c s q;have n:=sk l;simp only[ui,aeg,Cg,alM,abV]at d;have:=g.Cf i d.2.1.1.1.1;grind
  |ch i pre t other _ _=>intro rest aac fr h b m a w l hs g d c s q;have n:=sk l;simp only[ui,aeg,Cg,alM,abV]at d;have:=g.Cf i d.2.1.1.1.1.1.1;grind
 |succ fuel I=>
  intro t
  induction t with
  |no=>grind[ui,agt]
  |done=>
   intro rest aac fr h b m a w l hs g d c s q;have J:rest=[]:=by grind[ui,aeg]
   refine⟨fun hr=>?_,fun j C=>?_⟩
   .grind[QS,OT,List.countP_eq_zero]
   .obtain⟨B,y,_⟩:=zG C;rcases g.every j y B with z|D
    .exact YF I l hs g d c s q C z
    grind
  |fl i t ae=>
   intro rest aac fr h b m a w l hs g d c s q;simp only[ui,aeg,Cg,alM,abV]at d;obtain⟨_,⟨⟨⟨L,ai⟩,aj⟩,W⟩,e⟩:=d;have M:ui ops (rest.filter fun x=>x !=i) t=tT:=by grind[ui]
   have O:∀p∈abF ops i,p∉rest:=fun p r=>by grind
   have hi:=g.Cf i L;have R:ops[i]?=Z ops[i]:=aex hi.2;generalize ops[i]'hi.2=o at R
   have aq:afF ops i=tT:=by grind[lV]
   have S:∀{fr':aam}{v:vV},putDst N fr o.dst v=Z fr'->St W0 G N m (acq fr' (BG ops (i::aac) b)) h a w:=by intro fr' v r;have⟨E,F⟩:=BV r;refine⟨s.rel,fun k u hk=>s.frame k u ?_,s.defers,s.size,s.round⟩;grind[W6,WN,Rs]
   simp only[DW,R]at c;split at c
   .exact c.elim
   .rename_i hw;split at c
    .exact c.elim
    .rename_i fr' r;have⟨E,F⟩:=BV r;have f:∀t∈o.looksAt ops,fr'.get t=fr.get t:=by grind[Bz,Rs,YZ]
     have hH:Holds P ops fr' h i:=by grind[Holds,Us]
     grind[Inv.absorb]
   .rename_i hw;split at c
    .exact c.elim
    .rename_i v h' T;obtain⟨rfl,c⟩:=c;split at c
     .exact c.elim
     .rename_i fr' r;have⟨E,F⟩:=BV r;have f:∀t∈o.looksAt ops,fr'.get t=fr.get t:=by grind[Bz,Rs,YZ]
      have hH:Holds P ops fr' h' i:=by unfold Holds;rw[R];simp only[];rw[Us f,hw];exact⟨v,by rw[yE f];exact T,hGr⟩
      grind[Inv.absorb]
  |ch i pre t other _ _=>
   intro rest aac fr h b m a w l hs g d c s q;refine⟨fun hr=>?_,fun j C=>?_⟩
   .grind[QS,OT,List.countP_eq_zero]
   .obtain⟨B,y,oj,ar,X⟩:=zG C;rcases g.every j y B with z|D
    .exact YF I l hs g d c s q C z
    .have A:j∈xx ops rest:=by grind[mem_cands,QX,Inv.Cf]
     have e:=d;simp only[ui,Cg]at e;have⟨aa,t',H,V,h2,h3⟩:=alt_find A e.2 c rfl;exact draw_do ok I l hs g D V h2 h3 s q C
theorem ud.draw{i:Nat}{ol:List Oper}{Q:Exit->aam->aai->Prop}(f:P.follows .mixedOrders=tT)(t:DT)(c:akk ol.toArray t=tT)(hd:DW P W0 N ol.toArray (Q .normal) t [] fr h):ud P W0 N (.region i ol.toArray tT) fr h Q:=by
 intro g nn m a w s K k;have⟨ok,b⟩:=CK.of c;refine wpIn_region_any f ?_;have l:∀j,j<ol.toArray.size->KA (Array.replicate ol.toArray.size fF) j=tT:=by intro j r;have d:j<ol.length:=hGr;simp[KA,ak4,d]
 have s0:St W0 g N m (acq fr (BG ol.toArray [] (Array.replicate ol.toArray.size fF))) h a w.drew:=⟨s.rel.drew,s.frame,s.defers,s.size,s.round⟩;refine draw_main ok ol.toArray.size t (rG ol.toArray.size) [] fr h (Array.replicate ol.toArray.size fF) m a w.drew ?_ Ma ?_ b hd s0 ?_
 .grind[OT,countP_eq_length]
 .refine⟨hGr,hGr,hGr,hGr⟩
 .intro n fr' h' a' w' e o p q;exact k [] .normal n fr' h' a' w' e o p.nil q
def onO{α:Type}(x:Option α)(f:α->Prop):Prop:=
 match x with
 |some a=>f a
 |none=>False
def Vm(b:Bool)(p q:Prop):Prop:=
 match b with
 |true=>p
 |false=>q
def yF(p q:Prop):Vm tT p q=p:=rfl
theorem adM{α:Type}{x:Option α}{f:α->Prop}:onO x f↔∃a,x=Z a/\f a:=by
 cases x<;>simp[onO]
def cD(P:Program)(W0:LA)(N:Nat)(o:Oper)(fr:aam)(h:aai)(K:aam->aai->Prop):Prop:=∃g args fn c,abt fr o=Z (g,args)/\Good P g fn c/\AC P W0 g args h fun v h'=>onO (putDst N fr o.dst v) fun fr'=>K fr' h'
def IH(P:Program)(W0:LA)(N:Nat)(o:Oper)(fr:aam)(h:aai)(K:aam->aai->Prop):Prop:=cD P W0 N o fr h K\/∃d args,yieldOf fr o=Z (d,args)/\AY P W0 d args h fun v h'=>onO (putDst N fr o.dst v) fun fr'=>K fr' h'
def aeG(P:Program)(W0:LA)(N:Nat)(ops:Array Oper)(Q:aam->aai->Prop):List Oper->aam->aai->Prop
 |[],fr,h=>Q fr h
 |o::r,fr,h=>
  onO (ab6 ops fr o) fun w=>
   Vm w
    (Vm (Zm o) (IH P W0 N o fr h (aeG P W0 N ops Q r))
     (onO (abr P fr h o) fun p=>onO (putDst N fr o.dst p.1) fun fr'=>aeG P W0 N ops Q r fr' p.2))
    (onO (putDst N fr o.dst Yx) fun fr'=>aeG P W0 N ops Q r fr' h)
def aeG.sound{Q:aam->aai->Prop}:∀{l:List Oper}{fr:aam}{h:aai},aeG P W0 N ops Q l fr h->ML P W0 N ops l fr h Q
 |[],fr,h,q=>.nil q
 |o::r,fr,h,q=>by
  simp only[aeG]at q;have⟨w,hw,q⟩:=adM.1 q;cases w with
  |false=>have⟨fr',d,q⟩:=adM.1 q;exact .skip hw d (aeG.sound q)
  |true=>
   simp only[yF]at q;cases k:Zm o with
   |true=>
    rw[k]at q;rcases q with⟨g,args,fn,c,f,hg,ha⟩|⟨n,args,m,ha⟩
    .exact .call hw f hg (ha.mono fun v h' e=>let⟨fr',d,e⟩:=adM.1 e;⟨fr',d,aeG.sound e⟩)
    .exact .yield hw m (ha.mono fun v h' e=>let⟨fr',d,e⟩:=adM.1 e;⟨fr',d,aeG.sound e⟩)
   |false=>rw[k]at q;have⟨⟨v,h'⟩,hs,q⟩:=adM.1 q;have⟨fr',d,q⟩:=adM.1 q;exact .step hw hs d (aeG.sound q)
def WF(h:aai):Prop:=∀i,h.own i≠Y->i<h.next
def AC.wf{f:FuncId}{args:xLV}{R:vV->aai->Prop}(e:WF h->AC P W0 f args h R):AC P W0 f args h R:=fun ex m w d r g=>e r.lt ex m w d r g
def ud.wf{c:Code}{Q:Exit->aam->aai->Prop}(d:WF h->ud P W0 N c fr h Q):ud P W0 N c fr h Q:=fun e nn m a w s K f=>d s.rel.lt e nn m a w s K f
def AC.post{f:FuncId}{args:xLV}{R:vV->aai->Prop}(e:AC P W0 f args h R):AC P W0 f args h fun v h'=>WF h'/\R v h':=fun ex m w d r g=>(e ex m w d r g).mono fun _ _ ⟨v,v',k,h',l,h2,h3,n,p,q⟩=>⟨v,v',k,h',l,h2,h3,n,p,h2.lt,q⟩
def rZ{o:Oper}{g:FuncId}{args:xLV}{fn:Func}{c:Code}{R:vV->aai->Prop}{K:aam->aai->Prop}(d:abt fr o=Z (g,args))(hg:Good P g fn c)(ha:AC P W0 g args h R)(e:∀v h',WF h'->R v h'->onO (putDst N fr o.dst v) fun fr'=>K fr' h'):cD P W0 N o fr h K:=
 ⟨g,args,fn,c,d,hg,ha.post.mono fun v h' ⟨hw,f⟩=>e v h' hw f⟩
def vseq(y:aam->aai->Prop)(Q:Exit->aam->aai->Prop):Exit->aam->aai->Prop
 |.normal,fr,h=>y fr h
 |e,fr,h=>Q e fr h
def onV(x:Option vV)(p q:Prop):Prop:=
 match x with
 |some (.bool b)=>Vm b p q
 |_=>False
def VC(P:Program)(W0:LA)(N:Nat):Code->(Exit->aam->aai->Prop)->aam->aai->Prop
 |.skip,Q,fr,h=>Q .normal fr h
 |.ret,Q,fr,h=>Q .ret fr h
 |.exit i,Q,fr,h=>Q (.exit i) fr h
 |.seq a b,Q,fr,h=>VC P W0 N a (vseq (VC P W0 N b Q) Q) fr h
 |.block i a,Q,fr,h=>VC P W0 N a (agj i Q) fr h
 |.region _ ops fF,Q,fr,h=>aeG P W0 N ops (Q .normal) ops.toList fr h
 |.cond c a b,Q,fr,h=>onV (aa6 fr c) (VC P W0 N a Q fr h) (VC P W0 N b Q fr h)
 |c,Q,fr,h=>ud P W0 N c fr h Q
def VC.sound:∀{c:Code}{Q:Exit->aam->aai->Prop}{fr:aam}{h:aai},VC P W0 N c Q fr h->ud P W0 N c fr h Q:=by
 intro c
 induction c with
 |skip=>intro Q fr h q;exact .skip q
 |ret=>intro Q fr h q;exact .ret q
 |exit i=>intro Q fr h q;exact .exit q
 |seq a b f g=>
  intro Q fr h q;refine .seq ((f q).mono fun e fr h k=>?_);cases e with
  |normal=>exact g k
  |_=>exact k
 |block i a f=>intro Q fr h q;exact .block (f q)
 |region i ops d=>
  intro Q fr h q;cases d with
  |false=>have⟨l⟩:=ops;exact .region (aeG.sound q)
  |true=>exact q
 |cond c a b f g=>
  intro Q fr h q;simp only[VC]at q;unfold onV at q;split at q
  .rename_i t m;refine .cond m (fun e=>?_) (fun e=>?_)
   .subst e;exact f q
   .subst e;exact g q
  .exact q.elim
 |loop c=>intro Q fr h q;exact q
 |rangeFunc=>intro Q fr h q;exact q
 |scope c=>intro Q fr h q;exact q
 |label l=>intro Q fr h q;exact q
 |goto l=>intro Q fr h q;exact q
 |refuse w=>intro Q fr h q;exact q
inductive Kt where
 |seq (c:Code)
 |blk (i:Nat)
def KE(P:Program)(W0:LA)(N:Nat)(R:Exit->aam->aai->Prop):List Kt->Exit->aam->aai->Prop
 |[]=>R
 |.seq c::ks=>vseq (VC P W0 N c (KE P W0 N R ks)) (KE P W0 N R ks)
 |.blk i::ks=>agj i (KE P W0 N R ks)
def VK(P:Program)(W0:LA)(N:Nat)(c:Code)(ks:List Kt)(R:Exit->aam->aai->Prop)(fr:aam)(h:aai):Prop:=VC P W0 N c (KE P W0 N R ks) fr h
def KN(P:Program)(W0:LA)(N:Nat)(ks:List Kt)(R:Exit->aam->aai->Prop)(fr:aam)(h:aai):Prop:=KE P W0 N R ks .normal fr h
def KX(P:Program)(W0:LA)(N:Nat)(e:Exit)(ks:List Kt)(R:Exit->aam->aai->Prop)(fr:aam)(h:aai):Prop:=KE P W0 N R ks e fr h
def KO(P:Program)(W0:LA)(N:Nat)(ops:Array Oper)(ks:List Kt)(R:Exit->aam->aai->Prop)(l:List Oper)(fr:aam)(h:aai):Prop:=aeG P W0 N ops (KE P W0 N R ks .normal) l fr h
def KO1(P:Program)(W0:LA)(N:Nat)(ops:Array Oper)(ks:List Kt)(R:Exit->aam->aai->Prop)(o:Oper)(l:List Oper)(fr:aam)(h:aai)(w:Option Bool):Prop:=
 onO w fun w=>
   Vm w
    (Vm (Zm o) (IH P W0 N o fr h (aeG P W0 N ops (KE P W0 N R ks .normal) l))
     (onO (abr P fr h o) fun p=>onO (putDst N fr o.dst p.1) fun fr'=>aeG P W0 N ops (KE P W0 N R ks .normal) l fr' p.2))
    (onO (putDst N fr o.dst Yx) fun fr'=>aeG P W0 N ops (KE P W0 N R ks .normal) l fr' h)
def lU(P:Program)(W0:LA)(N:Nat)(ops:Array Oper)(ks:List Kt)(R:Exit->aam->aai->Prop)(o:Oper)(l:List Oper)(fr:aam)(h:aai)(b:Bool):Prop:=
  Vm b (IH P W0 N o fr h (aeG P W0 N ops (KE P W0 N R ks .normal) l))
          (onO (abr P fr h o) fun p=>onO (putDst N fr o.dst p.1) fun fr'=>aeG P W0 N ops (KE P W0 N R ks .normal) l fr' p.2)
def MQ(P:Program)(W0:LA)(N:Nat)(ops:Array Oper)(ks:List Kt)(R:Exit->aam->aai->Prop)(o:Oper)(l:List Oper)(fr:aam)(x:Option (vV×aai)):Prop:=onO x fun p=>onO (putDst N fr o.dst p.1) fun fr'=>aeG P W0 N ops (KE P W0 N R ks .normal) l fr' p.2
def Kp(P:Program)(W0:LA)(N:Nat)(ops:Array Oper)(ks:List Kt)(R:Exit->aam->aai->Prop)(l:List Oper)(h:aai)(x:Option aam):Prop:=onO x fun fr'=>aeG P W0 N ops (KE P W0 N R ks .normal) l fr' h
def TC(P:Program)(W0:LA)(N:Nat)(ops:Array Oper)(ks:List Kt)(R:Exit->aam->aai->Prop)(o:Oper)(l:List Oper)(fr:aam)(h:aai):Prop:=IH P W0 N o fr h (aeG P W0 N ops (KE P W0 N R ks .normal) l)
def Kl(P:Program)(W0:LA)(N:Nat)(a b:Code)(ks:List Kt)(R:Exit->aam->aai->Prop)(fr:aam)(h:aai)(x:Option vV):Prop:=onV x (VK P W0 N a ks R fr h) (VK P W0 N b ks R fr h)
def aab(P:Program)(W0:LA)(N:Nat)(c:Code)(ks:List Kt)(R:Exit->aam->aai->Prop)(fr:aam)(h:aai):Prop:=ud P W0 N (.loop c) fr h (KE P W0 N R ks)
def ZJ(P:Program)(W0:LA)(N:Nat)(i:Nat)(ops:Array Oper)(ks:List Kt)(R:Exit->aam->aai->Prop)(fr:aam)(h:aai):Prop:=ud P W0 N (.region i ops tT) fr h (KE P W0 N R ks)
theorem ag6(a b:Int):(a==b)=decide (a=b):=hGr
def fst_mk{α β:Type}(a:α)(b:β):(a,b).1=a:=id rfl
def snd_mk{α β:Type}(a:α)(b:β):(a,b).2=b:=id rfl
section eqs
variable{ks:List Kt}{R:Exit->aam->aai->Prop}{a b:Code}{o:Oper}{i j:Nat}{c:Operand}
def Mc:VK P W0 N .skip ks R fr h=KN P W0 N ks R fr h:=id rfl
def VK_ret:VK P W0 N .ret ks R fr h=KX P W0 N .ret ks R fr h:=id rfl
def af3:VK P W0 N (.exit i) ks R fr h=KX P W0 N (.exit i) ks R fr h:=id rfl
def VK_seq:VK P W0 N (.seq a b) ks R fr h=VK P W0 N a (.seq b::ks) R fr h:=id rfl
def akw:VK P W0 N (.block i a) ks R fr h=VK P W0 N a (.blk i::ks) R fr h:=id rfl
def qS{l:List Oper}:VK P W0 N (.region i (List.toArray l) fF) ks R fr h=KO P W0 N (List.toArray l) ks R l fr h:=id rfl
def af4:VK P W0 N (.region i ops tT) ks R fr h=ZJ P W0 N i ops ks R fr h:=id rfl
def L5:VK P W0 N (.cond c a b) ks R fr h=Kl P W0 N a b ks R fr h (aa6 fr c):=id rfl
def Fe:Kl P W0 N a b ks R fr h (Z (.bool tT))=VK P W0 N a ks R fr h:=id rfl
def Wi:Kl P W0 N a b ks R fr h (Z (.bool fF))=VK P W0 N b ks R fr h:=id rfl
def T4:VK P W0 N (.loop a) ks R fr h=aab P W0 N a ks R fr h:=id rfl
def KN_nil:KN P W0 N [] R fr h=R .normal fr h:=id rfl
def KN_seq:KN P W0 N (.seq a::ks) R fr h=VK P W0 N a ks R fr h:=id rfl
def KN_blk:KN P W0 N (.blk i::ks) R fr h=KN P W0 N ks R fr h:=id rfl
def sn:KX P W0 N .ret [] R fr h=R .ret fr h:=id rfl
def Vy:KX P W0 N .ret (.seq a::ks) R fr h=KX P W0 N .ret ks R fr h:=id rfl
def Y6:KX P W0 N .ret (.blk i::ks) R fr h=KX P W0 N .ret ks R fr h:=id rfl
def Kw:KX P W0 N (.exit j) [] R fr h=R (.exit j) fr h:=id rfl
def zz:KX P W0 N (.exit j) (.seq a::ks) R fr h=KX P W0 N (.exit j) ks R fr h:=id rfl
def acE:KX P W0 N (.exit j) (.blk i::ks) R fr h=if j=i then KN P W0 N ks R fr h else KX P W0 N (.exit j) ks R fr h:=id rfl
def J1:KE P W0 N R ks .normal fr h=KN P W0 N ks R fr h:=id rfl
def KE_ret:KE P W0 N R ks .ret fr h=KX P W0 N .ret ks R fr h:=id rfl
def mK:KE P W0 N R ks (.exit i) fr h=KX P W0 N (.exit i) ks R fr h:=id rfl
def KO_nil:KO P W0 N ops ks R [] fr h=KN P W0 N ks R fr h:=id rfl
def cj{l:List Oper}:KO P W0 N ops ks R (o::l) fr h=KO1 P W0 N ops ks R o l fr h (ab6 ops fr o):=id rfl
def bE{l l':List Oper}:KO P W0 N ops ks R (List.append (o::l) l') fr h=KO P W0 N ops ks R (o::List.append l l') fr h:=id rfl
def Q2{l:List Oper}:KO P W0 N ops ks R (List.append [] l) fr h=KO P W0 N ops ks R l fr h:=id rfl
def HA{l:List Oper}:KO1 P W0 N ops ks R o l fr h (Z tT)=lU P W0 N ops ks R o l fr h (Zm o):=id rfl
def aiN{l:List Oper}:KO1 P W0 N ops ks R o l fr h (Z fF)=Kp P W0 N ops ks R l h (putDst N fr o.dst Yx):=id rfl
def Px{l:List Oper}:lU P W0 N ops ks R o l fr h tT=TC P W0 N ops ks R o l fr h:=id rfl
def re{l:List Oper}:lU P W0 N ops ks R o l fr h fF=MQ P W0 N ops ks R o l fr (abr P fr h o):=id rfl
def OD{l:List Oper}{v:vV}{h':aai}:MQ P W0 N ops ks R o l fr (Z (v,h'))=Kp P W0 N ops ks R l h' (putDst N fr o.dst v):=id rfl
def EV{l:List Oper}:Kp P W0 N ops ks R l h (Z fr)=KO P W0 N ops ks R l fr h:=id rfl
end eqs
def VK.sound{c:Code}{R:Exit->aam->aai->Prop}(q:VK P W0 N c [] R fr h):ud P W0 N c fr h R:=VC.sound q
def Kl.intro{a b:Code}{t:Bool}{ks:List Kt}{R:Exit->aam->aai->Prop}(d:t=tT->VK P W0 N a ks R fr h)(hf:t=fF->VK P W0 N b ks R fr h):Kl P W0 N a b ks R fr h (Z (.bool t)):=by
 cases t
 .exact hf rfl
 .exact d rfl
def TC.intro{ks:List Kt}{R:Exit->aam->aai->Prop}{o:Oper}{l:List Oper}{g:FuncId}{args:xLV}{fn:Func}{c:Code}{Rc:vV->aai->Prop}(d:abt fr o=Z (g,args))(hg:Good P g fn c)(ha:AC P W0 g args h Rc)(e:∀v h',WF h'->Rc v h'->Kp P W0 N ops ks R l h' (putDst N fr o.dst v)):TC P W0 N ops ks R o l fr h:=.inl (rZ d hg ha e)
def TC.yield{ks:List Kt}{R:Exit->aam->aai->Prop}{o:Oper}{l:List Oper}{d:Nat}{args:xLV}{Rc:vV->aai->Prop}(e:yieldOf fr o=Z (d,args))(ha:AY P W0 d args h Rc)(f:∀v h',WF h'->Rc v h'->Kp P W0 N ops ks R l h' (putDst N fr o.dst v)):TC P W0 N ops ks R o l fr h:=.inr ⟨d,args,e,ha.post.mono fun v h' ⟨hw,g⟩=>f v h' hw g⟩
def rndQ(R:vV->aai->Prop):Exit->aam->aai->Prop:=fun e _ h=>e=.normal/\R (.bool tT) h
def aB{R:vV->aai->Prop}:rndQ R .normal fr h=R (.bool tT) h:=by simp[rndQ]
theorem VK.round{ps:Array Tmp}{assign body:Code}{args:xLV}{d:aai}{R:vV->aai->Prop}(q:VK P W0 N (.seq assign body) [] (rndQ R) (aeJ ps.toList args fr) d):Rnd P W0 N ps fr assign body args d R:=by
 have g:VC P W0 N assign (vseq (VC P W0 N body (KE P W0 N (rndQ R) [])) (KE P W0 N (rndQ R) [])) (aeJ ps.toList args fr) d:=q;refine(VC.sound g).mono fun e k h2 f=>?_;cases e with
 |normal=>exact⟨rfl,VC.sound f⟩
 |_=>exact absurd f.1 Ma
def VK.rangeFunc{ks:List Kt}{R:Exit->aam->aai->Prop}{g:Operand}{ps:Array Tmp}{assign body:Code}{gf:FuncId}{fn:Func}{c:Code}{first cap:Array vV}(hg:aa6 fr g=Z (.func (.func gf) first cap))(d:Good P gf fn c)(l:ps.toList.all (fun p=>Nat.blt p N)=tT)(m:∀(f:LA)(k:Nat),(∀(args:xLV)(e:aai)(R:vV->aai->Prop),args.length=ps.size->h.next<=e.next->VK P W0 N (.seq assign body) [] (rndQ R) (aeJ ps.toList args fr) e->AY P f k args e R)->
   AC P f gf (first.toList++[Yg k]++cap.toList) h fun _ h'=>WF h'->KN P W0 N ks R fr h'):VK P W0 N (.rangeFunc g ps assign body) ks R fr h:=
 ud.rangeFunc hg d l fun f k n=>(m f k fun args e R' r s q=>n args e R' r s (VK.round q)).post.mono fun _ _ ⟨hw,u⟩=>u hw
def G8(P:Program)(rs:List ResultVar)(R:vV->aai->Prop)(fr:aam)(h:aai):Prop:=
 match acD P fr h rs with
 |some v=>R v h
 |none=>False
def agk(P:Program)(rs:List ResultVar)(R:vV->aai->Prop):Exit->aam->aai->Prop
 |.normal,fr,h=>G8 P rs R fr h
 |.ret,fr,h=>G8 P rs R fr h
 |_,_,_=>False
theorem AC.vc{f:FuncId}{args:xLV}{fn:Func}{c:Code}{R:vV->aai->Prop}(hg:Good P f fn c){n:Nat}(m:fn.ntmps=n){rs:Array ResultVar}(d:fn.results=rs)(hlen:args.length<=n)(g:WF h->VK P W0 n c [] (agk P rs.toList R) (me args) h):AC P W0 f args h R:=by
 subst m;subst d;refine AC.wf fun k=>?_;replace g:=g k;refine .body hg hlen ((VK.sound g).mono fun e fr' h' l=>?_);have key:∀fr h,G8 P fn.results.toList R fr h->∃v,acD P fr h fn.results.toList=Z v/\R v h:=by grind[G8]
 cases e with
 |normal=>exact⟨.inl rfl,key _ _ l⟩
 |ret=>exact⟨.inr rfl,key _ _ l⟩
 |_=>exact l.elim
def mkF:List (Nat×vV)->aam
 |[]=>.leaf
 |(t,v)::r=>(mkF r).set t v
def Fj(fr:aam):List (Nat×vV)->Prop
 |[]=>True
 |(t,v)::r=>fr.get t=Z v/\Fj fr r
theorem Sub.mkF{fr:aam}:∀{l:List (Nat×vV)},Fj fr l->Sub (mkF l) fr
 |[],_,k,v,h=>by grind[mkF,Trie.get]
 |(t,u)::r,ha,k,v,h=>by
  simp only[Fw.mkF,Trie.YO]at h;by_cases d:k=t
  .subst d;rw[Sb rfl]at h;injection h with h;subst h;exact ha.1
  .rw[WA d]at h;exact Sub.mkF ha.2 k v h
def tn{I:Nat->aam->aai->Prop}{k:Nat}{Q:Exit->aam->aai->Prop}(d:Nat)(l:List (Nat×vV))(e:d<k)(f:Fj fr l)(hi:I d (mkF l) h):aeM I k Q .normal fr h:=⟨d,e,_,Sub.mkF f,hi⟩
def NA{I:Nat->aam->aai->Prop}{k:Nat}{Q:Exit->aam->aai->Prop}:aeM I k Q .ret fr h=Q .ret fr h:=id rfl
def ac7{I:Nat->aam->aai->Prop}{k i:Nat}{Q:Exit->aam->aai->Prop}:aeM I k Q (.exit i) fr h=Q (.exit i) fr h:=id rfl
def aab.intro{c:Code}{ks:List Kt}{R:Exit->aam->aai->Prop}(I:Nat->aam->aai->Prop)(k0:Nat)(l:List (Nat×vV))(hs:Fj fr l)(d:I k0 (mkF l) h)(e:∀k fr h,WF h->I k fr h->VK P W0 N c [] (aeM I k (KE P W0 N R ks)) fr h):aab P W0 N c ks R fr h:=
 .loop I k0 _ (Sub.mkF hs) d fun k fr h hi=>ud.wf fun hw=>VC.sound (e k fr h hw hi)
def ae5(P:Program)(W0:LA)(N:Nat)(ops:Array Oper)(Q:aam->aai->Prop):DT->II->aam->aai->Prop
 |.done,_,fr,h=>Q fr h
 |.no,_,_,_=>True
 |.fl i t,aac,fr,h=>
  onO ops[i]? fun o=>onO (ab6 ops fr o) fun w=>
   Vm w (onO (abr P fr h o) fun p=>p.2=h/\onO (putDst N fr o.dst p.1) fun fr'=>ae5 P W0 N ops Q t (i::aac) fr' h)
    (onO (putDst N fr o.dst Yx) fun fr'=>ae5 P W0 N ops Q t (i::aac) fr' h)
 |.ch i pre t other,aac,fr,h=>
  (onO ops[i]? fun o=>onO (ab6 ops fr o) fun w=>
   Vm w
    (Vm (Zm o) (cD P W0 N o fr h fun fr' h'=>abj P ops fr' h' (aac.filter fun p=>!pre.contains p)/\ae5 P W0 N ops Q t (aac.filter fun p=>!pre.contains p) fr' h')
     (onO (abr P fr h o) fun p=>onO (putDst N fr o.dst p.1) fun fr'=>abj P ops fr' p.2 (aac.filter fun p=>!pre.contains p)/\ae5 P W0 N ops Q t (aac.filter fun p=>!pre.contains p) fr' p.2))
    (onO (putDst N fr o.dst Yx) fun fr'=>ae5 P W0 N ops Q t (aac.filter fun p=>!pre.contains p) fr' h))/\
  ae5 P W0 N ops Q other aac fr h
theorem ae5.sound{Q:aam->aai->Prop}:∀{t:DT}{aac:II}{fr:aam}{h:aai},ae5 P W0 N ops Q t aac fr h->DW P W0 N ops Q t aac fr h:=by
 intro t
 induction t with
 |done=>intro aac fr h q;exact q
 |no=>intro aac fr h _;exact trivial
 |fl i t p=>
  intro aac fr h q;simp only[ae5]at q;have⟨o,d,q⟩:=adM.1 q;have⟨w,hw,q⟩:=adM.1 q;simp only[DW,d,hw];cases w with
  |false=>have⟨fr',k,q⟩:=adM.1 q;grind
  |true=>obtain⟨⟨v,h'⟩,hs,rfl,q⟩:=adM.1 q;grind[adM]
 |ch i pre t other l e=>
  intro aac fr h q;simp only[ae5]at q;have⟨q,m⟩:=q;simp only[DW];refine⟨?_,e m⟩;have⟨o,d,q⟩:=adM.1 q;have⟨w,hw,q⟩:=adM.1 q;simp only[d,hw];cases w with
  |false=>have⟨fr',k,q⟩:=adM.1 q;grind
  |true=>
   simp only[yF]at q;cases f:Zm o with
   |true=>rw[f]at q;have⟨g,args,fn,c,n,hg,ha⟩:=q;grind[AC.mono,adM]
   |false=>rw[f]at q;have⟨⟨v,h'⟩,hs,q⟩:=adM.1 q;grind[adM]
def KD(P:Program)(W0:LA)(N:Nat)(ops:Array Oper)(ks:List Kt)(R:Exit->aam->aai->Prop)(t:DT)(aac:II)(fr:aam)(h:aai):Prop:=ae5 P W0 N ops (KE P W0 N R ks .normal) t aac fr h
def KF1(P:Program)(W0:LA)(N:Nat)(ops:Array Oper)(ks:List Kt)(R:Exit->aam->aai->Prop)(t:DT)(aac:II)(fr:aam)(h:aai)(x:Option Oper):Prop:=
 onO x fun o=>onO (ab6 ops fr o) fun w=>
   Vm w (onO (abr P fr h o) fun p=>p.2=h/\onO (putDst N fr o.dst p.1) fun fr'=>KD P W0 N ops ks R t aac fr' h)
    (onO (putDst N fr o.dst Yx) fun fr'=>KD P W0 N ops ks R t aac fr' h)
def KF2(P:Program)(W0:LA)(N:Nat)(ops:Array Oper)(ks:List Kt)(R:Exit->aam->aai->Prop)(t:DT)(aac:II)(fr:aam)(h:aai)(o:Oper)(w:Option Bool):Prop:=
  onO w fun w=>Vm w (onO (abr P fr h o) fun p=>p.2=h/\onO (putDst N fr o.dst p.1) fun fr'=>KD P W0 N ops ks R t aac fr' h)
        (onO (putDst N fr o.dst Yx) fun fr'=>KD P W0 N ops ks R t aac fr' h)
def KF3(P:Program)(W0:LA)(N:Nat)(ops:Array Oper)(ks:List Kt)(R:Exit->aam->aai->Prop)(t:DT)(aac:II)(fr:aam)(h:aai)(o:Oper)(x:Option (vV×aai)):Prop:=onO x fun p=>p.2=h/\onO (putDst N fr o.dst p.1) fun fr'=>KD P W0 N ops ks R t aac fr' h
def KF4(P:Program)(W0:LA)(N:Nat)(ops:Array Oper)(ks:List Kt)(R:Exit->aam->aai->Prop)(t:DT)(aac:II)(h:aai)(x:Option aam):Prop:=onO x fun fr'=>KD P W0 N ops ks R t aac fr' h
def KG1(P:Program)(W0:LA)(N:Nat)(ops:Array Oper)(ks:List Kt)(R:Exit->aam->aai->Prop)(t:DT)(aac:II)(fr:aam)(h:aai)(x:Option Oper):Prop:=
 onO x fun o=>onO (ab6 ops fr o) fun w=>
   Vm w
    (Vm (Zm o) (cD P W0 N o fr h fun fr' h'=>abj P ops fr' h' aac/\KD P W0 N ops ks R t aac fr' h')
     (onO (abr P fr h o) fun p=>onO (putDst N fr o.dst p.1) fun fr'=>abj P ops fr' p.2 aac/\KD P W0 N ops ks R t aac fr' p.2))
    (onO (putDst N fr o.dst Yx) fun fr'=>KD P W0 N ops ks R t aac fr' h)
def KG2(P:Program)(W0:LA)(N:Nat)(ops:Array Oper)(ks:List Kt)(R:Exit->aam->aai->Prop)(t:DT)(aac:II)(fr:aam)(h:aai)(o:Oper)(w:Option Bool):Prop:=
  onO w fun w=>Vm w
        (Vm (Zm o) (cD P W0 N o fr h fun fr' h'=>abj P ops fr' h' aac/\KD P W0 N ops ks R t aac fr' h')
          (onO (abr P fr h o) fun p=>onO (putDst N fr o.dst p.1) fun fr'=>abj P ops fr' p.2 aac/\KD P W0 N ops ks R t aac fr' p.2))
        (onO (putDst N fr o.dst Yx) fun fr'=>KD P W0 N ops ks R t aac fr' h)
def KG3(P:Program)(W0:LA)(N:Nat)(ops:Array Oper)(ks:List Kt)(R:Exit->aam->aai->Prop)(t:DT)(aac:II)(fr:aam)(h:aai)(o:Oper)(b:Bool):Prop:=
  Vm b (cD P W0 N o fr h fun fr' h'=>abj P ops fr' h' aac/\KD P W0 N ops ks R t aac fr' h')
          (onO (abr P fr h o) fun p=>onO (putDst N fr o.dst p.1) fun fr'=>abj P ops fr' p.2 aac/\KD P W0 N ops ks R t aac fr' p.2)
def VA(P:Program)(W0:LA)(N:Nat)(ops:Array Oper)(ks:List Kt)(R:Exit->aam->aai->Prop)(t:DT)(aac:II)(fr:aam)(h:aai)(o:Oper):Prop:=cD P W0 N o fr h fun fr' h'=>abj P ops fr' h' aac/\KD P W0 N ops ks R t aac fr' h'
def KG4(P:Program)(W0:LA)(N:Nat)(ops:Array Oper)(ks:List Kt)(R:Exit->aam->aai->Prop)(t:DT)(aac:II)(fr:aam)(o:Oper)(x:Option (vV×aai)):Prop:=onO x fun p=>onO (putDst N fr o.dst p.1) fun fr'=>abj P ops fr' p.2 aac/\KD P W0 N ops ks R t aac fr' p.2
def KG5(P:Program)(W0:LA)(N:Nat)(ops:Array Oper)(ks:List Kt)(R:Exit->aam->aai->Prop)(t:DT)(aac:II)(h:aai)(x:Option aam):Prop:=onO x fun fr'=>abj P ops fr' h aac/\KD P W0 N ops ks R t aac fr' h
section eqs
variable{ks:List Kt}{R:Exit->aam->aai->Prop}{o:Oper}{i:Nat}{t other:DT}{aac pre:II}{v:vV}{h':aai}
def KD_done:KD P W0 N ops ks R .done aac fr h=KN P W0 N ks R fr h:=id rfl
def KD_no:KD P W0 N ops ks R .no aac fr h=True:=id rfl
def KD_fl:KD P W0 N ops ks R (.fl i t) aac fr h=KF1 P W0 N ops ks R t (i::aac) fr h ops[i]?:=id rfl
def KF1_some:KF1 P W0 N ops ks R t aac fr h (Z o)=KF2 P W0 N ops ks R t aac fr h o (ab6 ops fr o):=id rfl
def KF2_true:KF2 P W0 N ops ks R t aac fr h o (Z tT)=KF3 P W0 N ops ks R t aac fr h o (abr P fr h o):=id rfl
def KF2_false:KF2 P W0 N ops ks R t aac fr h o (Z fF)=KF4 P W0 N ops ks R t aac h (putDst N fr o.dst Yx):=id rfl
def KF3_some:KF3 P W0 N ops ks R t aac fr h o (Z (v,h))=KF4 P W0 N ops ks R t aac h (putDst N fr o.dst v):=by simp[KF3,KF4,onO]
def KF4_some:KF4 P W0 N ops ks R t aac h (Z fr)=KD P W0 N ops ks R t aac fr h:=id rfl
def KD_ch:KD P W0 N ops ks R (.ch i pre t other) aac fr h=(KG1 P W0 N ops ks R t (aac.filter fun p=>!pre.contains p) fr h ops[i]?/\KD P W0 N ops ks R other aac fr h):=id rfl
def KG1_some:KG1 P W0 N ops ks R t aac fr h (Z o)=KG2 P W0 N ops ks R t aac fr h o (ab6 ops fr o):=id rfl
def KG2_true:KG2 P W0 N ops ks R t aac fr h o (Z tT)=KG3 P W0 N ops ks R t aac fr h o (Zm o):=id rfl
def KG2_false:KG2 P W0 N ops ks R t aac fr h o (Z fF)=KF4 P W0 N ops ks R t aac h (putDst N fr o.dst Yx):=id rfl
def KG3_true:KG3 P W0 N ops ks R t aac fr h o tT=VA P W0 N ops ks R t aac fr h o:=id rfl
def KG3_false:KG3 P W0 N ops ks R t aac fr h o fF=KG4 P W0 N ops ks R t aac fr o (abr P fr h o):=id rfl
def KG4_some:KG4 P W0 N ops ks R t aac fr o (Z (v,h'))=KG5 P W0 N ops ks R t aac h' (putDst N fr o.dst v):=id rfl
def KG5_some:KG5 P W0 N ops ks R t aac h (Z fr)=(abj P ops fr h aac/\KD P W0 N ops ks R t aac fr h):=id rfl
end eqs
def HD(fr:aam)(d:Option Tmp)(v:vV):Prop:=∀k,d=Z k->fr.get k=Z v
def H3(fr:aam)(h:aai)(d:Option Tmp)(x:Option (vV×aai)):Prop:=∃v,x=Z (v,h)/\HD fr d v
def H2(P:Program)(fr:aam)(h:aai)(o:Oper)(w:Option Bool):Prop:=
 match w with
 |some tT=>H3 fr h o.dst (abr P fr h o)
 |some fF=>HD fr o.dst Yx
 |none=>False
def H1(P:Program)(ops:Array Oper)(fr:aam)(h:aai)(x:Option Oper):Prop:=
 match x with
 |some o=>H2 P fr h o (ab6 ops fr o)
 |none=>False
theorem Holds_eq(p:Nat):Holds P ops fr h p=H1 P ops fr h ops[p]?:=by grind[Holds,H1,H2,H3,HD]
def H1_some{o:Oper}:H1 P ops fr h (Z o)=H2 P fr h o (ab6 ops fr o):=id rfl
def H2_true{o:Oper}:H2 P fr h o (Z tT)=H3 fr h o.dst (abr P fr h o):=id rfl
def H2_false{o:Oper}:H2 P fr h o (Z fF)=HD fr o.dst Yx:=id rfl
def H3_some{d:Option Tmp}{v:vV}:H3 fr h d (Z (v,h))=HD fr d v:=by simp[H3]
def HD_some{k:Tmp}{v:vV}:HD fr (Z k) v=(fr.get k=Z v):=by simp[HD]
def HD_none{v:vV}:HD fr Y v=True:=by simp[HD]
def VA.intro{ks:List Kt}{R:Exit->aam->aai->Prop}{o:Oper}{t:DT}{aac:II}{g:FuncId}{args:xLV}{fn:Func}{c:Code}{Rc:vV->aai->Prop}(d:abt fr o=Z (g,args))(hg:Good P g fn c)(ha:AC P W0 g args h Rc)(e:∀v h',WF h'->Rc v h'->KG5 P W0 N ops ks R t aac h' (putDst N fr o.dst v)):VA P W0 N ops ks R t aac fr h o:=rZ d hg ha e
def ZJ.intro{i:Nat}{ol:List Oper}{ks:List Kt}{R:Exit->aam->aai->Prop}(e:P.follows .mixedOrders=tT)(t:DT)(d:akk ol.toArray t=tT)(hd:KD P W0 N ol.toArray ks R t [] fr h):ZJ P W0 N i ol.toArray ks R fr h:=.draw e t d hd.sound
end
def tA:List Nat→DT→DT
  |[],t=>t
  |i::l,t=>.fl i (tA l t)
def fRn:Nat→Nat→DT→DT
  |_,0,t=>t
  |a,k+1,t=>.fl a (fRn (a+1) k t)
def JQ(i:Nat)(p:List Nat)(t:DT):DT:=.ch i p t .no
section
variable{P:Program}{h h':aai}
theorem WF.alloc(hw:WF h)(o:fK):WF (h.alloc o):=by
 intro i hi
 by_cases e:i=h.next
 .subst e;exact agh _
 .rw[aai.Ve _ _ _ e]at hi;exact afJ (hw i hi)
theorem WF.put(hw:WF h){id:Nat}(o:fK)(a:id<h.next):WF (h.put id o):=by
 intro i hi;by_cases e:i=id
 .subst e;exact a
 .rw[aai.By _ _ _ _ e]at hi;exact hw i hi
theorem WF.kill(hw:WF h)(id:Nat):WF (h.kill id):=by
 intro i hi;by_cases e:i=id
 .grind[aai.Dg]
 .rw[aai.xJ _ _ _ e]at hi;exact hw i hi
theorem WF.lt(hw:WF h){i:Nat}{o:fK}(a:h.own i=Z o):i<h.next:=hw i (by rw[a];simp)
def om(o:fK):(h.alloc o).next=h.next+1:=rfl
theorem Mh(j:Nat)(o:fK):(h.alloc o).own j=if j=h.next then Z o else h.own j:=by grind[aai.zT,aai.Ve]
theorem own_put(i j:Nat)(o:fK):(h.put i o).own j=if j=i then Z o else h.own j:=by grind[aai.Y3,aai.By]
theorem uU(i j:Nat):(h.kill i).own j=if j=i then Y else h.own j:=by grind[aai.Dg,aai.xJ]
theorem YP{id off:Nat}{c:xLV}(a:h.own id=Z (.cells c)):h.read ⟨id,off,Y⟩=c[off]?:=by grind[aai.read]
structure Le (g h:aai):Prop where
 ext:h.ext=g.ext
 own:∀i o,g.own i=Z o->h.own i=Z o
theorem Le.refl(h:aai):Le h h:=⟨rfl,fun _ _ h=>h⟩
theorem Le.trans{c h2 h3:aai}(a:Le c h2)(b:Le h2 h3):Le c h3:=⟨b.ext.trans a.ext,fun i o h=>b.own i o (a.own i o h)⟩
theorem Le.put{g:aai}(a:Le g h){id:Nat}(o:fK)(b:g.own id=Y):Le g (h.put id o):=⟨a.ext,fun i c hi=>by grind[own_put,Le.own]⟩
theorem Le.kill{g:aai}(a:Le g h){id:Nat}(b:g.own id=Y):Le g (h.kill id):=⟨a.ext,fun i c hi=>by grind[uU,Le.own]⟩
theorem Le.next{g:aai}(a:Le g h)(hw:WF h){i:Nat}(hi:h.next<=i):g.own i=Y:=by
 cases hg:g.own i with
 |none=>rfl
 |some o=>exact absurd (hw.lt (a.own i o hg)) NH
theorem Le.alloc{g:aai}(a:Le g h)(hw:WF h)(o:fK):Le g (h.alloc o):=⟨a.ext,fun i b hi=>by grind[Mh,Le.next,Le.own]⟩
theorem Le.Qz(h:aai)(id:Nat):Le (h.kill id) h:=⟨rfl,fun i a hi=>by grind[uU]⟩
theorem Le.none{g:aai}(a:Le g h){i:Nat}(hi:h.own i=Y):g.own i=Y:=by
 cases hg:g.own i<;>grind[Le.own]
theorem Le.read{g:aai}(a:Le g h){ad:Addr}{x:vV}(b:g.read ad=Z x):h.read ad=Z x:=by grind[aai.read,Le.own,Le.ext]
def aaq(v:vV)(k:Nat):Addr:=match v with|.slice (Z a) _ _=>Ip a k|_=>default
theorem fA(a:Addr)(n c k:Nat):aaq (sL (Z a) n c) k=Ip a k:=rfl
def xO(v:vV)(n:Nat):Prop:=∃a c,v=.slice a n c/\(0<n->a.isSome=tT)
structure RS (h:aai) (v:vV) (vs:xLV):Prop where
 sl:xO v vs.length
 get:∀i x,vs[i]?=Z x->h.read (aaq v i)=Z x
theorem RS.le{v:vV}{vs:xLV}(a:RS h v vs)(e:Le h h'):RS h' v vs:=⟨a.sl,fun i x b=>e.read (a.get i x b)⟩
theorem RS.nil(h:aai):RS h (.slice Y 0 0) []:=⟨⟨Y,0,rfl,Ma⟩,fun i x a=>by simp at a⟩
theorem RS.own{id off n c:Nat}{cs:xLV}(b:h.own id=Z (.cells cs))(d:off+n<=cs.length):RS h (sL (Z ⟨id,off,Y⟩) n c) ((cs.drop off).take n):=by
 have a:((cs.drop off).take n).length=n:=by simp;omega
 refine⟨⟨_,c,by rw[a],Ma⟩,fun i x e=>?_⟩;grind[fA,Ip.eq_1,YP]
theorem RS.whole{id n c:Nat}{cs:xLV}(a:h.own id=Z (.cells cs))(b:cs.length=n):RS h (sL (Z id) n c) cs:=by have:=RS.own (c:=c) (off:=0) (n:=n) a NH;grind
theorem RS.len{v:vV}{vs:xLV}(b:RS h v vs){t e:TypeId}(d:P.underlying t=Z (.slice e))(h':aai):aeh P h' t v=Z (.int .i64 vs.length):=by obtain⟨a,c,rfl,_⟩:=b.sl;simp[aeh,d]
theorem RS.addr{v:vV}{vs:xLV}(b:RS h v vs){t e:TypeId}{d:TypeDesc}(f:P.underlying t=Z (.slice e))(hd:P.underlying e=Z d)(hs:UA P e=1){k:IntKind}(i:Nat)(hi:i<vs.length):
  aao P t v (.int k i)=Z (pT (Z (aaq v i))):=by
 obtain⟨a,c,rfl,hs'⟩:=b.sl;obtain⟨a,rfl⟩:=mJ.1 (hs' NH);have g:(i:Int)<(vs.length:Int):=NH;simp[aao,f,g,hd,aaq,hs]
theorem Bj{e:TypeId}{d:TypeDesc}(b:P.underlying e=Z d)(hd:ab8 d=fF)(a:Addr):aaC P h e a=h.read a:=by grind[aaC]
theorem RS.load{v:vV}{vs:xLV}(a:RS h v vs){e:TypeId}{d:TypeDesc}(b:P.underlying e=Z d)(hd:ab8 d=fF)(i:Nat)(hi:i<vs.length):
  aaC P h e (aaq v i)=Z vs[i]:=by grind[Bj,RS.get]
def RL{α:Type}(R:aai->vV->α->Prop)(h:aai)(v:vV)(xs:List α):Prop:=∃vs:xLV,RS h v vs/\vs.length=xs.length/\∀(i:Nat)(x:α)(u:vV),xs[i]?=Z x->vs[i]?=Z u->R h u x
def RP(_:aai)(v:vV)(n:Int):Prop:=v=n
def Nn{α:Type}(R:aai->vV->α->Prop):Prop:=∀h h' v x,R h v x->Le h h'->R h' v x
theorem Nn.RP:Nn Fw.RP:=fun _ _ _ _ r _=>r
def Nn.RL{α:Type}{R:aai->vV->α->Prop}(s:Nn R):Nn (Fw.RL R):=fun h h' v x ⟨vs,r,a,b⟩ e=>⟨vs,r.le e,a,fun i x u c d=>s h h' u x (b i x u c d) e⟩
section RL
variable{α:Type}{R:aai->vV->α->Prop}{v:vV}{xs:List α}
theorem RL.sl(a:RL R h v xs):xO v xs.length:=by have⟨vs,r,b,_⟩:=a;grind[RS.sl]
theorem RL.len(a:RL R h v xs){t e:TypeId}(b:P.underlying t=Z (.slice e))(h':aai):aeh P h' t v=Z (.int .i64 xs.length):=by have⟨vs,r,c,_⟩:=a;grind[RS.len]
theorem RL.addr(a:RL R h v xs){t e:TypeId}{d:TypeDesc}(b:P.underlying t=Z (.slice e))(hd:P.underlying e=Z d)(hs:UA P e=1){k:IntKind}(i:Nat)(hi:i<xs.length):
  aao P t v (.int k i)=Z (pT (Z (aaq v i))):=by
 have⟨vs,r,c,_⟩:=a;grind[RS.addr]
theorem RL.load(a:RL R h v xs){e:TypeId}{d:TypeDesc}(b:P.underlying e=Z d)(hd:ab8 d=fF)(i:Nat)(hi:i<xs.length):
  ∃u,aaC P h e (aaq v i)=Z u/\R h u xs[i]:=by
 have⟨vs,r,f,c⟩:=a;exact⟨_,r.load b hd i NH,c i _ _ (Gc hi) (Gc NH)⟩
def RL.loadI{xs:RZ}(a:RL RP h v xs){e:TypeId}{d:TypeDesc}(b:P.underlying e=Z d)(hd:ab8 d=fF)(i:Nat)(hi:i<xs.length):
  aaC P h e (aaq v i)=Z (.int .i64 xs[i]):=by have⟨u,c,h2⟩:=a.load b hd i hi;rw[c,h2]
theorem RL.nil:RL R h (.slice Y 0 0) []:=⟨[],RS.nil h,rfl,fun i x u a=>by simp at a⟩
end RL
def RL.Wh{v:vV}{xs:RZ}(r:RS h v (xs.map (vV.int .i64))):RL RP h v xs:=⟨_,r,Ma,fun i x u b a=>by rw[Q4,b]at a;simp at a;exact a.symm⟩
theorem RL.cellsI{v:vV}{xs:RZ}(r:RL RP h v xs):RS h v (xs.map (vV.int .i64)):=by
 have⟨vs,r,a,b⟩:=r;have:vs=xs.map (vV.int .i64):=by
  apply TV
  .simp[a]
  .intro i c h2;have d:i<xs.length:=NH;have:=b i xs[i] vs[i] (Gc d) (Gc c);grind[RP]
 grind
theorem aaa(k:Nat)(a:k<4611686018427387904):aaY .i64 ((k:Int)+1)=((k+1:Nat):Int):=by grind[ie]
theorem qF{id:Nat}{c:xLV}(b:h.own id=Z (.cells c)):∀(n off:Nat),off+n<=c.length->abN h ⟨id,off,Y⟩ n=Z ((c.drop off).take n)
 |0,off,_=>by simp[abN]
 |n+1,off,d=>by have a:off<c.length:=NH;have e:=qF b n (off+1) NH;simp only[abN,YP b,Gc a,Ip];grind[drop_eq_getElem_cons]
theorem Wx{t:TypeId}{d:TypeDesc}{k id off:Nat}{c:xLV}(a:P.underlying t=Z d)(hd:ab8 d=tT)(hs:UA P t=k)(b:h.own id=Z (.cells c))(e:off+k<=c.length):
  aaC P h t ⟨id,off,Y⟩=Z (.agg ((c.drop off).take k).toArray):=by grind[aaC,qF]
theorem Fq{t:TypeId}{d:TypeDesc}{id off:Nat}{c:xLV}(a:P.underlying t=Z d)(hd:ab8 d=fF)(b:h.own id=Z (.cells c)):aaC P h t ⟨id,off,Y⟩=c[off]?:=by grind[Bj,YP]
def aeO(x:Int):aaY .u8 x=x%256:=by rw[Qt];simp[IntKind.wrap,IntKind.bits,IntKind.signed]
theorem cT(x:Int)(a:0<=x)(h2:x<=4611686018427387904):aaY .i64 x=x:=ie x NH NH
theorem xO.one{v:vV}{n:Nat}(b:xO v n):v.oneCell'=tT:=by obtain⟨a,c,rfl,_⟩:=b;rfl
theorem RL.one{α:Type}{R:aai->vV->α->Prop}{v:vV}{xs:List α}(a:RL R h v xs):v.oneCell'=tT:=a.sl.one
theorem RL.le{α:Type}{R:aai->vV->α->Prop}(s:Nn R){v:vV}{xs:List α}(a:RL R h v xs)(e:Le h h'):RL R h' v xs:=(Nn.RL s) _ _ _ _ a e
def aBox3{a b c:vV}(ha:a.oneCell'=tT)(hb:b.oneCell'=tT)(d:c.oneCell'=tT):zF h (.agg #[a,b,c])=Z (pT (Z h.next),h.alloc (.cells [a,b,c])):=by simp[zF,IF,vV.cells,ha,hb,d]
theorem QB{t:TypeId}{d:TypeDesc}{id off:Nat}{c:xLV}{x:vV}(b:P.underlying t=Z d)(hs:UA P t=1)(e:h.own id=Z (.cells c))(a:off<c.length)(f:x.cells=#[x])(g:x.oneCell'=tT):
  aaK P h t (pT (Z ⟨id,off,Y⟩)) x=Z (h.put id (.cells (c.set off x))):=by grind[aaK,putCells]
structure CS (k:Nat) (h:aai) (v:vV) (n:Nat) (cs:xLV):Prop where
 sl:xO v n
 len:cs.length=n*k
 get:∀i x,cs[i]?=Z x->h.read (aaq v i)=Z x
theorem CS.le{k n:Nat}{v:vV}{cs:xLV}(c:CS k h v n cs)(e:Le h h'):CS k h' v n cs:=⟨c.sl,c.len,fun i x a=>e.read (c.get i x a)⟩
def RS.cs{v:vV}{vs:xLV}(r:RS h v vs):CS 1 h v vs.length vs:=⟨r.sl,Ma,r.get⟩
theorem CS.rs{v:vV}{n:Nat}{vs:xLV}(r:CS 1 h v n vs):RS h v vs:=by
 have:vs.length=n:=by grind[CS.len]
 subst this;exact⟨r.sl,r.get⟩
theorem CS.nil(k:Nat)(h:aai):CS k h (.slice Y 0 0) 0 []:=⟨⟨Y,0,rfl,Ma⟩,Ma,fun i x a=>by simp at a⟩
theorem ag8:∀(cs:xLV)(a:Addr),(∀i x,cs[i]?=Z x->h.read (Ip a i)=Z x)->abN h a cs.length=Z cs
 |[],_,_=>rfl
 |c::cs,a,hg=>by
  have b:=hg 0 c rfl;have d:=ag8 cs (Ip a 1) fun i x e=>by have:=hg (i+1) x hGr;grind[Ip]
  grind[abN,aai.read,Ip]
theorem CS.abN{k n:Nat}{a:Addr}{cap:Nat}{cs:xLV}(c:CS k h (sL (Z a) n cap) n cs):abN h a (n*k)=Z cs:=by rw[<-c.len];exact ag8 cs a fun i x b=>c.get i x b
theorem CS.src{k n:Nat}{v:vV}{cs:xLV}{e:TypeId}(b:UA P e=k)(c:CS k h v n cs):aby P h e v=Z (n,cs):=by
 obtain⟨a,cap,rfl,hs⟩:=c.sl;cases a with
 |none=>
  have d:n=0:=by cases n<;>grind
  subst d;have:cs=[]:=by simpa using c.len
  grind[aby]
 |some a=>simp[aby,b,c.abN]
theorem CS.first{k n:Nat}{v:vV}{cs:xLV}(c:CS k h v n cs)(e:n≠0)(m:Nat)(b:m<=n):afE h k m v=Z (cs.take (m*k)):=by
 obtain⟨a,cap,rfl,hs⟩:=c.sl;obtain⟨a,rfl⟩:=mJ.1 (hs NH);have hle:m*k<=n*k:=WS _ b;have d:(cs.take (m*k)).length=m*k:=by grind[CS.len]
 simp only[afE,b,if_true]
 conv=>lhs;rw[<-d]
 refine ag8 _ _ fun i x f=>c.get i x ?_;grind
def blk:vV->Option Nat
 |.slice (Z ⟨b,_,Y⟩) _ _=>Z b
 |_=>Y
def Z2(g:aai)(v:vV):Prop:=∀b,blk v=Z b->g.own b=Y
def GS(k:Nat)(h:aai)(v:vV)(n:Nat)(cs:xLV):Prop:=
 cs.length=n*k/\((v=.slice Y 0 0/\n=0)\/
  ∃id c cap,v=sL (Z ⟨id,0,Y⟩) n cap/\h.own id=Z (.cells c)/\c.take (n*k)=cs/\(cap=UNK+k\/cap=n/\n<1000000000000))
theorem GS.nil(k:Nat)(h:aai):GS k h (.slice Y 0 0) 0 []:=⟨Ma,.inl ⟨rfl,rfl⟩⟩
theorem GS.full{k n id:Nat}{c:xLV}(a:h.own id=Z (.cells c))(b:c.length=n*k)(d:n<1000000000000):GS k h (sL (Z id) n n) n c:=⟨b,.inr ⟨id,c,n,rfl,a,hGr,.inr ⟨rfl,d⟩⟩⟩
theorem GS.le{k n:Nat}{v:vV}{cs:xLV}(g:GS k h v n cs)(e:Le h h'):GS k h' v n cs:=by
 obtain⟨a,g|⟨id,c,cap,rfl,b,r⟩⟩:=g
 .exact⟨a,.inl g⟩
 .exact⟨a,.inr ⟨id,c,cap,rfl,e.own _ _ b,r⟩⟩
theorem GS.cs{k n:Nat}{v:vV}{cs:xLV}(g:GS k h v n cs):CS k h v n cs:=by
 obtain⟨a,⟨rfl,rfl⟩|⟨id,c,cap,rfl,b,rfl,d⟩⟩:=g
 .grind[CS.nil]
 .refine⟨⟨_,cap,rfl,Ma⟩,a,fun i x e=>?_⟩;grind[fA,Ip.eq_1,YP]
def apT(P:Program)(t xt:TypeId)(k:Nat):Bool:=
  match P.underlying t,P.underlying xt with
  |some (.slice e),Z dx=>match acd P e with
    |some z=>z.cells.size==UA P e&&z.cells.toList.all (·.oneCell')&&(P.underlying e).isSome&&acL dx&&UA P e==k&&decide (P.bytesOf e<=100000)
    |none=>fF
  |_,_=>fF
theorem GS.append{t xt:TypeId}{k n n':Nat}{v x:vV}{cs news:xLV}(d:apT P t xt k=tT)(g:GS k h v n cs)(hs:∀e,UA P e=k->aby P h e x=Z (n',news))(F:cs.all (·.oneCell')=tT)(G:news.all (·.oneCell')=tT)(o:news.length=n'*k)(hb:n+n'<=1000000000):
  ∃v' h',aaR P h t xt v x=Z (v',h')/\GS k h' v' (n+n') (cs++news)/\(∀f,WF h->Le f h->Z2 f v->Le f h'/\Z2 f v'):=by
 unfold apT at d;split at d
 .rename_i e dx i j;split at d
  .rename_i z l;simp only[Cg,beq_iff_eq,abV]at d;obtain⟨⟨⟨⟨⟨p,q⟩,hd⟩,r⟩,H⟩,s⟩:=d;have hs:=hs e H;have I:(n+n')*P.bytesOf e<=140737488355328:=ff (af7 hb s) WY;have J:n+n'<=140737488355328:=NH;have m:z.cells.size=UA P e/\z.cells.toList.all (·.oneCell')/\(P.underlying e).isSome/\acL dx/\news.all (·.oneCell')/\(n+n')*P.bytesOf e<=140737488355328/\n+n'<=140737488355328/\news.length=n'*UA P e:=
    ⟨p,q,hd,r,G,I,J,hGr⟩
   have hlen:(cs++news).length=(n+n')*k:=by rw[aaf,g.1,o,dU]
   by_cases K:n'=0
   .subst K;have u:news=[]:=hGr;subst u;refine⟨v,h,?_,by simpa using g,fun f _ e a=>⟨e,a⟩⟩;obtain⟨L,⟨rfl,rfl⟩|⟨id,c,cap,rfl,C,d,D⟩⟩:=g
    .simp[aaR,i,j,l,hs,m]
    .have:n<=cap:=by grind[UNK]
     simp only[aaR,i,j,l,hs];grind
   .obtain⟨L,⟨rfl,rfl⟩|⟨id,c,cap,rfl,C,w,D⟩⟩:=g
    .have y:cs=[]:=hGr;subst y
     refine⟨_,_,?_,⟨hlen,.inr ⟨h.next,news,UNK+k,by rfl,aai.zT _ _,hGr,.inl rfl⟩⟩,fun f hw e a=>⟨e.alloc hw _,?_⟩⟩
     .have A:¬UNK<=0:=by decide
      have E:¬(0+n'<=0):=NH;simp only[aaR,i,j,l,hs];grind[GB]
     .intro b hb;grind[blk,Le.next]
    .have M:Fw.abN h ⟨id,0,Y⟩ (n*k)=Z cs:=by
      have:n*k<=c.length:=hGr;rw[qF C (n*k) 0 NH];simp[w]
     rcases D with rfl|⟨rfl,B⟩
     .refine⟨_,(h.kill id).alloc (.cells (cs++news)),?_,⟨hlen,.inr ⟨h.next,cs++news,UNK+k,by rfl,by exact aai.zT _ _,hGr,.inl rfl⟩⟩,fun f hw e a=>⟨(e.kill (a _ rfl)).alloc (hw.kill _) _,?_⟩⟩
      .simp only[aaR,i,j,l,hs];grind
      .intro b hb;grind[blk,Le.next]
     .have A:¬UNK<=cap:=aku.2 (ahD B WY)
      refine⟨_,_,?_,⟨hlen,.inr ⟨h.next,cs++news,UNK+k,by rfl,aai.zT _ _,hGr,.inl rfl⟩⟩,fun f hw e a=>⟨e.alloc hw _,?_⟩⟩
      .simp only[aaR,i,j,l,hs];grind[GB]
      .intro b hb;grind[blk,Le.next]
  .cases d
 .cases d
theorem all_rep{v:vV}(a:v.oneCell'=tT)(n:Nat):(rP n v).all (·.oneCell')=tT:=hGr
theorem Ye{t e:TypeId}{z:vV}{d:TypeDesc}(h:aai)(a:P.underlying t=Z (.slice e))(b:acd P e=Z z)(c:z.cells=#[z])(hf:flat z=tT)(f:z.oneCell'=tT)(hs:UA P e=1)(hd:P.underlying e=Z d)(hb:(P.bytesOf e).ble 1000=tT)(n:Nat)(g:n<=1000000):
  abl P h t n n=Z (sL (Z h.next) n n,h.alloc (.cells (rP n z))):=by
 have i:(P.bytesOf e:Int)*n<=140737488355328:=by have:P.bytesOf e*n<=1000*1000000:=af7 (qL255 hb) g;grind
 have j:(n:Int)<=140737488355328:=NH;simp[abl,a,b,c,hf,hs,hd,i,j,IF,HW,f]
theorem IQ{t e:TypeId}{d:TypeDesc}{k n id off dl dc:Nat}{c cs:xLV}{v:vV}(i:P.underlying t=Z (.slice e))(hd:P.underlying e=Z d)(j:UA P e=k)(s:h.own id=Z (.cells c))(g:CS k h v n cs)(l:cs.all (·.oneCell')=tT)(m:Nat)(o:min n dl=m)(p:m≠0)(hb:off+m*k<=c.length):
  afo P h t (sL (Z ⟨id,off,Y⟩) dl dc) v=Z (.int .i64 m,h.put id (.cells (c.take off++cs.take (m*k)++c.drop (off+m*k)))):=by
 have q:n≠0:=NH;have b:m<=n:=NH;have hlen:afj v=Z n:=by obtain⟨a,cap,rfl,_⟩:=g.sl;rfl
 have hf:=g.first q m b
 have hle:m*k<=n*k:=WS _ b;have u:(cs.take (m*k)).length=m*k:=by grind[CS.len]
 have r:(cs.take (m*k)).all (·.oneCell')=tT:=hGr;have f:off+(cs.take (m*k)).length<=c.length/\(cs.take (m*k)).all (·.oneCell')/\m≠0:=⟨hGr,r,p⟩;simp only[afo,i,hlen,hd,aiI,if_true,o,j];grind[IW]
def afl{t e:TypeId}{d:TypeDesc}{dl dc n:Nat}{a:Option Addr}{v:vV}(b:P.underlying t=Z (.slice e))(hd:P.underlying e=Z d)(c:UA P e≠0)(f:xO v n)(g:min n dl=0):
  afo P h t (.slice a dl dc) v=Z (.int .i64 (0:Nat),h):=by
 obtain⟨a,cap,rfl,_⟩:=f;simp[afo,b,afj,hd,g,c]
def aSlice_lo{t e:TypeId}{d:TypeDesc}{n cap:Nat}{a:Option Addr}(b:P.underlying t=Z (.slice e))(hd:P.underlying e=Z d)(c:UA P e=1){k:IntKind}(i:Nat)(hi:i<=n)(l:n<cap\/i<n)(f:n<=cap)(hs:cap<UNK):
  abf P t (.slice a n cap) (Z (.int k i)) Y Y=Z (.slice (a.map (fun a=>Ip a i)) (n-i) (cap-i)):=by
 have g:¬UNK<=cap:=NH;have h2:(0:Int)<=i:=NH;have h3:(i:Int)<=n:=NH;have j:¬(cap=i):=NH;simp[abf,b,g,f,hd,abm,abL,h2,h3,j,c]
def pn{t e:TypeId}{d:TypeDesc}{n cap:Nat}{a:Addr}(b:P.underlying t=Z (.slice e))(hd:P.underlying e=Z d){k:IntKind}(i:Nat)(hi:i<=cap)(c:n<=cap)(hs:cap<UNK):
  abf P t (sL (Z a) n cap) Y (Z (.int k i)) Y=Z (sL (Z a) i cap):=by
 have f:¬UNK<=cap:=NH;have h2:(0:Int)<=i:=NH;have h3:(i:Int)<=cap:=NH;simp[abf,b,f,c,hd,abm,abL,h2,h3,Ip]
theorem CS.own{k id off n cap:Nat}{c:xLV}(b:h.own id=Z (.cells c))(d:off+n*k<=c.length):CS k h (sL (Z ⟨id,off,Y⟩) n cap) n ((c.drop off).take (n*k)):=by
 have a:((c.drop off).take (n*k)).length=n*k:=by simp;omega
 refine⟨⟨_,cap,rfl,Ma⟩,a,fun i x e=>?_⟩;grind[fA,Ip.eq_1,YP]
def Wc{t e:TypeId}{d:TypeDesc}{a:Addr}{n cap:Nat}(b:P.underlying t=Z (.slice e))(hd:P.underlying e=Z d)(hs:UA P e=1){k:IntKind}(i:Nat)(hi:i<n):
  aao P t (sL (Z a) n cap) (.int k i)=Z (pT (Z (Ip a i))):=by
 have c:(i:Int)<(n:Int):=NH;simp[aao,b,c,hd,hs]
def Jg{t e:TypeId}{a:Option Addr}{n cap:Nat}(b:P.underlying t=Z (.slice e))(h:aai):aeh P h t (.slice a n cap)=Z (.int .i64 n):=by simp[aeh,b]
theorem aG{v v':vV}(hf:∀f,WF h->Le f h->Z2 f v->Le f h'/\Z2 f v')(hw:WF h){a:Nat}{o:fK}(g:h.own a=Z o)(hb:blk v≠Z a):h'.own a=Z o/\blk v'≠Z a:=by
 cases j:blk v with
 |none=>have⟨d,h2⟩:=hf h hw (Le.refl h) (fun b hb=>by grind);exact⟨d.own _ _ g,fun e=>by have:=h2 a e;grind⟩
 |some b=>
  have i:a≠b:=hGr;have⟨d,h2⟩:=hf (h.kill b) hw (Le.Qz h b) (fun c k=>by grind[aai.Dg]);have:(h.kill b).own a=Z o:=by grind[aai.xJ]
  exact⟨d.own _ _ this,fun e=>by have h3:=h2 a e;grind⟩
theorem GS.push{t:TypeId}{n id:Nat}{v x:vV}{cs:xLV}(b:apT P t t 1=tT)(g:GS 1 h v n cs)(c:h.own id=Z (.cells [x]))(a:cs.all (·.oneCell')=tT)(d:x.oneCell'=tT)(hb:n+1<=1000000000):
  ∃v' h',aaR P h t t v (sL (Z id) 1 1)=Z (v',h')/\GS 1 h' v' (n+1) (cs++[x])/\(∀f,WF h->Le f h->Z2 f v->Le f h'/\Z2 f v'):=
 g.append b (fun e i=>(CS.own (k:=1) (off:=0) (n:=1) (cap:=1) c Ma).src i) a (by simp[d]) Ma hb
theorem RL.load'{α:Type}{R:aai->vV->α->Prop}{g:aai}{v:vV}{xs:List α}(a:RL R g v xs){e:TypeId}{d:TypeDesc}(b:P.underlying e=Z d)(hd:ab8 d=fF)(i:Nat)(hi:i<xs.length):
  ∃u,(∀h,Le g h->aaC P h e (aaq v i)=Z u)/\R g u xs[i]:=by grind[RL.load,Bj,Le.read]
def rem(l:II)(h:aai):aai:=l.foldr (fun i g=>g.kill i) h
theorem vL(l:II):(rem l h).ext=h.ext:=by
 induction l with
 |nil=>rfl
 |cons a l b=>exact b
theorem DC(l:II)(i:Nat):(rem l h).own i=if i∈l then Y else h.own i:=by
 induction l<;>grind[rem,uU]
theorem Th{l:II}{i:Nat}{o:fK}:(rem l h).own i=Z o↔h.own i=Z o/\i∉l:=by grind[DC]
theorem Sa(l:II)(h:aai):Le (rem l h) h:=⟨(vL l).symm,fun i o hi=>(Th.1 hi).1⟩
theorem Le.rem{l l':II}(a:h'.ext=h.ext)(b:∀i o,h.own i=Z o->i∉l->h'.own i=Z o/\i∉l'):Le (Fw.rem l h) (Fw.rem l' h'):=⟨by grind[vL],fun i o hi=>by grind[Th]⟩
theorem Le.iV{g:aai}{l:II}(e:Le g h)(a:∀i∈l,g.own i=Option.none):Le g (Fw.rem l h):=⟨by grind[vL,Le.ext],fun i o hi=>Th.2 ⟨e.own _ _ hi,fun b=>by grind⟩⟩
def Le.Xm{l:II}(e:Le h h'):Le (Fw.rem l h) (Fw.rem l h'):=Le.rem e.ext fun i o hi a=>⟨e.own _ _ hi,a⟩
def bl(v:vV):II:=(blk v).toList
theorem Zr{v:vV}{i:Nat}:i∈bl v↔blk v=Z i:=by simp[bl]
def GS.Fi{k n:Nat}{v:vV}{cs:xLV}{l:II}(g:GS k h v n cs)(hb:∀b,blk v=Z b->b∉l):GS k (rem l h) v n cs:=by
 obtain⟨a,g|⟨id,c,cap,rfl,d,r⟩⟩:=g
 .exact⟨a,.inl g⟩
 .exact⟨a,.inr ⟨id,c,cap,rfl,Th.2 ⟨d,hb id rfl⟩,r⟩⟩
theorem GS.Sy{k n:Nat}{v:vV}{cs:xLV}(g:GS k h v n cs){b:Nat}(hb:blk v=Z b):h.own b≠Y:=by
 obtain⟨a,⟨rfl,_⟩|⟨id,c,cap,rfl,d,r⟩⟩:=g
 .cases hb
 .injection hb with hb;grind
def cu(v:vV):Prop:=v=.slice Y 0 0\/∃a n c,v=.slice a n c/\UNK<=c
theorem uZ{t xt:TypeId}{v x v':vV}(e:aaR P h t xt v x=Z (v',h'))(d:cu v):cu v':=by
 have key:∀base len cap,v=.slice base len cap->(v=.slice Y 0 0\/UNK<=cap)->cu v':=by
  intro base len cap f g;subst f;unfold aaR at e;split at e
  .rename_i heq;injection heq with i h2 h3;subst i h2 h3;split at e
   .split at e
    .split at e
     .grind
     .split at e
      .split at e
       .split at e
        .split at e
         .split at e
          .injection e with e;injection e with b j;subst b;exact .inr ⟨_,_,_,rfl,by assumption⟩
          .cases e
         .cases e
        .cases e
       .cases e
      .split at e
       .grind
       .split at e
        .split at e
         .injection e with e;injection e with b j;subst b;exact .inr ⟨_,_,_,rfl,qL228 _ _⟩
         .cases e
        .cases e
    .cases e
   .cases e
  .cases e
 rcases d with rfl|⟨a,n,c,rfl,k⟩
 all_goals grind
theorem Ub(a:Addr)(i j:Nat):Ip (Ip a i) j=Ip a (i+j):=by grind[Ip]
theorem RS.part{a:Addr}{n cap cap' lo hi:Nat}{vs:xLV}(r:RS h (sL (Z a) n cap) vs)(d:lo<=hi)(h2:hi<=n)(e:vs.length=n):RS h (sL (Z (Ip a lo)) (hi-lo) cap') ((vs.drop lo).take (hi-lo)):=by
 have c:((vs.drop lo).take (hi-lo)).length=hi-lo:=by simp;omega
 refine⟨⟨_,cap',by rw[c],Ma⟩,fun i x b=>?_⟩;rw[fA,Ub];rw[Dj]at b;split at b
 .rw[Ki]at b;have:=r.get (lo+i) x b;grind[fA]
 .cases b
def RS.none'{a:Option Addr}{n cap cap':Nat}{a':Option Addr}(b:n=0):RS h (.slice a' n cap') []:=by subst b;exact⟨⟨a',cap',rfl,Ma⟩,fun i x c=>by simp at c⟩
theorem Hx{n:Nat}{v:vV}{cs:xLV}{t e:TypeId}{d:TypeDesc}(i:P.underlying t=Z (.slice e))(hd:P.underlying e=Z d)(hs:UA P e=1)(g:GS 1 h v n cs)(p:n≠0)(lo hi:Nat)(l:lo<=hi)(h2:hi<=n):
  ∃v',abf P t v (Z (.int .i64 lo)) (Z (.int .i64 hi)) Y=Z v'/\RS h v' ((cs.drop lo).take (hi-lo)):=by
 have gc:=g.cs.rs;obtain⟨q,⟨rfl,rfl⟩|⟨id,c,cap,rfl,r,s,m⟩⟩:=g
 .grind
 .have n1:(0:Int)<=lo:=NH;have j:(lo:Int)<=hi:=NH;have n3:(hi:Int)<=n:=NH;have k:(0:Int)<=hi:=NH;have b:cs.length=n:=hGr;rcases m with rfl|⟨rfl,o⟩
  .refine⟨sL (Z (Ip ⟨id,0,Y⟩ lo)) (hi-lo) (UNK+1),?_,gc.part l h2 b⟩;simp[abf,i,hd,hs,abm,abL,n1,j,n3,k]
  .have f:¬UNK<=cap:=aku.2 (ahD o WY)
   refine⟨.slice (if cap=lo then Z id else Z (Ip ⟨id,0,Y⟩ lo)) (hi-lo) (cap-lo),?_,?_⟩
   .simp[abf,i,hd,hs,abm,abL,n1,j,n3,k,f]
   .split
    .have:hi-lo=0:=NH;rw[this];simp only[ame];exact RS.none' (a:=Y) (cap:=0) rfl
    grind[RS.part]
def GT(k:Nat)(h:aai)(v:vV)(n:Nat)(cs:xLV):Prop:=
 cs.length=n*k/\((v=.slice Y 0 0/\n=0)\/
  ∃id c cap,v=sL (Z ⟨id,0,Y⟩) n cap/\h.own id=Z (.cells c)/\c.take (n*k)=cs/\(cap=UNK+k\/(n<=cap/\cap<1000000000000/\cap*k<=c.length)))
theorem GS.gt{k n:Nat}{v:vV}{cs:xLV}(g:GS k h v n cs):GT k h v n cs:=by
 obtain⟨a,g|⟨id,c,cap,rfl,b,d,r⟩⟩:=g
 .exact⟨a,.inl g⟩
 .refine⟨a,.inr ⟨id,c,cap,rfl,b,d,?_⟩⟩;grind
theorem GT.le{k n:Nat}{v:vV}{cs:xLV}(g:GT k h v n cs)(e:Le h h'):GT k h' v n cs:=by
 obtain⟨a,g|⟨id,c,cap,rfl,b,r⟩⟩:=g
 .exact⟨a,.inl g⟩
 .exact⟨a,.inr ⟨id,c,cap,rfl,e.own _ _ b,r⟩⟩
theorem GT.kept{k n:Nat}{v:vV}{cs:xLV}(g:GT k h v n cs)(d:∀b o,blk v=Z b->h.own b=Z o->h'.own b=Z o):GT k h' v n cs:=by
 obtain⟨a,q|⟨i,c,cap,rfl,e,rr⟩⟩:=g
 .exact⟨a,.inl q⟩
 .exact⟨a,.inr ⟨i,c,cap,rfl,d i _ rfl e,rr⟩⟩
theorem GT.put{k n:Nat}{v:vV}{cs:xLV}(g:GT k h v n cs){id:Nat}(o:fK)(hb:blk v≠Z id):GT k (h.put id o) v n cs:=g.kept fun b a c d=>by grind[aai.By]
theorem GT.cs{k n:Nat}{v:vV}{cs:xLV}(g:GT k h v n cs):CS k h v n cs:=by
 obtain⟨a,⟨rfl,rfl⟩|⟨id,c,cap,rfl,b,rfl,d⟩⟩:=g
 .grind[CS.nil]
 .refine⟨⟨_,cap,rfl,Ma⟩,a,fun i x e=>?_⟩;grind[fA,Ip.eq_1,YP]
theorem GT.Sy{k n:Nat}{v:vV}{cs:xLV}(g:GT k h v n cs){b:Nat}(hb:blk v=Z b):∃c,h.own b=Z (.cells c):=by
 obtain⟨a,⟨rfl,rfl⟩|⟨i,c,cap,rfl,d,rr⟩⟩:=g
 .cases hb
 .injection hb with hb;grind
theorem GT.append{t xt:TypeId}{k n n':Nat}{v x:vV}{cs news:xLV}(m:apT P t xt k=tT)(g:GT k h v n cs)(hs:∀e,UA P e=k->aby P h e x=Z (n',news))(o:cs.all (·.oneCell')=tT)(A:news.all (·.oneCell')=tT)(d:news.length=n'*k)(hb:n+n'<=1000000000):
  ∃v' h',aaR P h t xt v x=Z (v',h')/\GT k h' v' (n+n') (cs++news)/\(∀f,WF h->Le f h->Z2 f v->Le f h'/\Z2 f v'):=by
 obtain⟨r,⟨rfl,rfl⟩|⟨id,c,cap,rfl,w,i,O⟩⟩:=g
 .have B:cs=[]:=by simpa using r
  subst B;have⟨v',h',C,D,e3⟩:=GS.append m (GS.nil k h) hs o A d hb;exact⟨v',h',C,D.gt,e3⟩
 .rcases O with rfl|⟨s,p,q⟩
  .obtain⟨v',h',C,D,e3⟩:=GS.append m ⟨r,.inr ⟨id,c,_,rfl,w,i,.inl rfl⟩⟩ hs o A d hb;exact⟨v',h',C,D.gt,e3⟩
  .unfold apT at m;split at m
   .rename_i e dx E F;split at m
    .rename_i z G;simp only[Cg,beq_iff_eq,abV]at m;obtain⟨⟨⟨⟨⟨H,I⟩,hd⟩,J⟩,y⟩,K⟩:=m;have hs:=hs e y;have Q:(n+n')*P.bytesOf e<=140737488355328:=ff (af7 hb K) WY;have R:n+n'<=140737488355328:=NH;have j:z.cells.size=UA P e/\z.cells.toList.all (·.oneCell')/\(P.underlying e).isSome/\acL dx/\news.all (·.oneCell')/\(n+n')*P.bytesOf e<=140737488355328/\n+n'<=140737488355328/\news.length=n'*UA P e:=
      ⟨H,I,hd,J,A,Q,R,by rw[y];exact d⟩
     have hlen:(cs++news).length=(n+n')*k:=by rw[aaf,r,d,dU]
     have u:¬UNK<=cap:=aku.2 (ahD p WY);have L:Fw.abN h ⟨id,0,Y⟩ (n*k)=Z cs:=by
      have:n*k<=c.length:=by have:=r;rw[<-i,zx]at this;omega
      rw[qF w (n*k) 0 NH];simp[i]
     by_cases M:n'=0
     .subst M;have N:news=[]:=by simpa using d
      subst N;refine⟨_,h,?_,⟨by simpa using r,.inr ⟨id,c,cap,rfl,w,by simpa using i,.inr ⟨s,p,q⟩⟩⟩,fun f _ e a=>⟨e,a⟩⟩;simp only[aaR,E,F,G,hs];rw[Sb j,Sb trivial,Sb s];rfl
     .by_cases hf:n+n'<=cap
      .have l:n*k+news.length<=c.length:=by rw[d,<-dU];exact ff (WS _ hf) q
       refine⟨sL (Z id) (n+n') cap,h.put id (.cells (putCells c (n*k) news)),?_,⟨hlen,.inr ⟨id,_,cap,rfl,aai.Y3 _ _ _,?_,.inr ⟨hf,p,by rw[O7];exact q⟩⟩⟩,fun f _ e a=>⟨e.put _ (a _ rfl),a⟩⟩
       .simp only[aaR,E,F,G,hs];rw[Sb j,WA M,WA u,Sb hf];simp only[w,y,EL,l,if_true]
       .rw[IW _ _ _ l];rw[als (by simp[d];rw[dU];omega)];rw[abe (by simp[d];rw[dU];omega),i]
      .refine⟨_,_,?_,⟨hlen,.inr ⟨h.next,cs++news,UNK+k,rfl,aai.zT _ _,by rw[<-hlen,ags],.inl rfl⟩⟩,fun f hw e a=>⟨e.alloc hw _,?_⟩⟩
       .simp only[aaR,E,F,G,hs];rw[Sb j,WA M,WA u,WA hf];simp only[GB,y,L,o,if_true]
       .intro b hb;simp[blk]at hb;subst hb;exact e.next hw (qL0 _)
    .cases m
   .cases m
theorem GT.push{t:TypeId}{n id:Nat}{v x:vV}{cs:xLV}(b:apT P t t 1=tT)(g:GT 1 h v n cs)(c:h.own id=Z (.cells [x]))(a:cs.all (·.oneCell')=tT)(i:x.oneCell'=tT)(hb:n+1<=1000000000):
  ∃v' h',aaR P h t t v (sL (Z id) 1 1)=Z (v',h')/\GT 1 h' v' (n+1) (cs++[x])/\(∀f,WF h->Le f h->Z2 f v->Le f h'/\Z2 f v'):=
 GT.append b g (fun e d=>CS.src d (CS.own (k:=1) (off:=0) (n:=1) (cap:=1) c Ma)) a hGr Ma hb
theorem GT.cut{k n:Nat}{v:vV}{cs:xLV}{t e:TypeId}{d:TypeDesc}(i:P.underlying t=Z (.slice e))(hd:P.underlying e=Z d)(hs:UA P e=k)(g:GT k h v n cs)(m:Nat)(p:m<=n):
  ∃v',abf P t v Y (Z (.int .i64 m)) Y=Z v'/\GT k h v' m (cs.take (m*k))/\blk v'=blk v:=by
 obtain⟨u,⟨rfl,rfl⟩|⟨id,c,cap,rfl,o,w,q⟩⟩:=g
 .obtain rfl:m=0:=NH;refine⟨.slice Y 0 0,?_,⟨Ma,.inl ⟨rfl,rfl⟩⟩,rfl⟩;have:¬UNK<=0:=by decide
  simp[abf,i,hd,this,abm,abL]
 .have h2:(0:Int)<=m:=NH;have r:m*k<=n*k:=WS _ p;have a:cs.take (m*k)=c.take (m*k):=hGr;have b:(cs.take (m*k)).length=m*k:=hGr;rcases q with rfl|⟨j,f,l⟩
  .have h3:(m:Int)<=n:=NH;refine⟨sL (Z id) m (UNK+k),?_,⟨b,.inr ⟨id,c,_,rfl,o,a.symm,.inl rfl⟩⟩,rfl⟩;simp[abf,i,hd,hs,abm,abL,Ip,h2,h3]
  .have s:¬UNK<=cap:=aku.2 (ahD f WY);have h3:(m:Int)<=cap:=NH;refine⟨sL (Z id) m cap,?_,⟨b,.inr ⟨id,c,_,rfl,o,a.symm,.inr ⟨NH,f,l⟩⟩⟩,rfl⟩;simp[abf,i,s,j,hd,abm,abL,h2,h3,Ip]
def Lj{α:Type}(R:aai->vV->α->Prop)(h:aai)(v:vV)(xs:List α):Prop:=∃us:xLV,GS 1 h v us.length us/\us.length=xs.length/\us.all (·.oneCell')=tT/\∀(i:Nat) x u,xs[i]?=Z x->us[i]?=Z u->R (rem (bl v) h) u x
section
variable{α:Type}{R:aai->vV->α->Prop}{v:vV}{xs:List α}
theorem Lj.rl(s:Nn R)(g:Lj R h v xs):RL R h v xs:=by have⟨us,a,b,_,c⟩:=g;exact⟨us,a.cs.rs,b,fun i x u d e=>s _ _ _ _ (c i x u d e) (Sa _ _)⟩
theorem Lj.le(s:Nn R)(g:Lj R h v xs)(e:Le h h'):Lj R h' v xs:=by have⟨us,a,b,c,d⟩:=g;exact⟨us,a.le e,b,c,fun i x u f j=>s _ _ _ _ (d i x u f j) e.Xm⟩
theorem Lj.nil(R:aai->vV->α->Prop)(h:aai):Lj R h (.slice Y 0 0) []:=⟨[],GS.nil 1 h,rfl,rfl,fun i x u a=>by simp at a⟩
theorem Lj.empty(R:aai->vV->α->Prop){id:Nat}(a:h.own id=Z (.cells [])):Lj R h (sL (Z id) 0 0) []:=⟨[],GS.full a rfl WY,rfl,rfl,fun i x u b=>by simp at b⟩
theorem Lj.push(s:Nn R){t:TypeId}(n:apT P t t 1=tT)(g:Lj R h v xs)(c:WF h){u:vV}{x:α}(p:R (rem (bl v) h) u x)(u1:u.oneCell'=tT)(F:xs.length<=100000000):
  ∃k v' a,h.alloc (.cells [u])=k/\aaR P k t t v (sL (Z h.next) 1 1)=Z (v',a)/\Lj R a v' (xs++[x])/\Le h k/\WF k/\
   (∀f,Le f h->Z2 f v->Le f a/\Z2 f v')/\(∀b o,h.own b=Z o->blk v≠Z b->a.own b=Z o/\blk v'≠Z b):=by
 have⟨us,q,m,r,z⟩:=g;have l4:Le h (h.alloc (.cells [u])):=(Le.refl h).alloc c _;have l:WF (h.alloc (.cells [u])):=c.alloc _
 have A:(h.alloc (.cells [u])).own h.next=Z (.cells [u]):=aai.zT _ _
 have⟨v',a,B,G,hf⟩:=GS.push (P:=P) n (q.le l4) A r u1 NH;refine⟨_,v',a,rfl,B,⟨us++[u],?_,by simp[m],hGr,fun i y w d hw=>?_⟩,l4,l,fun f C af=>hf f l (C.trans l4) af,fun b o D hb=>aG hf l (l4.own _ _ D) hb⟩
 .grind
 .have j:Z2 (rem (bl v) h) v:=fun b hb=>by grind[DC,Zr]
  have⟨l5,E⟩:=hf _ l ((Sa (bl v) h).trans l4) j;have le:Le (rem (bl v) h) (rem (bl v') a):=l5.iV fun i hi=>E i (Zr.1 hi);by_cases hi:i<us.length
  .rw[EP hi]at hw;rw[EP NH]at d;exact s _ _ _ _ (z i y w d hw) le
  .have e:i=us.length:=hGr;subst e;rw[jf NH]at hw;rw[jf NH,m]at d;simp at hw d;subst hw d;exact s _ _ _ _ p le
def RMR(l:II)(R:aai->vV->α->Prop):aai->vV->α->Prop:=fun h u x=>R (rem l h) u x
def RMR.stays(s:Nn R)(l:II):Nn (RMR l R):=fun _ _ _ _ r e=>s _ _ _ _ r e.Xm
theorem xk(l l':II)(h:aai):Le (rem l (rem l' h)) (rem l' (rem l h)):=⟨by simp[vL],fun i o hi=>by grind[Th]⟩
def Lj.remI(s:Nn R){l:II}(g:Lj R (rem l h) v xs):Lj (RMR l R) h v xs:=by have⟨us,a,b,c,d⟩:=g;exact⟨us,a.le (Sa _ _),b,c,fun i x u e f=>s _ _ _ _ (d i x u e f) (xk _ _ _)⟩
def Lj.remE(s:Nn R){l:II}(g:Lj (RMR l R) h v xs)(hb:∀b,blk v=Z b->b∉l):Lj R (rem l h) v xs:=by have⟨us,a,c,d,e⟩:=g;exact⟨us,a.Fi hb,c,d,fun i x u f j=>s _ _ _ _ (e i x u f j) (xk _ _ _)⟩
theorem Lj.mG(s:Nn R){l:II}{t:TypeId}(e:apT P t t 1=tT)(g:Lj R (rem l h) v xs)(d:WF h){u:vV}{x:α}(i:R (rem l (rem (bl v) h)) u x)(u1:u.oneCell'=tT)(j:xs.length<=100000000)(hb:∀b,blk v=Z b->b∉l)(r:∀b∈l,h.own b≠Y):
  ∃a v' c,h.alloc (.cells [u])=a/\aaR P a t t v (sL (Z h.next) 1 1)=Z (v',c)/\Lj R (rem l c) v' (xs++[x])/\Le h a/\WF a/\
   (∀f,Le f h->Z2 f v->Le f c/\Z2 f v')/\(∀b o,h.own b=Z o->blk v≠Z b->c.own b=Z o/\blk v'≠Z b):=by
 have⟨a,v',c,e4,k,m,l4,n,p,q⟩:=Lj.push (RMR.stays s l) e (g.remI s) d (u:=u) (x:=x) i u1 j;refine⟨a,v',c,e4,k,m.remE s fun b sZ w=>?_,l4,n,p,q⟩;cases y:h.own b<;>grind
end
end
def kA:=@cond_true
def kB:=@cond_false
def kC:=@Trie.YO
def kD:=@Gg
def kE:=@List.append_eq
def kF:=@aj8
def kG:=@aiM
def kH:=@pz
def kI:=@ah7
def kJ:=@alL
def kK:=@beq_self_eq_true
def kL:=@List.filter_nil
def kM:=@ahH
def kN:=@List.contains_cons
def kO:=@List.contains_nil
def kS1:=XC @ag6 (XC @fst_mk (XC @snd_mk (XC @Mc (XC @VK_ret (XC @af3 (XC @VK_seq (XC @akw (XC @qS (XC @af4 (XC @L5 (XC @Fe (XC @Wi (XC @T4 (XC @KN_nil (XC @KN_seq (XC @KN_blk (XC @sn (XC @Vy (XC @Y6 (XC @Kw (XC @zz (XC @acE (XC @J1 (XC @KE_ret (XC @mK (XC @KO_nil (XC @cj (XC @bE (XC @Q2 (XC @HA (XC @aiN (XC @Px (XC @re (XC @OD (XC @EV (XC @NA (XC @ac7 (XC @qL240 (XC @Nat.zero_ne_one (XC @Bool.not_true (XC @qL253 (XC @aeO (XC @Bool.true_beq (XC @Bool.false_beq (XC @beq_true (XC @beq_false (XC @decide_true (XC @decide_false (XC @Bool.not_not (XC @amg (XC @Bool.true_and (XC @Bool.and_false (@Bool.false_and)))))))))))))))))))))))))))))))))))))))))))))))))))))
def kJ1:=XC @ag6 (XC @fst_mk (XC @snd_mk (XC @Mc (XC @VK_ret (XC @af3 (XC @VK_seq (XC @akw (XC @qS (XC @af4 (XC @L5 (XC @Fe (XC @Wi (XC @T4 (XC @KN_nil (XC @KN_blk (XC @sn (XC @Vy (XC @Y6 (XC @Kw (XC @zz (XC @acE (XC @J1 (XC @KE_ret (XC @mK (XC @KO_nil (XC @cj (XC @bE (XC @Q2 (XC @HA (XC @aiN (XC @Px (XC @re (XC @OD (XC @EV (XC @NA (XC @ac7 (XC @qL240 (XC @Nat.zero_ne_one (XC @Bool.not_true (XC @qL253 (XC @aeO (XC @Bool.true_beq (XC @Bool.false_beq (XC @beq_true (XC @beq_false (XC @decide_true (XC @decide_false (XC @Bool.not_not (XC @amg (XC @Bool.true_and (XC @Bool.and_false (@Bool.false_and))))))))))))))))))))))))))))))))))))))))))))))))))))
def kD1:=XC @fRn.eq_1 (XC @fRn.eq_2 (XC @tA.eq_1 (XC @tA.eq_2 (XC @JQ.eq_1 (XC @Bool.or_self (XC @ah9 (XC @KD_done (XC @KD_no (XC @KD_fl (XC @KF1_some (XC @KF2_true (XC @KF2_false (XC @KF3_some (XC @KF4_some (XC @KD_ch (XC @KG1_some (XC @KG2_true (XC @KG2_false (XC @KG3_true (XC @KG3_false (XC @KG4_some (XC @KG5_some (XC @Holds_eq (XC @H1_some (XC @H2_true (XC @H2_false (XC @H3_some (XC @HD_some (XC @HD_none (XC @Bool.or_false (XC @Bool.false_or (XC @Bool.true_or (XC @Bool.or_true (XC @true_and (@and_true)))))))))))))))))))))))))))))))))))
def kS2:=XC @cond_true.{1} (XC @cond_false.{1} (XC @Trie.YO (XC @Gg.{0} (XC @List.append_eq.{0} (XC @aj8.{0} (XC @aiM.{0} (XC @pz.{0} (XC @ah7.{0} (XC @alL.{0,0} (XC @beq_self_eq_true.{0} (XC @aer.eq_1 (XC @aet.eq_1 (XC @ab6.eq_1 (XC @Zm.eq_1 (XC @abr.eq_1 (XC @aa6.eq_1 (XC @aa6.eq_2 (XC @aa6.eq_3 (XC @aa6.eq_4 (XC @acZ.eq_1 (XC @acZ.eq_2 (XC @aeb.eq_1 (XC @aeb.eq_2 (XC @aec.eq_1 (XC @aec.eq_2 (XC @putDst.eq_1 (XC @putDst.eq_2 (XC @flat.eq_1 (XC @flat.eq_2 (XC @flat.eq_3 (XC @flat.eq_4 (XC @flat.eq_5 (XC @flat.eq_6 (XC @flat.eq_7 (XC @flat.eq_8 (XC @flat.eq_9 (XC @aeZ.eq_1 (XC @aeZ.eq_2 (XC @aeZ.eq_3 (XC @aeZ.eq_4 (XC @aeZ.eq_5 (XC @aeZ.eq_6 (XC @aeZ.eq_7 (XC @mM.eq_1 (XC @aci.eq_1 (XC @aci.eq_2 (XC @ae3.eq_1 (XC @ae3.eq_2 (XC @ae3.eq_3 (XC @ae3.eq_4 (XC @ae3.eq_5 (XC @ae3.eq_6 (XC @adY.eq_1 (XC @adY.eq_2 (XC @adY.eq_3 (XC @adY.eq_4 (XC @adY.eq_5 (XC @adY.eq_6 (XC @adY.eq_7 (XC @adY.eq_8 (XC @adY.eq_9 (XC @adY.eq_10 (XC @adY.eq_11 (XC @adY.eq_12 (XC @adY.eq_13 (XC @adY.eq_14 (XC @adY.eq_15 (XC @adY.eq_16 (XC @aUn.eq_1 (XC @aUn.eq_2 (XC @aUn.eq_3 (XC @acy.eq_1 (XC @acy.eq_2 (XC @acy.eq_3 (XC @agk.eq_1 (XC @agk.eq_2 (XC @agk.eq_3 (XC @G8.eq_1 (XC @acD.eq_1 (XC @acf.eq_1 (XC @acf.eq_2 (XC @ad7.eq_1 (XC @ad7.eq_2 (XC @mkF.eq_1 (XC @mkF.eq_2 (XC @Yx.eq_1 (XC @acW.eq_1 (XC @acW.eq_2 (@abt.eq_1)))))))))))))))))))))))))))))))))))))))))))))))))))))))))))))))))))))))))))))))))))))))))
def HO:=XC @kS1 @kS2
def Qg:=XC @kD1 (XC @abj.eq_1 (XC @abj.eq_2 (XC @List.filter_nil.{0} (XC @ahH.{0} (XC @List.contains_cons.{0} @List.contains_nil.{0})))))
def kJJ:=XC @kJ1 @kS2
end Go.Fw
