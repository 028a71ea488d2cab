/- A text. -/
import Derived.OrdersIn
import Derived.Orders
import Derived.Test.YtigllaheamfhaaaGreatFwOps8
set_option linter.all false
set_option maxRecDepth 99999
set_option maxHeartbeats 9999999
open Option renaming some→Z,none→Y
open Bool renaming true→tT,false→fF
open List renaming range→rG
open Go renaming Value→vV
open List
namespace Go.Fw
section
variable{P:Program}{W0:abw}{N:Nat}{ops:Array Oper}{fr:aam}{h:aai}
theorem aM{fr fr':aam}{x:Operand}(a:∀t,x=.tmp t->fr'.get t=fr.get t):aa6 fr' x=aa6 fr x:=by
 cases x with
 |tmp t=>exact a t rfl
 |_=>rfl
theorem YK{fr fr':aam}:∀{l:List Operand},(∀t,Operand.tmp t∈l->fr'.get t=fr.get t)->acZ fr' l=acZ fr l
 |[],_=>rfl
 |x::r,a=>by simp only[acZ];rw[aM (fun t e=>a t (by simp[e])),YK (fun t e=>a t (by simp[e]))]
theorem MU{fr fr':aam}:∀{l:List (Nat×Operand)},(∀t,Operand.tmp t∈l.map (·.2)->fr'.get t=fr.get t)->aeb fr' l=aeb fr l
 |[],_=>rfl
 |(i,x)::r,a=>by simp only[aeb];rw[aM (fun t e=>a t (by simp[e])),MU (fun t e=>a t hGr)]
theorem tt{fr fr':aam}{x:Option Operand}(a:∀t,x=Z (.tmp t)->fr'.get t=fr.get t):aec fr' x=aec fr x:=by
 cases x<;>grind[aec,aM]
theorem qP{o:Oper}{t:Tmp}(h:Operand.tmp t∈o.op.operands.toList):t∈o.looksAt ops:=by unfold Oper.looksAt;grind
theorem yE{fr fr':aam}{o:Oper}(g:∀t,t∈o.looksAt ops->fr'.get t=fr.get t):abr P fr' h o=abr P fr h o:=by
 have d:∀t,Operand.tmp t∈o.op.operands.toList->fr'.get t=fr.get t:=fun t j=>g t (qP j);unfold abr;cases m:o.op<;>rw[m]at d<;>simp only[Op.operands]at d
 case call c=>
  cases c with
  |mk callee args ats=>
   cases callee with
   |builtin b=>simp only[Call.operands]at d;grind[YK]
   |_=>rfl
 case pick c a b=>grind[aM]
 case build t ps=>grind[MU]
 case buildSlice t n ps=>grind[MU]
 case makeFunc f a b=>grind[YK]
 case slice t x l hh mm=>simp only[];rw[aM (x:=x) (fun t e=>d t (by simp[e])),tt (x:=l) (fun t e=>d t (by simp[e])),tt (x:=hh) (fun t e=>d t (by simp[e])),tt (x:=mm) (fun t e=>d t (by simp[e]))]
 case lookup t x i ok=>grind[aM]
 case mapUpdate t x k y=>grind[aM]
 all_goals first
  |rfl
  |(rename_i x;simp only[];rw[aM (x:=x) (fun t e=>d t (by simp[e]))];done)
  |(rename_i _ x;simp only[];rw[aM (x:=x) (fun t e=>d t (by simp[e]))];done)
  |(rename_i x _;simp only[];rw[aM (x:=x) (fun t e=>d t (by simp[e]))];done)
  |(rename_i _ x _;simp only[];rw[aM (x:=x) (fun t e=>d t (by simp[e]))];done)
  |(rename_i _ _ x;simp only[];rw[aM (x:=x) (fun t e=>d t (by simp[e]))];done)
  |(rename_i _ x y;simp only[];rw[aM (x:=x) (fun t e=>d t (by simp[e])),aM (x:=y) (fun t e=>d t (by simp[e]))];done)
  |grind[aM]
theorem Us{fr fr':aam}{o:Oper}(a:∀t,t∈o.looksAt ops->fr'.get t=fr.get t):ab6 ops fr' o=ab6 ops fr o:=by
 unfold ab6;cases hg:o.guard with
 |none=>rfl
 |some p=>
  have⟨j,w⟩:=p;simp only[];cases hd:(ops[j]?).bind (·.dst)with
  |none=>rfl
  |some d=>simp only[];rw[a d (by unfold Oper.looksAt;grind)]
theorem Wf{fr fr':aam}{o:Oper}(b:∀t,t∈o.looksAt ops->fr'.get t=fr.get t):abt fr' o=abt fr o:=by
 have a:∀t,Operand.tmp t∈o.op.operands.toList->fr'.get t=fr.get t:=by grind[qP]
 unfold abt
 cases d:o.op<;>try rfl
 rename_i c;cases c with
 |mk callee args ats=>
  cases callee with
  |value f=>simp only[Op.operands,Call.operands]at a;grind[aM,YK]
  |_=>rfl
inductive DT where
 |done
 |no
 |fl (i:Nat) (t:DT)
 |ch (i:Nat) (pre:II) (t other:DT)
def ze(o:Oper):II:=(o.after.toList.filter fun e=>Region.binds .any e).map (·.on)
def abF(ops:Array Oper)(i:Nat):II:=match ops[i]? with|some o=>ze o|none=>[]
def Y1(ops:Array Oper)(i:Nat):Option Tmp:=match ops[i]? with|some o=>o.dst|none=>Y
def Vz(ops:Array Oper)(i:Nat):List Tmp:=match ops[i]? with|some o=>o.looksAt ops|none=>[]
def isFloat(o:Oper):Bool:=
 match o.op with
 |.move _|.assign _|.pick ..|.load ..|.nilCheck _|.binOp ..|.unOp ..|.makeInterface ..|.makeFunc ..|.slice ..|.fieldAddr ..|.field ..|.indexAddr ..|.index ..|.extract ..|.build ..=>tT
 |.convert _ _ _=>tT
 |.call {callee:=.builtin .len,..}|.call {callee:=.builtin .min,..}|.call {callee:=.builtin .max,..}=>tT
 |_=>fF
def afF(ops:Array Oper)(i:Nat):Bool:=
 match Y1 ops i with
 |some d=>(rG ops.size).all fun j=>!(Vz ops j).contains d||(j !=i&&(abF ops j).contains i)
 |none=>tT
def aoM(ops:Array Oper)(i:Nat):Bool:=
 match ops[i]? with
 |some o=>isFloat o&&afF ops i
 |none=>fF
def xx(ops:Array Oper)(rest:II):II:=rest.filter fun x=>(abF ops x).all fun p=>!rest.contains p
def agt:DT->Bool
 |.no=>fF
 |_=>tT
def isAlt:DT->Bool
 |.no=>tT
 |.ch ..=>tT
 |_=>fF
def aeg(ops:Array Oper):II->II->DT->Bool
  |rest,_,.done=>rest.isEmpty
  |_,cs,.no=>cs.isEmpty
  |rest,_,.fl i t=>rest.contains i&&aoM ops i&&(abF ops i).all (fun p=>!rest.contains p)&&agt t&&aeg ops (rest.filter fun x=>x !=i) (xx ops (rest.filter fun x=>x !=i)) t
  |rest,cs,.ch i pre t other=>rest.contains i&&(abF ops i).all (fun p=>!rest.contains p)&&pre.all (fun q=>(abF ops i).contains q)&&
      agt t&&aeg ops (rest.filter fun x=>x !=i) (xx ops (rest.filter fun x=>x !=i)) t&&isAlt other&&aeg ops rest (cs.filter fun x=>x !=i) other
def ui(ops:Array Oper)(rest:II)(t:DT):Bool:=agt t&&aeg ops rest (xx ops rest) t
def akk(ops:Array Oper)(t:DT):Bool:=
 (rG ops.size).all (fun i=>(abF ops i).all fun p=>Nat.blt p i)&&
 (rG ops.size).all (fun i=>(rG ops.size).all fun j=>i==j||
  match Y1 ops j with
  |some d=>(!(Vz ops i).contains d||(abF ops i).contains j||(abF ops j).contains i)&&Y1 ops i !=Z d
  |none=>tT)&&
 ui ops (rG ops.size) t
def Holds(P:Program)(ops:Array Oper)(fr:aam)(h:aai)(p:Nat):Prop:=
  match ops[p]? with
  |some o=>match ab6 ops fr o with
    |some tT=>∃v,abr P fr h o=Z (v,h)/\∀d,o.dst=Z d->fr.get d=Z v
    |some fF=>∀d,o.dst=Z d->fr.get d=Z Yx
    |none=>False
  |none=>False
def abj(P:Program)(ops:Array Oper)(fr:aam)(h:aai):II->Prop
 |[]=>True
 |p::r=>Holds P ops fr h p/\abj P ops fr h r
def DW(P:Program)(W0:abw)(N:Nat)(ops:Array Oper)(Q:aam->aai->Prop):DT->II->aam->aai->Prop
  |.done,_,fr,h=>Q fr h
  |.no,_,_,_=>True
  |.fl i t,aac,fr,h=>
    match ops[i]? with
    |none=>False
    |some o=>
      match ab6 ops fr o with
      |none=>False
      |some fF=>match putDst N fr o.dst Yx with
        |none=>False
        |some fr'=>DW P W0 N ops Q t (i::aac) fr' h
      |some tT=>match abr P fr h o with
          |none=>False
          |some (v,h')=>h'=h/\match putDst N fr o.dst v with
            |none=>False
            |some fr'=>DW P W0 N ops Q t (i::aac) fr' h
  |.ch i pre t other,aac,fr,h=>
    (match ops[i]? with
    |none=>False
    |some o=>
      match ab6 ops fr o with
      |none=>False
      |some fF=>match putDst N fr o.dst Yx with
        |none=>False
        |some fr'=>DW P W0 N ops Q t (aac.filter fun p=>!pre.contains p) fr' h
      |some tT=>
          match Zm o with
          |true=>∃g args fn c,abt fr o=Z (g,args)/\Good P g fn c/\AC P W0 g args h fun v h'=>∃fr',putDst N fr o.dst v=Z fr'/\
              abj P ops fr' h' (aac.filter fun p=>!pre.contains p)/\DW P W0 N ops Q t (aac.filter fun p=>!pre.contains p) fr' h'
          |false=>match abr P fr h o with
            |none=>False
            |some (v,h')=>match putDst N fr o.dst v with
              |none=>False
              |some fr'=>abj P ops fr' h' (aac.filter fun p=>!pre.contains p)/\DW P W0 N ops Q t (aac.filter fun p=>!pre.contains p) fr' h')/\
    DW P W0 N ops Q other aac fr h
theorem abj.mem{fr:aam}{h:aai}:∀{l:II},abj P ops fr h l->∀p∈l,Holds P ops fr h p
 |[],_,p,a=>by simp at a
 |q::r,hh,p,a=>by
  rcases Og.1 a with rfl|a
  .exact hh.1
  .exact abj.mem hh.2 p a
def acq(fr:aam):List Tmp->aam
 |[]=>fr
 |d::r=>(acq fr r).del d
theorem W6(fr:aam)(k:Nat):∀(l:List Tmp),(acq fr l).get k=if k∈l then Y else fr.get k
 |[]=>by simp[acq]
 |d::r=>by simp only[acq,Trie.Ik,W6 fr k r,Og];grind
def KA(listed:Array Bool)(i:Nat):Bool:=!listed.getD i tT
theorem J3{a:Array Bool}{i j:Nat}(hi:KA a i=tT):KA (a.setIfInBounds i tT) j=(KA a j&&j !=i):=by unfold KA;simp only[kS,qL157];grind
def OT(n:Nat)(a:Array Bool):Nat:=(rG n).countP (KA a)
theorem Hk{p q:Nat->Bool}{i:Nat}:∀{l:II},l.Nodup->i∈l->p i=tT->q i=fF->(∀j,j≠i->q j=p j)->l.countP q+1=l.countP p
 |[],_,h,_,_,_=>by simp at h
 |x::r,a,h,b,c,d=>by
  rw[VU]at a;by_cases e:x=i
  .grind[countP_congr]
  .have hi:i∈r:=hGr;have:=Hk a.2 hi b c d;grind
theorem u7{n i:Nat}{a:Array Bool}(hi:i<n)(b:KA a i=tT):OT n (a.setIfInBounds i tT)+1=OT n a:=by
 refine Hk uV (j3.2 hi) b ?_ ?_
 all_goals grind[J3]
theorem sk{n:Nat}{a:Array Bool}(h:OT n a=0)(i:Nat)(hi:i<n):KA a i=fF:=by grind[OT,countP_eq_zero]
theorem QX{i:Nat}{o:Oper}(h:ops[i]?=Z o):abF ops i=ze o:=by grind[abF]
theorem Rs{i:Nat}{o:Oper}(h:ops[i]?=Z o):Y1 ops i=o.dst:=by grind[Y1]
theorem YZ{i:Nat}{o:Oper}(h:ops[i]?=Z o):Vz ops i=o.looksAt ops:=by grind[Vz]
structure CK (ops:Array Oper):Prop where
 preds:∀i p,i<ops.size->p∈abF ops i->p<i
 pair:∀i j d,i<ops.size->j<ops.size->i≠j->Y1 ops j=Z d->(d∈Vz ops i->j∈abF ops i\/i∈abF ops j)/\Y1 ops i≠Z d
theorem CK.of{t:DT}(h:akk ops t=tT):CK ops/\ui ops (rG ops.size) t=tT:=by simp only[akk,rY,fj,j3,beq_iff_eq,Dj,aku,Nat.blt_eq]at h;have⟨⟨c,e⟩,a⟩:=h;refine⟨⟨hGr,fun i j d hi f b hd=>?_⟩,a⟩;grind
theorem apQ{rest:II}{x:Nat}:x∈xx ops rest↔x∈rest/\∀p∈abF ops x,p∉rest:=by grind[xx]
structure Inv (P:Program) (N:Nat) (ops:Array Oper) (rest aac:II) (fr:aam) (h:aai) (listed:Array Bool):Prop where
 every:∀i,i<ops.size->KA listed i=tT->i∈aac\/i∈rest
 Cf:∀i∈rest,KA listed i=tT/\i<ops.size
 ahr:∀p∈aac,p<ops.size/\p∉rest/\(∀q∈abF ops p,q∉rest)/\(∀d,Y1 ops p=Z d->d<N)/\afF ops p=tT
 holds:∀p∈aac,KA listed p=tT->Holds P ops fr h p
def BG(ops:Array Oper)(aac:II)(a:Array Bool):List Tmp:=(aac.filter (KA a)).filterMap (Y1 ops)
theorem WN{aac:II}{a:Array Bool}{t:Tmp}:t∈BG ops aac a↔∃p∈aac,KA a p=tT/\Y1 ops p=Z t:=by grind[BG]
theorem agq{fr fr':aam}{d:Option Tmp}{v:vV}(h:putDst N fr d v=Z fr'):(∀k,d≠Z k->fr'.get k=fr.get k)/\∀k,d=Z k->fr'.get k=Z v/\k<N:=by
 cases d<;>grind[putDst,Trie.bR,Trie.Xw]
theorem Holds.congr{fr fr':aam}{h:aai}{p:Nat}(hh:Holds P ops fr h p)(a:∀t∈Vz ops p,fr'.get t=fr.get t)(hd:∀d,Y1 ops p=Z d->fr'.get d=fr.get d):Holds P ops fr' h p:=by
 unfold Holds at*;cases c:ops[p]? with
 |none=>grind
 |some o=>
  rw[c]at hh;simp only[]at hh ⊢;rw[YZ c]at a;rw[Rs c]at hd;rw[Us a];cases hw:ab6 ops fr o with
  |none=>grind
  |some b=>
   rw[hw]at hh;cases b with
   |false=>grind
   |true=>have⟨v,e,h2⟩:=hh;exact⟨v,by rw[yE a];exact e,hGr⟩
theorem Inv.absorb{rest aac:II}{fr fr':aam}{h:aai}{g:Array Bool}{i:Nat}{o:Oper}{v:vV}(ok:CK ops)(l:Inv P N ops rest aac fr h g)(m:i∈rest)(n:∀p∈abF ops i,p∉rest)(A:ops[i]?=Z o)(u:afF ops i=tT)(w:putDst N fr o.dst v=Z fr')(y:Holds P ops fr' h i):
  Inv P N ops (rest.filter fun x=>x !=i) (i::aac) fr' h g:=by
 have⟨k,z⟩:=agq w;have hi:=l.Cf i m;have r:∀x,x∈rest.filter (fun x=>x !=i)↔x∈rest/\x≠i:=fun x=>by simp
 refine⟨fun j B s=>?_,(by grind[Inv.Cf]),fun p f=>?_,fun p f s=>?_⟩
 .grind[Inv.every]
 .rcases Og.1 f with rfl|f
  .grind[Rs]
  .obtain⟨a,b,c,d⟩:=l.ahr p f;grind
 .rcases Og.1 f with rfl|f
  .exact y
  .obtain⟨a,b,c,_⟩:=l.ahr p f;have q:p≠i:=hGr;refine(l.holds p f s).congr (fun t C=>k t fun e=>?_) (fun d hd=>k d fun e=>?_)
   .grind[afF,Rs]
   .exact(ok.pair i p d hi.2 a (EH q) hd).2 (by grind[Rs])
theorem SI{a:Array Bool}{q:Nat}(hs:q<a.size)(h:KA a q=fF):a.getD q fF=tT:=by grind[KA]
theorem zG{a:Array Bool}{i:Nat}(h:i∈Region.ready .any ops a):KA a i=tT/\i<ops.size/\∃o,ops[i]?=Z o/\∀q∈ze o,KA a q=fF:=by grind[Go.mem_ready,KA,ze]
theorem QS{a:Array Bool}(ok:CK ops)(hs:a.size=ops.size)(h:Region.ready .any ops a=[]):∀i,i<ops.size->KA a i=fF:=by
 intro i
 induction i using Nat.strongRecOn with
 |_ i b=>
  intro hi;cases c:KA a i with
  |false=>rfl
  |true=>
   have:i∈Region.ready .any ops a:=by
    refine mem_ready.2 ⟨by grind[KA],ops[i],ahD hi,fun e d hb=>?_⟩;have f:e.on∈abF ops i:=by rw[QX (ahD hi)];grind[ze]
    grind[CK.preds,SI]
   grind
theorem PV{m:abd}{n:Nat}{o:Oper}{fr c:aam}{tmps:Array vV}{b:Bool}(F:FR n m c tmps)(d:∀t∈o.looksAt ops,c.get t=fr.get t)(hw:ab6 ops fr o=Z b):
  Region.wanted o (yielded ops tmps)=b:=
 tz (a:=⟨tmps,[]⟩) F (by grind[Us])
theorem Bz{p j:Nat}{d:Tmp}(h:afF ops p=tT)(hd:Y1 ops p=Z d)(a:j<ops.size)(b:d∈Vz ops j):j≠p/\p∈abF ops j:=by grind[afF]
theorem St.fill{f:Cx}{m e:abd}{b c:aam}{h h':aai}{a:Act}{w w':World}(s:St W0 f N m b h a w)(R':Rel (W0.add f.ex) e h' w')(g:ZK h.next m e)(j:h.next<=h'.next){d:Option Tmp}{v v':vV}(l:VR h'.next e v v')(hf:∀k u,c.get k=Z u->(d=Z k/\u=v/\k<N)\/(d≠Z k/\b.get k=Z u)):St W0 f N e c h' (a.put d v') w':=by
 have F:=s.frame.mono j g;refine⟨R',fun k u n=>?_,?_,?_,?_⟩
 .rcases hf k u n with⟨rfl,rfl,o⟩|⟨hd,hg⟩
  .exact⟨v',by simp[Act.put,s.size,o],l⟩
  .obtain⟨u',i,h2⟩:=F k u hg;refine⟨u',?_,h2⟩;cases d with
   |none=>exact i
   |some d=>have:d≠k:=hGr;simp[Act.put,this,i]
 .cases d<;>exact s.defers
 .cases d<;>simp[Act.put,s.size]
 .exact s.round
theorem call_wp{k:Cx}{nn:Nat}{m:abd}{fr:aam}{h:aai}{a:Act}{w:World}(s:St W0 k N m fr h a w){o:Oper}{g:FuncId}{args:xLV}{fn:Func}{c:Code}(d:abt fr o=Z (g,args))(hg:Good P g fn c){R:vV->aai->Prop}(u:AC P W0 g args h R){r:Act->World->Prop}{K:Exit->Act->World->Prop}(D:∀v v' l h' w',ZK h.next m l->h.next<=h'.next->Rel (W0.add k.ex) l h' w'->VR h'.next l v v'->R v h'->r (a.put o.dst v') w'):o.wpIn (Xc k.ro) nn P a w r K:=by
 unfold abt at d;split at d
 .rename_i f as ats n;split at d
  .rename_i t first cap vs hf p
   injection d with d;simp only[jf]at d;obtain⟨rfl,rfl⟩:=d;have i:=Ns s.frame hf;have y:=PZ s.frame p;refine ph hGr ?_
   have key:∃b cap',a.eval f=.func (.func t) b cap'/\AK h.next m first.toList b.toList/\AK h.next m cap.toList cap'.toList:=by
    generalize a.eval f=x at i;cases i with
    |flat hf=>grind[flat]
    |func E h2 h3 F=>exact⟨_,_,rfl,⟨hGr,hGr⟩,⟨hGr,hGr⟩⟩
   have⟨b,cap',q,z,A⟩:=key
   have j:(execOp a.eval o).run P w=.ok (.enter t ((b.toList++as.toList.map a.eval++cap'.toList).toArray)) w:=by
    have B:(b++as.map a.eval++cap')=(b.toList++as.toList.map a.eval++cap'.toList).toArray:=by simp
    simp only[execOp,n,resolve,q,Deferred.ofValue,Sem.run_bind,Sem.run_pure,Result.andThen_ok,invoke,callFunc,run_program,hg.func,hg.name,acg,if_false,hg.body,Ex,B]
   rw[j]
   have e:=u k.ex m w (b.toList++as.toList.map a.eval++cap'.toList) s.rel (by grind[AK.append])
   refine⟨(fun C=>by cases C),qN (e.mono ?_)⟩;grind
  .cases d
 .cases d
theorem YF{g:Cx}{nn:Nat}{Q:aam->aai->Prop}{K:Exit->Act->World->Prop}{fuel:Nat}(T:∀(t:DT)(rest aac:II)(fr:aam)(h:aai)(b:Array Bool)(m:abd)(a:Act)(w:World),
   OT ops.size b=fuel->b.size=ops.size->Inv P N ops rest aac fr h b->ui ops rest t=tT->DW P W0 N ops Q t aac fr h->St W0 g N m (acq fr (BG ops aac b)) h a w->
   (∀l fr' h' a' w',ZK h.next m l->h.next<=h'.next->St W0 g N l fr' h' a' w'->Q fr' h'->K .normal a' w')->wpAnyIn (Xc g.ro) nn P .any ops K fuel b a w){t:DT}{rest aac:II}{fr:aam}{h:aai}{b:Array Bool}{m:abd}{a:Act}{w:World}(hc:OT ops.size b=fuel+1)(hs:b.size=ops.size)(r:Inv P N ops rest aac fr h b)(x:ui ops rest t=tT)(U:DW P W0 N ops Q t aac fr h)(s:St W0 g N m (acq fr (BG ops aac b)) h a w)(V:∀l fr' h' a' w',ZK h.next m l->h.next<=h'.next->St W0 g N l fr' h' a' w'->Q fr' h'->K .normal a' w'){j:Nat}(W:j∈Region.ready .any ops b)(y:j∈aac):wpOpIn (Xc g.ro) nn P ops K j (wpAnyIn (Xc g.ro) nn P .any ops K fuel (b.setIfInBounds j tT)) a w:=by
 obtain⟨X,B,o,L,M⟩:=zG W;have C:OT ops.size (b.setIfInBounds j tT)=fuel:=by grind[u7]
 have hs':(b.setIfInBounds j tT).size=ops.size:=hGr;have aa:j∉rest:=(r.ahr j y).2.1;have D:Inv P N ops rest aac fr h (b.setIfInBounds j tT):=by
  refine⟨fun i hi ae=>?_,fun i hi=>⟨?_,(r.Cf i hi).2⟩,r.ahr,fun p O E=>?_⟩
  .grind[J3,Inv.every]
  .grind[J3,Inv.Cf]
  grind[J3,Inv.holds]
 have c:∀t∈o.looksAt ops,(acq fr (BG ops aac b)).get t=fr.get t:=by intro t ht;rw[W6,abE];intro hh;obtain⟨p,O,E,F⟩:=WN.1 hh;obtain⟨_,_,_,_,G⟩:=r.ahr p O;obtain⟨ag,R⟩:=Bz G F B (by grind[YZ]);grind[QX]
 have f:∀v,(∀d,o.dst=Z d->fr.get d=Z v)->∀k u,(acq fr (BG ops aac (b.setIfInBounds j tT))).get k=Z u->
   (o.dst=Z k/\u=v/\k<N)\/(o.dst≠Z k/\(acq fr (BG ops aac b)).get k=Z u):=by
  intro v S k u n;rw[W6]at n;split at n
  .cases n
  .by_cases hd:o.dst=Z k
   .grind[Inv.ahr,Rs]
   grind[W6,WN,J3,Rs]
 have q:=r.holds j y X;unfold Holds at q;rw[L]at q;simp only[]at q;unfold wpOpIn;rw[L];simp only[];split at q
 .rename_i hw;obtain⟨v,z,H⟩:=q;rw[abe (PV s.frame c hw)];obtain⟨l,v',w',e,R',A,I,S⟩:=ae4 (P:=P) (a:=a) s.rel s.frame (by rw[yE c];exact z);have s':=s.fill R' A I S (f v H);have:=T t rest aac fr h _ l (a.put o.dst v') w' C hs' D x U s' fun m2 J h2 a2 w2 e1 e2 e3 e4=>V m2 J h2 a2 w2 (A.trans e1 I) (jz I e2) e3 e4;refine ph (Nw z) ?_;rcases e with e|⟨e,rfl⟩<;>rw[e]<;>exact this
 .rename_i hw;rw[abE (by rw[PV s.frame c hw];simp)];have s':=s.fill s.rel (.refl _ _) (qL0 _) (v:=Yx) (v':=undef) (.tuple rfl hGr) (f Yx q);refine⟨fun _ _=>trivial,?_⟩;grind
 grind
theorem draw_do{D:Cx}{nn:Nat}(ok:CK ops){Q:aam->aai->Prop}{K:Exit->Act->World->Prop}{fuel:Nat}(ih:∀(t:DT)(rest aac:II)(fr:aam)(h:aai)(b:Array Bool)(m:abd)(a:Act)(w:World),
   OT ops.size b=fuel->b.size=ops.size->Inv P N ops rest aac fr h b->ui ops rest t=tT->DW P W0 N ops Q t aac fr h->St W0 D N m (acq fr (BG ops aac b)) h a w->
   (∀C fr' h' a' w',ZK h.next m C->h.next<=h'.next->St W0 D N C fr' h' a' w'->Q fr' h'->K .normal a' w')->wpAnyIn (Xc D.ro) nn P .any ops K fuel b a w){t other:DT}{j:Nat}{pre:II}{rest aac:II}{fr:aam}{h:aai}{b:Array Bool}{m:abd}{a:Act}{w:World}(hc:OT ops.size b=fuel+1)(hs:b.size=ops.size)(H:Inv P N ops rest aac fr h b)(aj:j∈rest)(R:∀q∈pre,q∈abF ops j)(z:ui ops (rest.filter fun x=>x !=j) t=tT)(i:DW P W0 N ops Q (.ch j pre t other) aac fr h)(s:St W0 D N m (acq fr (BG ops aac b)) h a w)(hK:∀C fr' h' a' w',ZK h.next m C->h.next<=h'.next->St W0 D N C fr' h' a' w'->Q fr' h'->K .normal a' w')(hj:j∈Region.ready .any ops b):wpOpIn (Xc D.ro) nn P ops K j (wpAnyIn (Xc D.ro) nn P .any ops K fuel (b.setIfInBounds j tT)) a w:=by
 obtain⟨hu,S,o,ho,ag⟩:=zG hj;have ai:∀x,x∈rest.filter (fun x=>x !=j)↔x∈rest/\x≠j:=fun x=>by simp
 have I:OT ops.size (b.setIfInBounds j tT)=fuel:=by grind[u7]
 have hs':(b.setIfInBounds j tT).size=ops.size:=hGr;have al:∀p∈aac,p≠j:=by grind[Inv.ahr]
 have T:∀p∈aac,KA b p=tT->p∈aac.filter fun p=>!pre.contains p:=by grind[QX]
 have f:∀t∈o.looksAt ops,(acq fr (BG ops aac b)).get t=fr.get t:=by intro t ht;rw[W6,abE];intro hh;obtain⟨p,n,A,aq⟩:=WN.1 hh;obtain⟨_,_,_,_,ar⟩:=H.ahr p n;grind[Bz,YZ,QX]
 have hinv:∀fr' h',(∀p∈aac.filter (fun p=>!pre.contains p),KA (b.setIfInBounds j tT) p=tT->Holds P ops fr' h' p)->Inv P N ops (rest.filter fun x=>x !=j) (aac.filter fun p=>!pre.contains p) fr' h' (b.setIfInBounds j tT):=by
  intro fr' h' r;refine⟨fun i' U av=>?_,fun i' U=>⟨?_,(H.Cf i' hGr).2⟩,fun p n=>?_,r⟩
  .grind[J3,Inv.every]
  .grind[J3,Inv.Cf]
  .obtain⟨a1,a2,a3,a4,a5⟩:=H.ahr p (K4.1 n).1;grind
 have l:∀{v:vV}{fr':aam},putDst N fr o.dst v=Z fr'->∀k u,(acq fr' (BG ops (aac.filter fun p=>!pre.contains p) (b.setIfInBounds j tT))).get k=Z u->
   (o.dst=Z k/\u=v/\k<N)\/(o.dst≠Z k/\(acq fr (BG ops aac b)).get k=Z u):=by
  intro v fr' n k u E;obtain⟨F,V⟩:=agq n;rw[W6]at E;split at E
  .cases E
  grind[W6,WN,J3]
 simp only[DW,ho]at i;replace i:=i.1;unfold wpOpIn;rw[ho];simp only[];split at i
 .exact i.elim
 .rename_i hw;rw[abE (by rw[PV s.frame f hw];simp)];split at i
  .exact i.elim
  .rename_i fr' n;obtain⟨F,V⟩:=agq n;have s':=s.fill s.rel (.refl _ _) (qL0 _) (v:=Yx) (v':=undef) (.tuple rfl hGr) (l n);refine⟨fun _ _=>trivial,ih t _ _ fr' h _ m _ w I hs' (hinv fr' h fun p W A=>?_) z i s' hK⟩;rw[J3 hu]at A;simp at A;have J:=(K4.1 W).1;obtain⟨a1,a2,a3,_⟩:=H.ahr p J;refine(H.holds p J A.1).congr (fun t ht=>F t fun e=>?_) (fun d hd=>F d fun e=>?_)
   .grind[CK.pair,Rs,QX]
   .exact(ok.pair j p d S a1 (EH A.2) hd).2 (by grind[Rs])
 .rename_i hw;rw[abe (PV s.frame f hw)];split at i
  .obtain⟨g,args,fn,c,X,G,aa⟩:=i;refine call_wp s (by rw[Wf f];exact X) G aa ?_;rintro v v' C h' w' B L R' hv ⟨fr',n,r,M⟩;have s':=s.fill R' B L hv (l n);grind[abj.mem,ZK.trans]
  .split at i
   .exact i.elim
   .rename_i v h' O;split at i
    .exact i.elim
    .rename_i fr' n;obtain⟨r,M⟩:=i;obtain⟨C,v',w',y,R',B,L,hv⟩:=ae4 (P:=P) (a:=a) s.rel s.frame (by rw[yE f];exact O);have s':=s.fill R' B L hv (l n);have:=ih t _ _ fr' h' _ C (a.put o.dst v') w' I hs' (hinv fr' h' fun p n _=>r.mem p n) z M s' fun m2 ae h2 a2 w2 e1 e2 e3 e4=>hK m2 ae h2 a2 w2 (B.trans e1 L) (jz L e2) e3 e4;refine ph (Nw O) ?_;rcases y with y|⟨y,rfl⟩<;>rw[y]<;>exact this
theorem alt_find{Q:aam->aai->Prop}{rest aac:II}{fr:aam}{h:aai}{j:Nat}:∀{t:DT}{cs:II},j∈cs->aeg ops rest cs t=tT->DW P W0 N ops Q t aac fr h->isAlt t=tT->
  ∃pre a other,(∀q∈pre,q∈abF ops j)/\ui ops (rest.filter fun x=>x !=j) a=tT/\DW P W0 N ops Q (.ch j pre a other) aac fr h:=by
 intro t
 induction t with
 |done=>intro cs _ _ _ ha;cases ha
 |fl i t _=>intro cs _ _ _ ha;cases ha
 |no=>grind[aeg]
 |ch i pre t other _ b=>grind[aeg,ui,DW]
theorem apR{G:Cx}{nn:Nat}(ok:CK ops){Q:aam->aai->Prop}{K:Exit->Act->World->Prop}:∀(fuel:Nat)(t:DT)(rest aac:II)(fr:aam)(h:aai)(b:Array Bool)(m:abd)(a:Act)(w:World),
  OT ops.size b=fuel->b.size=ops.size->Inv P N ops rest aac fr h b->ui ops rest t=tT->DW P W0 N ops Q t aac fr h->St W0 G N m (acq fr (BG ops aac b)) h a w->
  (∀U fr' h' a' w',ZK h.next m U->h.next<=h'.next->St W0 G N U fr' h' a' w'->Q fr' h'->K .normal a' w')->
  wpAnyIn (Xc G.ro) nn P .any ops K fuel b a w:=by
 intro fuel
 induction fuel with
 |zero=>
  intro t
  induction t with
  |no=>grind[ui,agt]
  |done=>
   intro rest aac fr h b m a w l hs g d c s q;have n:=sk l;have hh:BG ops aac b=[]:=by apply qH.2;intro t d;have⟨p,r,B,_⟩:=WN.1 d;rw[n p (g.ahr p r).1]at B;cases B
   rw[hh]at s;refine⟨?_,q m fr h a w (.refl _ _) (qL0 _) s c⟩;apply qH.2;intro i hi;have⟨V,h2,_⟩:=zG hi;grind
  |fl i t _=>intro rest aac fr h b m a w l hs g d c s q;have n:=sk l;simp only[ui,aeg,rY,aku,vg]at d;have:=g.Cf i d.2.1.1.1.1;grind
  |ch i pre t other _ _=>intro rest aac fr h b m a w l hs g d c s q;have n:=sk l;simp only[ui,aeg,rY,aku,vg]at d;have:=g.Cf i d.2.1.1.1.1.1.1;grind
 |succ fuel I=>
  intro t
  induction t with
  |no=>grind[ui,agt]
  |done=>
   intro rest aac fr h b m a w l hs g d c s q;have J:rest=[]:=by grind[ui,aeg]
   refine⟨fun hr=>?_,fun j C=>?_⟩
   .grind[QS,OT,List.countP_eq_zero]
   .obtain⟨B,y,_⟩:=zG C;rcases g.every j y B with z|D
    .exact YF I l hs g d c s q C z
    grind
  |fl i t ae=>
   intro rest aac fr h b m a w l hs g d c s q;simp only[ui,aeg,rY,aku,vg]at d;obtain⟨_,⟨⟨⟨L,ag⟩,ai⟩,W⟩,e⟩:=d;have M:ui ops (rest.filter fun x=>x !=i) t=tT:=by grind[ui]
   have O:∀p∈abF ops i,p∉rest:=fun p r=>by grind
   have hi:=g.Cf i L;have R:ops[i]?=Z ops[i]:=ahD hi.2;generalize ops[i]'hi.2=o at R
   have aj:afF ops i=tT:=by grind[aoM]
   have S:∀{fr':aam}{v:vV},putDst N fr o.dst v=Z fr'->St W0 G N m (acq fr' (BG ops (i::aac) b)) h a w:=by intro fr' v r;have⟨E,F⟩:=agq r;refine⟨s.rel,fun k u hk=>s.frame k u ?_,s.defers,s.size,s.round⟩;grind[W6,WN,Rs]
   simp only[DW,R]at c;split at c
   .exact c.elim
   .rename_i hw;split at c
    .exact c.elim
    .rename_i fr' r;have⟨E,F⟩:=agq r;have f:∀t∈o.looksAt ops,fr'.get t=fr.get t:=by grind[Bz,Rs,YZ]
     have hH:Holds P ops fr' h i:=by grind[Holds,Us]
     grind[Inv.absorb]
   .rename_i hw;split at c
    .exact c.elim
    .rename_i v h' T;obtain⟨rfl,c⟩:=c;split at c
     .exact c.elim
     .rename_i fr' r;have⟨E,F⟩:=agq r;have f:∀t∈o.looksAt ops,fr'.get t=fr.get t:=by grind[Bz,Rs,YZ]
      have hH:Holds P ops fr' h' i:=by unfold Holds;rw[R];simp only[];rw[Us f,hw];exact⟨v,by rw[yE f];exact T,hGr⟩
      grind[Inv.absorb]
  |ch i pre t other _ _=>
   intro rest aac fr h b m a w l hs g d c s q;refine⟨fun hr=>?_,fun j C=>?_⟩
   .grind[QS,OT,List.countP_eq_zero]
   .obtain⟨B,y,oj,al,X⟩:=zG C;rcases g.every j y B with z|D
    .exact YF I l hs g d c s q C z
    .have A:j∈xx ops rest:=by grind[apQ,QX,Inv.Cf]
     have e:=d;simp only[ui,rY]at e;have⟨aa,t',H,V,h2,h3⟩:=alt_find A e.2 c rfl;exact draw_do ok I l hs g D V h2 h3 s q C
theorem ud.draw{i:Nat}{ol:List Oper}{Q:Exit->aam->aai->Prop}(f:P.follows .mixedOrders=tT)(t:DT)(c:akk ol.toArray t=tT)(hd:DW P W0 N ol.toArray (Q .normal) t [] fr h):ud P W0 N (.region i ol.toArray tT) fr h Q:=by
 intro g nn m a w s K k;have⟨ok,b⟩:=CK.of c;refine wpIn_region_any f ?_;have l:∀j,j<ol.toArray.size->KA (Array.replicate ol.toArray.size fF) j=tT:=by intro j q;have d:j<ol.length:=hGr;simp[KA,kS,d]
 have s0:St W0 g N m (acq fr (BG ol.toArray [] (Array.replicate ol.toArray.size fF))) h a w.drew:=⟨s.rel.drew,s.frame,s.defers,s.size,s.round⟩;refine apR ok ol.toArray.size t (rG ol.toArray.size) [] fr h (Array.replicate ol.toArray.size fF) m a w.drew ?_ Ma ?_ b hd s0 ?_
 .grind[OT,countP_eq_length]
 .refine⟨hGr,hGr,hGr,hGr⟩
 .intro n fr' h' a' w' e o s' p;exact k [] .normal n fr' h' a' w' e o s'.nil p
def onO{α:Type}(x:Option α)(f:α->Prop):Prop:=
 match x with
 |some a=>f a
 |none=>False
def Vm(b:Bool)(p q:Prop):Prop:=
 match b with
 |true=>p
 |false=>q
def yF(p q:Prop):Vm tT p q=p:=rfl
theorem adM{α:Type}{x:Option α}{f:α->Prop}:onO x f↔∃a,x=Z a/\f a:=by
 cases x<;>simp[onO]
def cD(P:Program)(W0:abw)(N:Nat)(o:Oper)(fr:aam)(h:aai)(K:aam->aai->Prop):Prop:=∃g args fn c,abt fr o=Z (g,args)/\Good P g fn c/\AC P W0 g args h fun v h'=>onO (putDst N fr o.dst v) fun fr'=>K fr' h'
def RNext(N:Nat)(o:Oper)(fr:aam)(h:aai)(K:aam->aai->Prop):Prop:=
 ∃b r k s l es,aok fr h o=Z (b,r,k,s,l,es)/\es.length<=k/\k<=l/\
  (∀i key val,es[i]?=Z (key,val)->i∉s->onO (putDst N fr o.dst (.tuple #[.bool tT,key,val])) fun fr'=>K fr' (h.put b (.iter r k (s++[i]) es.length)))/\
  ((∀i,i<es.length->i∈s)->onO (putDst N fr o.dst (.tuple #[.bool fF])) fun fr'=>K fr' h)
def IH(P:Program)(W0:abw)(N:Nat)(o:Oper)(fr:aam)(h:aai)(K:aam->aai->Prop):Prop:=cD P W0 N o fr h K\/RNext N o fr h K\/∃d args,yieldOf fr o=Z (d,args)/\AY P W0 d args h fun v h'=>onO (putDst N fr o.dst v) fun fr'=>K fr' h'
def aeG(P:Program)(W0:abw)(N:Nat)(ops:Array Oper)(Q:aam->aai->Prop):List Oper->aam->aai->Prop
 |[],fr,h=>Q fr h
 |o::r,fr,h=>
  onO (ab6 ops fr o) fun w=>
   Vm w
    (Vm (Zm o) (IH P W0 N o fr h (aeG P W0 N ops Q r))
     (onO (abr P fr h o) fun p=>onO (putDst N fr o.dst p.1) fun fr'=>aeG P W0 N ops Q r fr' p.2))
    (onO (putDst N fr o.dst Yx) fun fr'=>aeG P W0 N ops Q r fr' h)
def aeG.sound{Q:aam->aai->Prop}:∀{l:List Oper}{fr:aam}{h:aai},aeG P W0 N ops Q l fr h->ML P W0 N ops l fr h Q
 |[],fr,h,q=>.nil q
 |o::r,fr,h,q=>by
  simp only[aeG]at q;have⟨w,hw,q⟩:=adM.1 q;cases w with
  |false=>have⟨fr',d,q⟩:=adM.1 q;exact .skip hw d (aeG.sound q)
  |true=>
   simp only[yF]at q;cases n:Zm o with
   |true=>
    rw[n]at q;rcases q with⟨g,args,fn,c,f,hg,ha⟩|⟨b,A,k,s,l,es,p,u,x,y,h2⟩|⟨B,args,z,ha⟩
    .exact .call hw f hg (ha.mono fun v h' e=>let⟨fr',d,e⟩:=adM.1 e;⟨fr',d,aeG.sound e⟩)
    .exact .next hw p u x (fun i key val hi m=>let⟨fr',d,q⟩:=adM.1 (y i key val hi m);⟨fr',d,aeG.sound q⟩) fun ha=>let⟨fr',d,q⟩:=adM.1 (h2 ha);⟨fr',d,aeG.sound q⟩
    .exact .yield hw z (ha.mono fun v h' e=>let⟨fr',d,e⟩:=adM.1 e;⟨fr',d,aeG.sound e⟩)
   |false=>rw[n]at q;have⟨⟨v,h'⟩,hs,q⟩:=adM.1 q;have⟨fr',d,q⟩:=adM.1 q;exact .step hw hs d (aeG.sound q)
def WF(h:aai):Prop:=∀i,h.own i≠Y->i<h.next
def AC.wf{f:FuncId}{args:xLV}{R:vV->aai->Prop}(e:WF h->AC P W0 f args h R):AC P W0 f args h R:=fun ex m w d r g=>e r.lt ex m w d r g
def ud.wf{c:Code}{Q:Exit->aam->aai->Prop}(d:WF h->ud P W0 N c fr h Q):ud P W0 N c fr h Q:=fun e nn m a w s K f=>d s.rel.lt e nn m a w s K f
def AC.post{f:FuncId}{args:xLV}{R:vV->aai->Prop}(e:AC P W0 f args h R):AC P W0 f args h fun v h'=>WF h'/\R v h':=fun ex m w d r g=>(e ex m w d r g).mono fun _ _ ⟨v,v',k,h',l,h2,h3,n,p,q⟩=>⟨v,v',k,h',l,h2,h3,n,p,h2.lt,q⟩
def rZ{o:Oper}{g:FuncId}{args:xLV}{fn:Func}{c:Code}{R:vV->aai->Prop}{K:aam->aai->Prop}(d:abt fr o=Z (g,args))(hg:Good P g fn c)(ha:AC P W0 g args h R)(e:∀v h',WF h'->R v h'->onO (putDst N fr o.dst v) fun fr'=>K fr' h'):cD P W0 N o fr h K:=
 ⟨g,args,fn,c,d,hg,ha.post.mono fun v h' ⟨hw,f⟩=>e v h' hw f⟩
def vseq(y:aam->aai->Prop)(Q:Exit->aam->aai->Prop):Exit->aam->aai->Prop
 |.normal,fr,h=>y fr h
 |e,fr,h=>Q e fr h
def onV(x:Option vV)(p q:Prop):Prop:=
 match x with
 |some (.bool b)=>Vm b p q
 |_=>False
def VC(P:Program)(W0:abw)(N:Nat):Code->(Exit->aam->aai->Prop)->aam->aai->Prop
 |.skip,Q,fr,h=>Q .normal fr h
 |.ret,Q,fr,h=>Q .ret fr h
 |.exit i,Q,fr,h=>Q (.exit i) fr h
 |.seq a b,Q,fr,h=>VC P W0 N a (vseq (VC P W0 N b Q) Q) fr h
 |.block i a,Q,fr,h=>VC P W0 N a (agj i Q) fr h
 |.region _ ops fF,Q,fr,h=>aeG P W0 N ops (Q .normal) ops.toList fr h
 |.cond c a b,Q,fr,h=>onV (aa6 fr c) (VC P W0 N a Q fr h) (VC P W0 N b Q fr h)
 |c,Q,fr,h=>ud P W0 N c fr h Q
def VC.sound:∀{c:Code}{Q:Exit->aam->aai->Prop}{fr:aam}{h:aai},VC P W0 N c Q fr h->ud P W0 N c fr h Q:=by
 intro c
 induction c with
 |skip=>intro Q fr h q;exact .skip q
 |ret=>intro Q fr h q;exact .ret q
 |exit i=>intro Q fr h q;exact .exit q
 |seq a b f g=>
  intro Q fr h q;refine .seq ((f q).mono fun e fr h k=>?_);cases e with
  |normal=>exact g k
  |_=>exact k
 |block i a f=>intro Q fr h q;exact .block (f q)
 |region i ops d=>
  intro Q fr h q;cases d with
  |false=>have⟨l⟩:=ops;exact .region (aeG.sound q)
  |true=>exact q
 |cond c a b f g=>
  intro Q fr h q;simp only[VC]at q;unfold onV at q;split at q
  .rename_i t m;refine .cond m (fun e=>?_) (fun e=>?_)
   .subst e;exact f q
   .subst e;exact g q
  .exact q.elim
 |loop c=>intro Q fr h q;exact q
 |rangeFunc=>intro Q fr h q;exact q
 |scope c=>intro Q fr h q;exact q
 |label l=>intro Q fr h q;exact q
 |goto l=>intro Q fr h q;exact q
 |refuse w=>intro Q fr h q;exact q
inductive Kt where
 |seq (c:Code)
 |blk (i:Nat)
def KE(P:Program)(W0:abw)(N:Nat)(R:Exit->aam->aai->Prop):List Kt->Exit->aam->aai->Prop
 |[]=>R
 |.seq c::ks=>vseq (VC P W0 N c (KE P W0 N R ks)) (KE P W0 N R ks)
 |.blk i::ks=>agj i (KE P W0 N R ks)
def VK(P:Program)(W0:abw)(N:Nat)(c:Code)(ks:List Kt)(R:Exit->aam->aai->Prop)(fr:aam)(h:aai):Prop:=VC P W0 N c (KE P W0 N R ks) fr h
def KN(P:Program)(W0:abw)(N:Nat)(ks:List Kt)(R:Exit->aam->aai->Prop)(fr:aam)(h:aai):Prop:=KE P W0 N R ks .normal fr h
def KX(P:Program)(W0:abw)(N:Nat)(e:Exit)(ks:List Kt)(R:Exit->aam->aai->Prop)(fr:aam)(h:aai):Prop:=KE P W0 N R ks e fr h
def KO(P:Program)(W0:abw)(N:Nat)(ops:Array Oper)(ks:List Kt)(R:Exit->aam->aai->Prop)(l:List Oper)(fr:aam)(h:aai):Prop:=aeG P W0 N ops (KE P W0 N R ks .normal) l fr h
def KO1(P:Program)(W0:abw)(N:Nat)(ops:Array Oper)(ks:List Kt)(R:Exit->aam->aai->Prop)(o:Oper)(l:List Oper)(fr:aam)(h:aai)(w:Option Bool):Prop:=
 onO w fun w=>
   Vm w
    (Vm (Zm o) (IH P W0 N o fr h (aeG P W0 N ops (KE P W0 N R ks .normal) l))
     (onO (abr P fr h o) fun p=>onO (putDst N fr o.dst p.1) fun fr'=>aeG P W0 N ops (KE P W0 N R ks .normal) l fr' p.2))
    (onO (putDst N fr o.dst Yx) fun fr'=>aeG P W0 N ops (KE P W0 N R ks .normal) l fr' h)
def lU(P:Program)(W0:abw)(N:Nat)(ops:Array Oper)(ks:List Kt)(R:Exit->aam->aai->Prop)(o:Oper)(l:List Oper)(fr:aam)(h:aai)(b:Bool):Prop:=
  Vm b (IH P W0 N o fr h (aeG P W0 N ops (KE P W0 N R ks .normal) l))
          (onO (abr P fr h o) fun p=>onO (putDst N fr o.dst p.1) fun fr'=>aeG P W0 N ops (KE P W0 N R ks .normal) l fr' p.2)
def MQ(P:Program)(W0:abw)(N:Nat)(ops:Array Oper)(ks:List Kt)(R:Exit->aam->aai->Prop)(o:Oper)(l:List Oper)(fr:aam)(x:Option (vV×aai)):Prop:=onO x fun p=>onO (putDst N fr o.dst p.1) fun fr'=>aeG P W0 N ops (KE P W0 N R ks .normal) l fr' p.2
def Kp(P:Program)(W0:abw)(N:Nat)(ops:Array Oper)(ks:List Kt)(R:Exit->aam->aai->Prop)(l:List Oper)(h:aai)(x:Option aam):Prop:=onO x fun fr'=>aeG P W0 N ops (KE P W0 N R ks .normal) l fr' h
def TC(P:Program)(W0:abw)(N:Nat)(ops:Array Oper)(ks:List Kt)(R:Exit->aam->aai->Prop)(o:Oper)(l:List Oper)(fr:aam)(h:aai):Prop:=IH P W0 N o fr h (aeG P W0 N ops (KE P W0 N R ks .normal) l)
def Kl(P:Program)(W0:abw)(N:Nat)(a b:Code)(ks:List Kt)(R:Exit->aam->aai->Prop)(fr:aam)(h:aai)(x:Option vV):Prop:=onV x (VK P W0 N a ks R fr h) (VK P W0 N b ks R fr h)
def aab(P:Program)(W0:abw)(N:Nat)(c:Code)(ks:List Kt)(R:Exit->aam->aai->Prop)(fr:aam)(h:aai):Prop:=ud P W0 N (.loop c) fr h (KE P W0 N R ks)
def ZJ(P:Program)(W0:abw)(N:Nat)(i:Nat)(ops:Array Oper)(ks:List Kt)(R:Exit->aam->aai->Prop)(fr:aam)(h:aai):Prop:=ud P W0 N (.region i ops tT) fr h (KE P W0 N R ks)
theorem ag6(a b:Int):(a==b)=decide (a=b):=hGr
def fst_mk{α β:Type}(a:α)(b:β):(a,b).1=a:=id rfl
def snd_mk{α β:Type}(a:α)(b:β):(a,b).2=b:=id rfl
section eqs
variable{ks:List Kt}{R:Exit->aam->aai->Prop}{a b:Code}{o:Oper}{i j:Nat}{c:Operand}
def agH:VK P W0 N .skip ks R fr h=KN P W0 N ks R fr h:=id rfl
def VK_ret:VK P W0 N .ret ks R fr h=KX P W0 N .ret ks R fr h:=id rfl
def agI:VK P W0 N (.exit i) ks R fr h=KX P W0 N (.exit i) ks R fr h:=id rfl
def VK_seq:VK P W0 N (.seq a b) ks R fr h=VK P W0 N a (.seq b::ks) R fr h:=id rfl
def af1:VK P W0 N (.block i a) ks R fr h=VK P W0 N a (.blk i::ks) R fr h:=id rfl
def qS{l:List Oper}:VK P W0 N (.region i (List.toArray l) fF) ks R fr h=KO P W0 N (List.toArray l) ks R l fr h:=id rfl
def agO:VK P W0 N (.region i ops tT) ks R fr h=ZJ P W0 N i ops ks R fr h:=id rfl
def agR:VK P W0 N (.cond c a b) ks R fr h=Kl P W0 N a b ks R fr h (aa6 fr c):=id rfl
def Fe:Kl P W0 N a b ks R fr h (Z (.bool tT))=VK P W0 N a ks R fr h:=id rfl
def Wi:Kl P W0 N a b ks R fr h (Z (.bool fF))=VK P W0 N b ks R fr h:=id rfl
def agW:VK P W0 N (.loop a) ks R fr h=aab P W0 N a ks R fr h:=id rfl
def KN_nil:KN P W0 N [] R fr h=R .normal fr h:=id rfl
def KN_seq:KN P W0 N (.seq a::ks) R fr h=VK P W0 N a ks R fr h:=id rfl
def KN_blk:KN P W0 N (.blk i::ks) R fr h=KN P W0 N ks R fr h:=id rfl
def sn:KX P W0 N .ret [] R fr h=R .ret fr h:=id rfl
def Vy:KX P W0 N .ret (.seq a::ks) R fr h=KX P W0 N .ret ks R fr h:=id rfl
def Y6:KX P W0 N .ret (.blk i::ks) R fr h=KX P W0 N .ret ks R fr h:=id rfl
def Kw:KX P W0 N (.exit j) [] R fr h=R (.exit j) fr h:=id rfl
def zz:KX P W0 N (.exit j) (.seq a::ks) R fr h=KX P W0 N (.exit j) ks R fr h:=id rfl
def acE:KX P W0 N (.exit j) (.blk i::ks) R fr h=if j=i then KN P W0 N ks R fr h else KX P W0 N (.exit j) ks R fr h:=id rfl
def J1:KE P W0 N R ks .normal fr h=KN P W0 N ks R fr h:=id rfl
def KE_ret:KE P W0 N R ks .ret fr h=KX P W0 N .ret ks R fr h:=id rfl
def ag2:KE P W0 N R ks (.exit i) fr h=KX P W0 N (.exit i) ks R fr h:=id rfl
def KO_nil:KO P W0 N ops ks R [] fr h=KN P W0 N ks R fr h:=id rfl
def ag3{l:List Oper}:KO P W0 N ops ks R (o::l) fr h=KO1 P W0 N ops ks R o l fr h (ab6 ops fr o):=id rfl
def bE{l l':List Oper}:KO P W0 N ops ks R (List.append (o::l) l') fr h=KO P W0 N ops ks R (o::List.append l l') fr h:=id rfl
def Q2{l:List Oper}:KO P W0 N ops ks R (List.append [] l) fr h=KO P W0 N ops ks R l fr h:=id rfl
def af3{l:List Oper}:KO1 P W0 N ops ks R o l fr h (Z tT)=lU P W0 N ops ks R o l fr h (Zm o):=id rfl
def aiN{l:List Oper}:KO1 P W0 N ops ks R o l fr h (Z fF)=Kp P W0 N ops ks R l h (putDst N fr o.dst Yx):=id rfl
def af4{l:List Oper}:lU P W0 N ops ks R o l fr h tT=TC P W0 N ops ks R o l fr h:=id rfl
def re{l:List Oper}:lU P W0 N ops ks R o l fr h fF=MQ P W0 N ops ks R o l fr (abr P fr h o):=id rfl
def af8{l:List Oper}{v:vV}{h':aai}:MQ P W0 N ops ks R o l fr (Z (v,h'))=Kp P W0 N ops ks R l h' (putDst N fr o.dst v):=id rfl
def af9{l:List Oper}:Kp P W0 N ops ks R l h (Z fr)=KO P W0 N ops ks R l fr h:=id rfl
end eqs
def VK.sound{c:Code}{R:Exit->aam->aai->Prop}(q:VK P W0 N c [] R fr h):ud P W0 N c fr h R:=VC.sound q
def Kl.intro{a b:Code}{t:Bool}{ks:List Kt}{R:Exit->aam->aai->Prop}(d:t=tT->VK P W0 N a ks R fr h)(hf:t=fF->VK P W0 N b ks R fr h):Kl P W0 N a b ks R fr h (Z (.bool t)):=by
 cases t
 .exact hf rfl
 .exact d rfl
def TC.intro{ks:List Kt}{R:Exit->aam->aai->Prop}{o:Oper}{l:List Oper}{g:FuncId}{args:xLV}{fn:Func}{c:Code}{Rc:vV->aai->Prop}(d:abt fr o=Z (g,args))(hg:Good P g fn c)(ha:AC P W0 g args h Rc)(e:∀v h',WF h'->Rc v h'->Kp P W0 N ops ks R l h' (putDst N fr o.dst v)):TC P W0 N ops ks R o l fr h:=.inl (rZ d hg ha e)
def TC.yield{ks:List Kt}{R:Exit->aam->aai->Prop}{o:Oper}{l:List Oper}{d:Nat}{args:xLV}{Rc:vV->aai->Prop}(e:yieldOf fr o=Z (d,args))(ha:AY P W0 d args h Rc)(f:∀v h',WF h'->Rc v h'->Kp P W0 N ops ks R l h' (putDst N fr o.dst v)):TC P W0 N ops ks R o l fr h:=.inr (.inr ⟨d,args,e,ha.post.mono fun v h' ⟨hw,g⟩=>f v h' hw g⟩)
def apS(R:vV->aai->Prop):Exit->aam->aai->Prop:=fun e _ h=>e=.normal/\R (.bool tT) h
def amD{R:vV->aai->Prop}:apS R .normal fr h=R (.bool tT) h:=by simp[apS]
theorem VK.round{ps:Array Tmp}{assign body:Code}{args:xLV}{d:aai}{R:vV->aai->Prop}(q:VK P W0 N (.seq assign body) [] (apS R) (aeJ ps.toList args fr) d):Rnd P W0 N ps fr assign body args d R:=by
 have g:VC P W0 N assign (vseq (VC P W0 N body (KE P W0 N (apS R) [])) (KE P W0 N (apS R) [])) (aeJ ps.toList args fr) d:=q;refine(VC.sound g).mono fun e k h2 f=>?_;cases e with
 |normal=>exact⟨rfl,VC.sound f⟩
 |_=>exact absurd f.1 Ma
def VK.rangeFunc{ks:List Kt}{R:Exit->aam->aai->Prop}{g:Operand}{ps:Array Tmp}{assign body:Code}{gf:FuncId}{fn:Func}{c:Code}{first cap:Array vV}(hg:aa6 fr g=Z (.func (.func gf) first cap))(d:Good P gf fn c)(l:ps.toList.all (fun p=>Nat.blt p N)=tT)(m:∀(f:abw)(k:Nat),(∀(args:xLV)(e:aai)(R:vV->aai->Prop),args.length=ps.size->h.next<=e.next->VK P W0 N (.seq assign body) [] (apS R) (aeJ ps.toList args fr) e->AY P f k args e R)->
   AC P f gf (first.toList++[Yg k]++cap.toList) h fun _ h'=>WF h'->KN P W0 N ks R fr h'):VK P W0 N (.rangeFunc g ps assign body) ks R fr h:=
 ud.rangeFunc hg d l fun f k n=>(m f k fun args e R' r s q=>n args e R' r s (VK.round q)).post.mono fun _ _ ⟨hw,u⟩=>u hw
def G8(P:Program)(rs:List ResultVar)(R:vV->aai->Prop)(fr:aam)(h:aai):Prop:=
 match acD P fr h rs with
 |some v=>R v h
 |none=>False
def agk(P:Program)(rs:List ResultVar)(R:vV->aai->Prop):Exit->aam->aai->Prop
 |.normal,fr,h=>G8 P rs R fr h
 |.ret,fr,h=>G8 P rs R fr h
 |_,_,_=>False
theorem AC.vc{f:FuncId}{args:xLV}{fn:Func}{c:Code}{R:vV->aai->Prop}(hg:Good P f fn c){n:Nat}(m:fn.ntmps=n){rs:Array ResultVar}(d:fn.results=rs)(hlen:args.length<=n)(g:WF h->VK P W0 n c [] (agk P rs.toList R) (me args) h):AC P W0 f args h R:=by
 subst m;subst d;refine AC.wf fun k=>?_;replace g:=g k;refine .body hg hlen ((VK.sound g).mono fun e fr' h' l=>?_);have key:∀fr h,G8 P fn.results.toList R fr h->∃v,acD P fr h fn.results.toList=Z v/\R v h:=by grind[G8]
 cases e with
 |normal=>exact⟨.inl rfl,key _ _ l⟩
 |ret=>exact⟨.inr rfl,key _ _ l⟩
 |_=>exact l.elim
def mkF:List (Nat×vV)->aam
 |[]=>.leaf
 |(t,v)::r=>(mkF r).set t v
def Fj(fr:aam):List (Nat×vV)->Prop
 |[]=>True
 |(t,v)::r=>fr.get t=Z v/\Fj fr r
theorem Sub.mkF{fr:aam}:∀{l:List (Nat×vV)},Fj fr l->Sub (mkF l) fr
 |[],_,k,v,h=>by grind[mkF,Trie.get]
 |(t,u)::r,ha,k,v,h=>by
  simp only[Fw.mkF,Trie.YO]at h;by_cases d:k=t
  .subst d;rw[abe rfl]at h;injection h with h;subst h;exact ha.1
  .rw[abE d]at h;exact Sub.mkF ha.2 k v h
def tn{I:Nat->aam->aai->Prop}{k:Nat}{Q:Exit->aam->aai->Prop}(d:Nat)(l:List (Nat×vV))(e:d<k)(f:Fj fr l)(hi:I d (mkF l) h):aeM I k Q .normal fr h:=⟨d,e,_,Sub.mkF f,hi⟩
def NA{I:Nat->aam->aai->Prop}{k:Nat}{Q:Exit->aam->aai->Prop}:aeM I k Q .ret fr h=Q .ret fr h:=id rfl
def ac7{I:Nat->aam->aai->Prop}{k i:Nat}{Q:Exit->aam->aai->Prop}:aeM I k Q (.exit i) fr h=Q (.exit i) fr h:=id rfl
def aab.intro{c:Code}{ks:List Kt}{R:Exit->aam->aai->Prop}(I:Nat->aam->aai->Prop)(k0:Nat)(l:List (Nat×vV))(hs:Fj fr l)(d:I k0 (mkF l) h)(e:∀k fr h,WF h->I k fr h->VK P W0 N c [] (aeM I k (KE P W0 N R ks)) fr h):aab P W0 N c ks R fr h:=
 .loop I k0 _ (Sub.mkF hs) d fun k fr h hi=>ud.wf fun hw=>VC.sound (e k fr h hw hi)
def ae5(P:Program)(W0:abw)(N:Nat)(ops:Array Oper)(Q:aam->aai->Prop):DT->II->aam->aai->Prop
 |.done,_,fr,h=>Q fr h
 |.no,_,_,_=>True
 |.fl i t,aac,fr,h=>
  onO ops[i]? fun o=>onO (ab6 ops fr o) fun w=>
   Vm w (onO (abr P fr h o) fun p=>p.2=h/\onO (putDst N fr o.dst p.1) fun fr'=>ae5 P W0 N ops Q t (i::aac) fr' h)
    (onO (putDst N fr o.dst Yx) fun fr'=>ae5 P W0 N ops Q t (i::aac) fr' h)
 |.ch i pre t other,aac,fr,h=>
  (onO ops[i]? fun o=>onO (ab6 ops fr o) fun w=>
   Vm w
    (Vm (Zm o) (cD P W0 N o fr h fun fr' h'=>abj P ops fr' h' (aac.filter fun p=>!pre.contains p)/\ae5 P W0 N ops Q t (aac.filter fun p=>!pre.contains p) fr' h')
     (onO (abr P fr h o) fun p=>onO (putDst N fr o.dst p.1) fun fr'=>abj P ops fr' p.2 (aac.filter fun p=>!pre.contains p)/\ae5 P W0 N ops Q t (aac.filter fun p=>!pre.contains p) fr' p.2))
    (onO (putDst N fr o.dst Yx) fun fr'=>ae5 P W0 N ops Q t (aac.filter fun p=>!pre.contains p) fr' h))/\
  ae5 P W0 N ops Q other aac fr h
theorem ae5.sound{Q:aam->aai->Prop}:∀{t:DT}{aac:II}{fr:aam}{h:aai},ae5 P W0 N ops Q t aac fr h->DW P W0 N ops Q t aac fr h:=by
 intro t
 induction t with
 |done=>intro aac fr h q;exact q
 |no=>intro aac fr h _;exact trivial
 |fl i t p=>
  intro aac fr h q;simp only[ae5]at q;have⟨o,d,q⟩:=adM.1 q;have⟨w,hw,q⟩:=adM.1 q;simp only[DW,d,hw];cases w with
  |false=>have⟨fr',k,q⟩:=adM.1 q;grind
  |true=>obtain⟨⟨v,h'⟩,hs,rfl,q⟩:=adM.1 q;grind[adM]
 |ch i pre t other l e=>
  intro aac fr h q;simp only[ae5]at q;have⟨q,m⟩:=q;simp only[DW];refine⟨?_,e m⟩;have⟨o,d,q⟩:=adM.1 q;have⟨w,hw,q⟩:=adM.1 q;simp only[d,hw];cases w with
  |false=>have⟨fr',k,q⟩:=adM.1 q;grind
  |true=>
   simp only[yF]at q;cases f:Zm o with
   |true=>rw[f]at q;have⟨g,args,fn,c,n,hg,ha⟩:=q;grind[AC.mono,adM]
   |false=>rw[f]at q;have⟨⟨v,h'⟩,hs,q⟩:=adM.1 q;grind[adM]
def KD(P:Program)(W0:abw)(N:Nat)(ops:Array Oper)(ks:List Kt)(R:Exit->aam->aai->Prop)(t:DT)(aac:II)(fr:aam)(h:aai):Prop:=ae5 P W0 N ops (KE P W0 N R ks .normal) t aac fr h
def KF1(P:Program)(W0:abw)(N:Nat)(ops:Array Oper)(ks:List Kt)(R:Exit->aam->aai->Prop)(t:DT)(aac:II)(fr:aam)(h:aai)(x:Option Oper):Prop:=
 onO x fun o=>onO (ab6 ops fr o) fun w=>
   Vm w (onO (abr P fr h o) fun p=>p.2=h/\onO (putDst N fr o.dst p.1) fun fr'=>KD P W0 N ops ks R t aac fr' h)
    (onO (putDst N fr o.dst Yx) fun fr'=>KD P W0 N ops ks R t aac fr' h)
def KF2(P:Program)(W0:abw)(N:Nat)(ops:Array Oper)(ks:List Kt)(R:Exit->aam->aai->Prop)(t:DT)(aac:II)(fr:aam)(h:aai)(o:Oper)(w:Option Bool):Prop:=
  onO w fun w=>Vm w (onO (abr P fr h o) fun p=>p.2=h/\onO (putDst N fr o.dst p.1) fun fr'=>KD P W0 N ops ks R t aac fr' h)
        (onO (putDst N fr o.dst Yx) fun fr'=>KD P W0 N ops ks R t aac fr' h)
def KF3(P:Program)(W0:abw)(N:Nat)(ops:Array Oper)(ks:List Kt)(R:Exit->aam->aai->Prop)(t:DT)(aac:II)(fr:aam)(h:aai)(o:Oper)(x:Option (vV×aai)):Prop:=onO x fun p=>p.2=h/\onO (putDst N fr o.dst p.1) fun fr'=>KD P W0 N ops ks R t aac fr' h
def KF4(P:Program)(W0:abw)(N:Nat)(ops:Array Oper)(ks:List Kt)(R:Exit->aam->aai->Prop)(t:DT)(aac:II)(h:aai)(x:Option aam):Prop:=onO x fun fr'=>KD P W0 N ops ks R t aac fr' h
def KG1(P:Program)(W0:abw)(N:Nat)(ops:Array Oper)(ks:List Kt)(R:Exit->aam->aai->Prop)(t:DT)(aac:II)(fr:aam)(h:aai)(x:Option Oper):Prop:=
 onO x fun o=>onO (ab6 ops fr o) fun w=>
   Vm w
    (Vm (Zm o) (cD P W0 N o fr h fun fr' h'=>abj P ops fr' h' aac/\KD P W0 N ops ks R t aac fr' h')
     (onO (abr P fr h o) fun p=>onO (putDst N fr o.dst p.1) fun fr'=>abj P ops fr' p.2 aac/\KD P W0 N ops ks R t aac fr' p.2))
    (onO (putDst N fr o.dst Yx) fun fr'=>KD P W0 N ops ks R t aac fr' h)
def KG2(P:Program)(W0:abw)(N:Nat)(ops:Array Oper)(ks:List Kt)(R:Exit->aam->aai->Prop)(t:DT)(aac:II)(fr:aam)(h:aai)(o:Oper)(w:Option Bool):Prop:=
  onO w fun w=>Vm w
        (Vm (Zm o) (cD P W0 N o fr h fun fr' h'=>abj P ops fr' h' aac/\KD P W0 N ops ks R t aac fr' h')
          (onO (abr P fr h o) fun p=>onO (putDst N fr o.dst p.1) fun fr'=>abj P ops fr' p.2 aac/\KD P W0 N ops ks R t aac fr' p.2))
        (onO (putDst N fr o.dst Yx) fun fr'=>KD P W0 N ops ks R t aac fr' h)
def KG3(P:Program)(W0:abw)(N:Nat)(ops:Array Oper)(ks:List Kt)(R:Exit->aam->aai->Prop)(t:DT)(aac:II)(fr:aam)(h:aai)(o:Oper)(b:Bool):Prop:=
  Vm b (cD P W0 N o fr h fun fr' h'=>abj P ops fr' h' aac/\KD P W0 N ops ks R t aac fr' h')
          (onO (abr P fr h o) fun p=>onO (putDst N fr o.dst p.1) fun fr'=>abj P ops fr' p.2 aac/\KD P W0 N ops ks R t aac fr' p.2)
def VA(P:Program)(W0:abw)(N:Nat)(ops:Array Oper)(ks:List Kt)(R:Exit->aam->aai->Prop)(t:DT)(aac:II)(fr:aam)(h:aai)(o:Oper):Prop:=cD P W0 N o fr h fun fr' h'=>abj P ops fr' h' aac/\KD P W0 N ops ks R t aac fr' h'
def KG4(P:Program)(W0:abw)(N:Nat)(ops:Array Oper)(ks:List Kt)(R:Exit->aam->aai->Prop)(t:DT)(aac:II)(fr:aam)(o:Oper)(x:Option (vV×aai)):Prop:=onO x fun p=>onO (putDst N fr o.dst p.1) fun fr'=>abj P ops fr' p.2 aac/\KD P W0 N ops ks R t aac fr' p.2
def KG5(P:Program)(W0:abw)(N:Nat)(ops:Array Oper)(ks:List Kt)(R:Exit->aam->aai->Prop)(t:DT)(aac:II)(h:aai)(x:Option aam):Prop:=onO x fun fr'=>abj P ops fr' h aac/\KD P W0 N ops ks R t aac fr' h
section eqs
variable{ks:List Kt}{R:Exit->aam->aai->Prop}{o:Oper}{i:Nat}{t other:DT}{aac pre:II}{v:vV}{h':aai}
def KD_done:KD P W0 N ops ks R .done aac fr h=KN P W0 N ks R fr h:=id rfl
def KD_no:KD P W0 N ops ks R .no aac fr h=True:=id rfl
def KD_fl:KD P W0 N ops ks R (.fl i t) aac fr h=KF1 P W0 N ops ks R t (i::aac) fr h ops[i]?:=id rfl
def KF1_some:KF1 P W0 N ops ks R t aac fr h (Z o)=KF2 P W0 N ops ks R t aac fr h o (ab6 ops fr o):=id rfl
def KF2_true:KF2 P W0 N ops ks R t aac fr h o (Z tT)=KF3 P W0 N ops ks R t aac fr h o (abr P fr h o):=id rfl
def apU:KF2 P W0 N ops ks R t aac fr h o (Z fF)=KF4 P W0 N ops ks R t aac h (putDst N fr o.dst Yx):=id rfl
def KF3_some:KF3 P W0 N ops ks R t aac fr h o (Z (v,h))=KF4 P W0 N ops ks R t aac h (putDst N fr o.dst v):=by simp[KF3,KF4,onO]
def KF4_some:KF4 P W0 N ops ks R t aac h (Z fr)=KD P W0 N ops ks R t aac fr h:=id rfl
def KD_ch:KD P W0 N ops ks R (.ch i pre t other) aac fr h=(KG1 P W0 N ops ks R t (aac.filter fun p=>!pre.contains p) fr h ops[i]?/\KD P W0 N ops ks R other aac fr h):=id rfl
def KG1_some:KG1 P W0 N ops ks R t aac fr h (Z o)=KG2 P W0 N ops ks R t aac fr h o (ab6 ops fr o):=id rfl
def KG2_true:KG2 P W0 N ops ks R t aac fr h o (Z tT)=KG3 P W0 N ops ks R t aac fr h o (Zm o):=id rfl
def apV:KG2 P W0 N ops ks R t aac fr h o (Z fF)=KF4 P W0 N ops ks R t aac h (putDst N fr o.dst Yx):=id rfl
def KG3_true:KG3 P W0 N ops ks R t aac fr h o tT=VA P W0 N ops ks R t aac fr h o:=id rfl
def apW:KG3 P W0 N ops ks R t aac fr h o fF=KG4 P W0 N ops ks R t aac fr o (abr P fr h o):=id rfl
def KG4_some:KG4 P W0 N ops ks R t aac fr o (Z (v,h'))=KG5 P W0 N ops ks R t aac h' (putDst N fr o.dst v):=id rfl
def KG5_some:KG5 P W0 N ops ks R t aac h (Z fr)=(abj P ops fr h aac/\KD P W0 N ops ks R t aac fr h):=id rfl
end eqs
def HD(fr:aam)(d:Option Tmp)(v:vV):Prop:=∀k,d=Z k->fr.get k=Z v
def H3(fr:aam)(h:aai)(d:Option Tmp)(x:Option (vV×aai)):Prop:=∃v,x=Z (v,h)/\HD fr d v
def H2(P:Program)(fr:aam)(h:aai)(o:Oper)(w:Option Bool):Prop:=
 match w with
 |some tT=>H3 fr h o.dst (abr P fr h o)
 |some fF=>HD fr o.dst Yx
 |none=>False
def H1(P:Program)(ops:Array Oper)(fr:aam)(h:aai)(x:Option Oper):Prop:=
 match x with
 |some o=>H2 P fr h o (ab6 ops fr o)
 |none=>False
theorem Holds_eq(p:Nat):Holds P ops fr h p=H1 P ops fr h ops[p]?:=by grind[Holds,H1,H2,H3,HD]
def H1_some{o:Oper}:H1 P ops fr h (Z o)=H2 P fr h o (ab6 ops fr o):=id rfl
def H2_true{o:Oper}:H2 P fr h o (Z tT)=H3 fr h o.dst (abr P fr h o):=id rfl
def H2_false{o:Oper}:H2 P fr h o (Z fF)=HD fr o.dst Yx:=id rfl
def H3_some{d:Option Tmp}{v:vV}:H3 fr h d (Z (v,h))=HD fr d v:=by simp[H3]
def HD_some{k:Tmp}{v:vV}:HD fr (Z k) v=(fr.get k=Z v):=by simp[HD]
def HD_none{v:vV}:HD fr Y v=True:=by simp[HD]
def VA.intro{ks:List Kt}{R:Exit->aam->aai->Prop}{o:Oper}{t:DT}{aac:II}{g:FuncId}{args:xLV}{fn:Func}{c:Code}{Rc:vV->aai->Prop}(d:abt fr o=Z (g,args))(hg:Good P g fn c)(ha:AC P W0 g args h Rc)(e:∀v h',WF h'->Rc v h'->KG5 P W0 N ops ks R t aac h' (putDst N fr o.dst v)):VA P W0 N ops ks R t aac fr h o:=rZ d hg ha e
def ZJ.intro{i:Nat}{ol:List Oper}{ks:List Kt}{R:Exit->aam->aai->Prop}(e:P.follows .mixedOrders=tT)(t:DT)(d:akk ol.toArray t=tT)(hd:KD P W0 N ol.toArray ks R t [] fr h):ZJ P W0 N i ol.toArray ks R fr h:=.draw e t d hd.sound
end
end Go.Fw
