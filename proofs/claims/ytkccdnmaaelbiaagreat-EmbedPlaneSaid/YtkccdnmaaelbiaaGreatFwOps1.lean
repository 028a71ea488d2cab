/- A text. -/
import Derived.Laws.StructEq
import Derived.Test.YtkccdnmaaelbiaaGreatFwHeap
set_option linter.all false
set_option maxRecDepth 99999
set_option maxHeartbeats 9999999
namespace Go.Fw
section
variable {W0 : Ac} {m : Ti} {h : AHeap} {w : World}
def awrap (k:IntKind) (n:Int):Int:=
 match k with
 |.i64=>if-9223372036854775808<=n/\n<=9223372036854775807 then n else IntKind.wrap .i64 n
 |.u8=>if 0<=n/\n<=255 then n else IntKind.wrap .u8 n
 |.u64=>if 0<=n/\n<=18446744073709551615 then n else IntKind.wrap .u64 n
 |k=>k.wrap n
def pE (k:IntKind) (n:Int):awrap k n=k.wrap n:=by
 unfold awrap;split
 .split
  .rename_i a;simp[IntKind.wrap,IntKind.bits,IntKind.signed];omega
  .rfl
 .split
  .rename_i a;simp[IntKind.wrap,IntKind.bits,IntKind.signed];omega
  .rfl
 .split
  .rename_i a;simp[IntKind.wrap,IntKind.bits,IntKind.signed];omega
  .rfl
 .rfl
def GQ (n:Int) (a:-9223372036854775808<=n) (h2:n<=9223372036854775807):awrap .i64 n=n:=by simp[awrap,a,h2]
def aInt (op:BinOp) (k:IntKind) (a b:Int):Option Value:=
 match op with
 |.add=>some (.int k (awrap k (a+b)))
 |.sub=>some (.int k (awrap k (a-b)))
 |.mul=>some (.int k (awrap k (a*b)))
 |.quo=>if b=0 then none else some (.int k (awrap k (a.tdiv b)))
 |.rem=>if b=0 then none else some (.int k (a.tmod b))
 |.and=>some (.int k (k.wrap (BitVec.ofInt k.bits a &&& BitVec.ofInt k.bits b).toNat))
 |.or=>some (.int k (k.wrap (BitVec.ofInt k.bits a ||| BitVec.ofInt k.bits b).toNat))
 |.xor=>some (.int k (k.wrap (BitVec.ofInt k.bits a ^^^ BitVec.ofInt k.bits b).toNat))
 |.andNot=>some (.int k (k.wrap (BitVec.ofInt k.bits a &&& ~~~BitVec.ofInt k.bits b).toNat))
 |.eql=>some (.bool (a==b))
 |.neq=>some (.bool (a !=b))
 |.lss=>some (.bool (a<b))
 |.leq=>some (.bool (a<=b))
 |.gtr=>some (.bool (b<a))
 |.geq=>some (.bool (b<=a))
 |_=>none
def aShift (op:BinOp) (k:IntKind) (a b:Int):Option Value:=
 if b<0 then none else
 match op with
 |.shl=>some (.int k (awrap k (a*2^min b.toNat k.bits)))
 |.shr=>some (.int k (a.fdiv (2^min b.toNat k.bits)))
 |_=>none
def aStr (op:BinOp) (a b:ByteArray):Option Value:=
 match op with
 |.add=>if((a.size+b.size:Nat):Int)>9223372036854775807 then none else some (.string (a++b))
 |.eql=>some (.bool (a.toList==b.toList))
 |.neq=>some (.bool (!(a.toList==b.toList)))
 |.lss=>some (.bool (Op.bytesLess a.toList b.toList))
 |.leq=>some (.bool (Op.bytesLess a.toList b.toList||a.toList==b.toList))
 |.gtr=>some (.bool (!(Op.bytesLess a.toList b.toList||a.toList==b.toList)))
 |.geq=>some (.bool (!Op.bytesLess a.toList b.toList))
 |_=>none
def allInts:List Value->Option (List (IntKind×Int))
 |[]=>some []
 |.int k n::r=>match allInts r with|some l=>some ((k,n)::l)|none=>none
 |_=>none
def fieldsI (P:Program):List Field->Nat->Bool
 |[],_=>true
 |f::fs,i=>f.name != "_" &&f.offset==i&&(match P.underlying f.type with|some (.int _)=>true|_=>false)&&fieldsI P fs (i+1)
def aEq (P:Program) (t:TypeId) (x y:Value):Option Bool:=
 match P.underlying t,x,y with
 |some .bool,.bool a,.bool b=>some (a==b)
 |some (.slice _),.slice a _ _,.slice none _ _=>some a.isNone
 |some (.pointer _),.pointer a,.pointer none=>some a.isNone
 |some (.map _ _),.map a,.map none=>some a.isNone
 |some (.func _ _ _),.nilFunc,.nilFunc=>some true
 |some (.func _ _ _),.func _ _ _,.nilFunc=>some false
 |some (.array len e),.agg xs,.agg ys=>
  match P.underlying e,allInts xs.toList,allInts ys.toList with
  |some (.int _),some a,some b=>
   if JO P e=1/\xs.size=len/\ys.size=len/\a.map (·.1)=b.map (·.1)then some (a==b)else none
  |_,_,_=>none
 |some (.struct c),.agg xs,.agg ys=>
  match allInts xs.toList,allInts ys.toList with
  |some a,some b=>
   if fieldsI P c.toList 0=true/\P.stoodInHeld t=false/\xs.size=c.size/\ys.size=c.size/\a.map (·.1)=b.map (·.1)then some (a==b)else none
  |_,_=>none
 |_,_,_=>none
def abin (P:Program) (op:BinOp) (t:TypeId) (x y:Value):Option Value:=
 match op,x,y with
 |.shl,.int k a,.int _ b=>aShift .shl k a b
 |.shr,.int k a,.int _ b=>aShift .shr k a b
 |op,.int k a,.int c b=>if k=c then aInt op k a b else none
 |op,.string a,.string b=>aStr op a b
 |.eql,x,y=>match aEq P t x y with|some b=>some (.bool b)|none=>none
 |.neq,x,y=>match aEq P t x y with|some b=>some (.bool (!b))|none=>none
 |_,_,_=>none
def Zo (P:Program) (op:BinOp) (k:IntKind) (a:Int) (c:IntKind) (b:Int) {v:Value} (e:aShift op k a b=some v) (w:World):
  (Op.shift op k a c b).run P w=.ok v w:=by
 unfold aShift at e;split at e
 .cases e
 .rename_i hb
  cases op<;>simp at e<;>subst e<;>simp[Op.shift,hb,pE]
def VH (P:Program) (k:IntKind) (a:Int) (c:IntKind) (b:Int) (t:TypeId) {v:Value} (e:aShift .shl k a b=some v) (w:World):
  (binOp .shl t (.int k a) (.int c b)).run P w=.ok v w:=Zo P .shl k a c b e w
def VM (P:Program) (k:IntKind) (a:Int) (c:IntKind) (b:Int) (t:TypeId) {v:Value} (e:aShift .shr k a b=some v) (w:World):
  (binOp .shr t (.int k a) (.int c b)).run P w=.ok v w:=Zo P .shr k a c b e w
def vD (P:Program) (op:BinOp) (k:IntKind) (a b:Int) (t:TypeId) {v:Value} (e:aInt op k a b=some v) (w:World):
    (binOp op t (.int k a) (.int k b)).run P w=.ok v w:=by
  cases op<;>simp only[aInt]at e
  all_goals first
    |cases e;done
    |(injection e with e;subst e;simp[binOp,Op.intArith,Op.intBits,Op.intCmp,pE])
    | (split at e
       .cases e
       .rename_i hb;injection e with e;subst e;simp[binOp,Op.intDiv,hb,pE])
def Qk (P:Program) (op:BinOp) (a b:ByteArray) (t:TypeId) {v:Value} (e:aStr op a b=some v) (w:World):
    (binOp op t (.string a) (.string b)).run P w=.ok v w:=by
  cases op<;>simp only[aStr]at e
  all_goals first
    |cases e;done
    |(injection e with e;subst e;simp[binOp,Op.stringOp])
    | (split at e
       .cases e
       · rename_i hb; injection e with e; subst e
         have:¬((a.size+b.size:Nat):Int)>IntKind.i64.max:=by simp[IntKind.max,IntKind.signed,IntKind.bits];omega
         simp only[binOp,Op.stringOp,this,if_false,Sem.run_pure])
def Cb:∀(l:List Value) (a:List (IntKind×Int)),allInts l=some a->l=a.map (fun p=>Value.int p.1 p.2)
 |[],a,h=>by simp[allInts]at h;subst h;rfl
 |v::l,a,h=>by
  cases v<;>simp only[allInts]at h<;>try cases h
  rename_i k n;split at h
  .rename_i r b
   injection h with h;subst h;simp[Cb l r b]
  .cases h
def c7 (P:Program) (d:Nat) (t e:TypeId) (len:Nat) (B:IntKind) (D:P.underlying t=some (.array len e)) (r:P.underlying e=some (.int B)) (hs:JO P e=1)
  (a b:List (IntKind×Int)) (ha:a.length=len) (hb:b.length=len) (E:a.map (·.1)=b.map (·.1)) (w:World):
  (Op.equalIn (d+2) t (.agg (a.map (fun p=>Value.int p.1 p.2)).toArray) (.agg (b.map (fun p=>Value.int p.1 p.2)).toArray)).run P w=.ok (a==b) w:=by
 unfold Op.equalIn;simp only[Sem.run_bind,run_underlying D,Result.andThen_ok,NL r,hs,qL181,Std.Legacy.Range.size]
 have key:∀(n s:Nat),s+n=len->(forIn (m:=Sem) (List.range' s n) ((none:Option Bool),PUnit.unit) fun i __s=>do
   let __do_lift <-part e (a.map (fun p=>Value.int p.1 p.2)).toArray (i*1);let __do_lift_1 <-part e (b.map (fun p=>Value.int p.1 p.2)).toArray (i*1);let __do_lift <-Op.equalIn (d+1) e __do_lift __do_lift_1
   if(!__do_lift)=true then pure (ForInStep.done (some false,PUnit.unit))else pure (ForInStep.yield (none,PUnit.unit))).run P w
   =.ok (if a.drop s==b.drop s then(none,PUnit.unit)else(some false,PUnit.unit)) w:=by
  intro n
  induction n with
  |zero=>
   intro s u;have F:a.drop s=[]:=BH QT;have h2:b.drop s=[]:=BH QT;simp[F,h2]
  |succ n G=>
   intro s u;have v:s<a.length:=QT;have x:s<b.length:=QT;have c:a[s].1=b[s].1:=by
    have:=congrArg (fun l=>l[s]?) E;simpa[Rv,dR v,dR x]using this
   have y:∀w,(part e (a.map (fun p=>Value.int p.1 p.2)).toArray s).run P w=.ok (.int a[s].1 a[s].2) w:=by
    intro w;simp[part,bB r,isAggD,v]
   have z:∀w,(part e (b.map (fun p=>Value.int p.1 p.2)).toArray s).run P w=.ok (.int b[s].1 b[s].2) w:=by
    intro w;simp[part,bB r,isAggD,x]
   have heq:∀w,(Op.equalIn (d+1) e (.int a[s].1 a[s].2) (.int b[s].1 b[s].2)).run P w=.ok (a[s].2==b[s].2) w:=by
    intro w;rw[c];exact run_equalIn_int w d e _ B _ _ r
   have j:a.drop s=a[s]::a.drop (s+1):=(BG v);have k:b.drop s=b[s]::b.drop (s+1):=(BG x);have f:(a[s]==b[s])=(a[s].2==b[s].2):=by
    have:∀p q:IntKind×Int,p.1=q.1->(p==q)=(p.2==q.2):=by
     intro p q A;rw[ju];simp[jA,A]
    exact this _ _ c
   simp only[aah,List.forIn_cons,Sem.run_bind,uZ,y,z,heq,Result.andThen_ok];cases C:a[s].2==b[s].2 with
   |false=>
    have g:(a.drop s==b.drop s)=false:=by rw[j,k,xm,f,C];rfl
    simp[g]
   |true=>
    have g:(a.drop s==b.drop s)=(a.drop (s+1)==b.drop (s+1)):=by rw[j,k,xm,f,C];rfl
    have:=G (s+1) QT;simp only[uZ]at this;simp only[aaW,Z2,if_false,Sem.run_pure,Result.andThen_ok,g];exact this
 have o:=key len 0 QT;simp only[sQ]at o;rw[show((len-0+1-1) / 1)=len from by omega];rw[o];cases a==b<;>simp
def Wz (P:Program) (t e:TypeId) (len:Nat) (a:IntKind) (b:P.underlying t=some (.array len e)) (c:P.underlying e=some (.int a)):P.eqGuardType P.depth t=false:=by
 have:∃d,P.depth=d+2:=⟨_,rfl⟩;obtain⟨d,f⟩:=this;rw[f];simp[Program.eqGuardType,b,c]
def Bv (P:Program) (d:Nat) (a b:List (IntKind×Int)) (o:a.map (·.1)=b.map (·.1)):∀(i:List Field) (s:Nat),fieldsI P i s=true->s+i.length=a.length->∀w,
  (Op.eqFields (d+1) (a.map (fun p=>Value.int p.1 p.2)).toArray (b.map (fun p=>Value.int p.1 p.2)).toArray i).run P w=.ok (a.drop s==b.drop s) w
 |[],s,_,j,w=>by
  have hb:a.length=b.length:=by have:=congrArg List.length o;simpa using this
  have C:a.drop s=[]:=BH (by simp at j;omega);have h2:b.drop s=[]:=BH (by simp at j;omega);simp[Op.eqFields,C,h2]
 |f::i,s,hf,j,w=>by
  have hb:a.length=b.length:=by have:=congrArg List.length o;simpa using this
  have r:s<a.length:=by simp at j;omega
  have t:s<b.length:=QT;simp only[fieldsI,SH,bne_iff_ne,ne_eq,beq_iff_eq]at hf;obtain⟨⟨⟨D,E⟩,z⟩,F⟩:=hf;split at z
  .rename_i G u
   have c:a[s].1=b[s].1:=by
    have:=congrArg (fun l=>l[s]?) o;simpa[Rv,dR r,dR t]using this
   have v:∀w,(part f.type (a.map (fun p=>Value.int p.1 p.2)).toArray s).run P w=.ok (.int a[s].1 a[s].2) w:=by
    intro w;simp[part,bB u,isAggD,r]
   have x:∀w,(part f.type (b.map (fun p=>Value.int p.1 p.2)).toArray s).run P w=.ok (.int b[s].1 b[s].2) w:=by
    intro w;simp[part,bB u,isAggD,t]
   have heq:∀w,(Op.equalIn (d+1) f.type (.int a[s].1 a[s].2) (.int b[s].1 b[s].2)).run P w=.ok (a[s].2==b[s].2) w:=by
    intro w;rw[c];exact run_equalIn_int w d f.type _ G _ _ u
   have k:a.drop s=a[s]::a.drop (s+1):=(BG r);have n:b.drop s=b[s]::b.drop (s+1):=(BG t);have e:(a[s]==b[s])=(a[s].2==b[s].2):=by
    have:∀p q:IntKind×Int,p.1=q.1->(p==q)=(p.2==q.2):=by
     intro p q y;rw[ju];simp[jA,y]
    exact this _ _ c
   have A:=Bv P d a b o i (s+1) F (by simp at j ⊢;omega);simp only[Op.eqFields,D,ne_eq,not_false_eq_true,if_true,Sem.run_bind,E,v,x,heq,Result.andThen_ok];cases B:a[s].2==b[s].2 with
   |false=>
    have g:(a.drop s==b.drop s)=false:=by rw[k,n,xm,e,B];rfl
    simp[g]
   |true=>
    have g:(a.drop s==b.drop s)=(a.drop (s+1)==b.drop (s+1)):=by rw[k,n,xm,e,B];rfl
    simp[g,A]
  .cases z
def sr (P:Program) (d:Nat) (t:TypeId) (c:Array Field) (f:P.underlying t=some (.struct c)) (hf:fieldsI P c.toList 0=true) (g:P.stoodInHeld t=false)
  (a b:List (IntKind×Int)) (ha:a.length=c.size) (i:a.map (·.1)=b.map (·.1)) (w:World):
  (Op.equalIn (d+2) t (.agg (a.map (fun p=>Value.int p.1 p.2)).toArray) (.agg (b.map (fun p=>Value.int p.1 p.2)).toArray)).run P w=.ok (a==b) w:=by
 have e:P.fieldsOf t=c:=by simp[Program.fieldsOf,f]
 rw[run_equalIn_struct w (d+1) t _ _ (by rw[e];exact f) g,e];have:=Bv P d a b i c.toList 0 hf (by simp[ha]) w;simpa using this
def sn (P:Program) (t:TypeId) (fs:Array Field) (ht:P.underlying t=some (.struct fs)) (hf:fieldsI P fs.toList 0=true):P.eqGuardType P.depth t=false:=by
 have:∃d,P.depth=d+2:=⟨_,rfl⟩;obtain⟨d,hd⟩:=this;rw[hd];simp only[Program.eqGuardType,ht];rw[←Array.any_toList];have key:∀(l:List Field) (i:Nat),fieldsI P l i=true→(l.any fun f=>f.name != "_" &&Program.eqGuardType P (d+1) f.type)=false:=by
  intro l
  induction l with
  |nil=>intro i _;rfl
  |cons f l ih=>
   intro i h;simp only[fieldsI,SH]at h;obtain⟨⟨_,hu⟩,hr⟩:=h;split at hu
   .rename_i k he
    have hh:Program.eqGuardType P (d+1) f.type=false:=by simp only[Program.eqGuardType,he]
    rw[List.any_cons,ih _ hr,hh];simp
   .cases hu
 exact key _ 0 hf
def VW (t:TypeId) (x y:Value):Op.equal t x y=Op.equalIn (9998+1+1) t x y:=rfl
def pz (P:Program) (t:TypeId) (x y:Value) {r:Bool} (e:aEq P t x y=some r) (w:World):(Op.equal t x y).run P w=.ok r w:=by
 unfold aEq at e
 split at e<;>(try cases e)
 .rename_i c;exact run_equal_bool w t _ _ c
 .rename_i a _ _ _ _ c;rw[VW];unfold Op.equalIn;cases a<;>simp only[Sem.run_bind,run_underlying c,Result.andThen_ok,Sem.run_pure]<;>rfl
 .rename_i a c;rw[VW];unfold Op.equalIn;cases a<;>simp only[Sem.run_bind,run_underlying c,Result.andThen_ok,Sem.run_pure]<;>rfl
 .rename_i a c;rw[VW];unfold Op.equalIn;cases a<;>simp only[Sem.run_bind,run_underlying c,Result.andThen_ok,Sem.run_pure]<;>rfl
 .rename_i c;rw[VW];unfold Op.equalIn;simp only[Sem.run_bind,run_underlying c,Result.andThen_ok,Sem.run_pure]
 .rename_i c;rw[VW];unfold Op.equalIn;simp only[Sem.run_bind,run_underlying c,Result.andThen_ok,Sem.run_pure]
 .rename_i len el xs ys c
  split at e
  .rename_i k a b n ha hb
   split at e
   .rename_i g
    obtain⟨i,h2,h3,j⟩:=g;injection e with e;subst e;have d:=Cb _ _ ha;have f:=Cb _ _ hb;have ex:xs=(a.map (fun p=>Value.int p.1 p.2)).toArray:=by rw[<-d]
    have l:ys=(b.map (fun p=>Value.int p.1 p.2)).toArray:=by rw[<-f]
    subst ex;subst l;exact c7 P 9998 t el len k c n i a b (by simpa using h2) (by simpa using h3) j w
   .cases e
  .cases e
 .rename_i o xs ys c
  split at e
  .rename_i a b ha hb
   split at e
   .rename_i g
    obtain⟨i,h2,h3,_,j⟩:=g;injection e with e;subst e;have d:=Cb _ _ ha;have f:=Cb _ _ hb;have ex:xs=(a.map (fun p=>Value.int p.1 p.2)).toArray:=by rw[<-d]
    have l:ys=(b.map (fun p=>Value.int p.1 p.2)).toArray:=by rw[<-f]
    subst ex;subst l;exact sr P 9998 t o c i h2 a b (by simpa using h3) j w
   .cases e
  .cases e
def vY {n:Nat} {m:Ti} {P:Program} {t:TypeId} {x y x' s:Value} {r:Bool} (c:VR n m x x') (d:VR n m y s) (e:aEq P t x y=some r):aEq P t x' s=some r:=by
 have hints:∀{n:Nat} {m:Ti} (l l':List Value),xC n m l l'->∀a,allInts l=some a->allInts l'=some a:=by
  intro n m l
  induction l with
  |nil=>intro l' h a ha;have:l'=[]:=b7 (by rw[<-h.1];rfl);subst this;exact ha
  |cons v l u=>
   intro l' h a ha;cases l' with
   |nil=>simp[xC]at h
   |cons v' l'=>
    have z:VR n m v v':=h.2 0 v v' rfl rfl;have A:xC n m l l':=by simpa using h.drop 1
    cases v<;>simp only[allInts]at ha<;>try cases ha
    split at ha
    .rename_i r B
     cases z;simp only[allInts,u l' A r B];exact ha
    .cases ha
 unfold aEq at e;split at e
 .cases c;cases d;rename_i D h2 h3;simp_all [aEq]
 .rename_i j;cases d with|flat hf=>cases c<;>simp_all [aEq]
 .rename_i j;cases d with|flat hf=>cases c<;>simp_all [aEq]
 .rename_i j;cases d with|flat hf=>cases c<;>simp_all [aEq]
 .rename_i j;cases c;cases d;simp_all [aEq]
 .rename_i j;cases d;cases c<;>simp_all [aEq]
 .rename_i len el xs ys j
  split at e
  .rename_i k a b C ha hb
   split at e
   .rename_i q
    cases c with
    |flat hf=>simp[Fw.flat]at hf
    |agg f c=>
     cases d with
     |flat hf=>simp[Fw.flat]at hf
     |agg g d=>
      rename_i o p;have WA:=hints xs.toList o.toList ⟨by simpa using f,fun i v v' e e'=>c i v v' (by simpa using e) (by simpa using e')⟩ a ha;have AD:=hints ys.toList p.toList ⟨by simpa using g,fun i v v' e e'=>d i v v' (by simpa using e) (by simpa using e')⟩ b hb;simp only[aEq,j,C,WA,AD,<-f,<-g,q,and_self,if_true];exact e
   .cases e
  .cases e
 .rename_i E xs ys j
  split at e
  .rename_i a b ha hb
   split at e
   .rename_i q
    cases c with
    |flat hf=>simp[Fw.flat]at hf
    |agg f c=>
     cases d with
     |flat hf=>simp[Fw.flat]at hf
     |agg g d=>
      rename_i o p;have WA:=hints xs.toList o.toList ⟨by simpa using f,fun i v v' e e'=>c i v v' (by simpa using e) (by simpa using e')⟩ a ha;have AD:=hints ys.toList p.toList ⟨by simpa using g,fun i v v' e e'=>d i v v' (by simpa using e) (by simpa using e')⟩ b hb;simp only[aEq,j,WA,AD,<-f,<-g,q,and_self,if_true];exact e
   .cases e
  .cases e
 .cases e
def H7 (P:Program) (op:BinOp) (t:TypeId) (x y:Operand) (a b:Value) (w:World) (d:¬(a=.nilIface/\b=.nilIface)) (c:∀xs ys,a=.agg xs->b=.agg ys->P.eqGuardType P.depth t=false):
  (eqGuard op t x y a b).run P w=.ok () w:=by
 by_cases e:(!(op matches .eql|.neq))=true
 .cases op<;>first|(simp[eqGuard];done)|(exact absurd e YX)
 .cases a with
  |nilIface=>cases b<;>first|(exact absurd ⟨rfl,rfl⟩ d)|(cases op<;>simp[eqGuard])
  |agg xs=>
   cases b with
   |agg ys=>exact run_eqGuard_agg w op t x y xs ys (c xs ys rfl rfl)
   |_=>cases op<;>simp[eqGuard]
  |_=>cases op<;>simp[eqGuard]
def guardFree:Value->Bool
 |.nilIface=>false
 |_=>true
def BS (P:Program) (op:BinOp) (t:TypeId) (x y:Value):Option Value:=bif guardFree x then abin P op t x y else none
def Ib {n:Nat} {m:Ti} {P:Program} {op:BinOp} {t:TypeId} {x y x' c v:Value} (d:VR n m x x') (f:VR n m y c) (e:abin P op t x y=some v):
    flat v=true/\(∀w,(binOp op t x' c).run P w=.ok v w):=by
  unfold abin at e;split at e
  · cases d; cases f
    refine⟨?_,fun w=>?_⟩;rotate_left
    .exact VH P _ _ _ _ t e w
    unfold aShift at e;split at e
    .cases e
    .simp at e;subst e;rfl
  · cases d; cases f
    refine⟨?_,fun w=>?_⟩;rotate_left
    .exact VM P _ _ _ _ t e w
    unfold aShift at e;split at e
    .cases e
    .simp at e;subst e;rfl
  · split at e
    · rename_i k a j b _ _ i
      subst i;cases d;cases f;refine⟨?_,fun w=>vD P _ _ _ _ t e w⟩;cases op<;>simp only[aInt]at e
      all_goals first
        |cases e;done
        |(injection e with e;subst e;rfl)
        | (split at e
           .cases e
           .injection e with e;subst e;rfl)
    .cases e
  · cases d; cases f
    refine⟨?_,fun w=>Qk P _ _ _ t e w⟩;cases op<;>simp only[aStr]at e
    all_goals first
      |cases e;done
      |(injection e with e;subst e;rfl)
      | (split at e
         .cases e
         .injection e with e;subst e;rfl)
  · split at e
    · rename_i b hb
      injection e with e;subst e;refine⟨rfl,fun w=>?_⟩;have g:=pz P t x' c (vY d f hb) w;have h2:=vY d f hb
      have:binOp .eql t x' c=(do pure (.bool (<-Op.equal t x' c))):=by
        unfold aEq at h2
        split at h2<;>first|rfl|cases h2
      rw[this];simp[g]
    .cases e
  · split at e
    · rename_i b hb
      injection e with e;subst e;refine⟨rfl,fun w=>?_⟩;have g:=pz P t x' c (vY d f hb) w;have h2:=vY d f hb
      have:binOp .neq t x' c=(do pure (.bool (!(<-Op.equal t x' c)))):=by
        unfold aEq at h2
        split at h2<;>first|rfl|cases h2
      rw[this];simp[g]
    .cases e
  .cases e
def VR.oe {n:Nat} {m:Ti} {k:IntKind} {i:Int} {v':Value} (h:VR n m (.int k i) v'):v'=.int k i:=by cases h;rfl
def VR.DN {n:Nat} {m:Ti} {b:Bool} {v':Value} (h:VR n m (.bool b) v'):v'=.bool b:=by cases h;rfl
def VR.Z1 {n:Nat} {m:Ti} {s:ByteArray} {v':Value} (h:VR n m (.string s) v'):v'=.string s:=by cases h;rfl
def VR.HC {n:Nat} {m:Ti} {a:Array Value} {v':Value} (h:VR n m (.agg a) v'):∃a',v'=.agg a'/\xC n m a.toList a'.toList:=by
 cases h with
 |flat h=>simp[Fw.flat]at h
 |agg hs h=>exact⟨_,rfl,by simpa using hs,fun i v v' e e'=>h i v v' (by simpa using e) (by simpa using e')⟩
def VR.lx {n:Nat} {m:Ti} {a:Array Value} {v':Value} (h:VR n m (.tuple a) v'):∃a',v'=.tuple a'/\xC n m a.toList a'.toList:=by
 cases h with
 |flat h=>simp[Fw.flat]at h
 |tuple hs h=>exact⟨_,rfl,by simpa using hs,fun i v v' e e'=>h i v v' (by simpa using e) (by simpa using e')⟩
def VR.aA {n:Nat} {m:Ti} {a:Option Addr} {len cap:Nat} {v':Value} (h:VR n m (.slice a len cap) v'):∃a' cap',v'=.slice a' len cap'/\a'.isSome=a.isSome:=by
 cases h<;>exact⟨_,_,rfl,YX⟩
def aUn (op:UnOp) (x:Value):Option Value:=
 match op,x with
 |.neg,.int k n=>some (.int k (awrap k (0-n)))
 |.not,.bool b=>some (.bool (!b))
 |_,_=>none
def yw {n:Nat} {m:Ti} {op:UnOp} {x x' v:Value} (P:Program) (a:VR n m x x') (e:aUn op x=some v):flat v=true/\∀w,(Op.unary op x').run P w=.ok v w:=by
 unfold aUn at e;split at e
 .cases a;injection e with e;subst e;exact⟨rfl,fun w=>by simp[Op.unary,Op.intArith,pE]⟩
 .cases a;injection e with e;subst e;exact⟨rfl,fun w=>by simp[Op.unary]⟩
 .cases e
def aBound (x:Value) (y:Nat):Option Nat:=
 match x with
 |.int _ i=>if 0<=i/\i<=(y:Int)then some i.toNat else none
 |_=>none
def zJ {n:Nat} {m:Ti} {x x':Value} {y a r:Nat} (P:Program) (d:VR n m x x') (e:aBound x y=some r) (f:y<=a) (c:BoundsCode) (w:World):
  (Instr.sliceBound x' a c).run P w=.ok r w/\r<=y:=by
 unfold aBound at e;split at e
 .cases d
  split at e
  .rename_i i _ hi
   injection e with e;subst e;have b:0<=i/\i<=(a:Int):=QT;exact⟨by simp[Instr.sliceBound,asIntOf,b],QT⟩
  .cases e
 .cases e
def aBounds (len cap:Nat) (lo hi a:Option Value):Option (Nat×Nat×Nat):=
  match(match a with|some v=>aBound v cap|none=>some cap)with
  |none=>none
  |some m=>match(match hi with|some v=>aBound v m|none=>match a with|none=>some len|some _=>none)with
    |none=>none
    |some h=>match(match lo with|some v=>aBound v h|none=>some 0)with
      |none=>none
      |some l=>some (l,h,m)
inductive VRo (n:Nat) (m:Ti):Option Value->Option Value->Prop
 |none:VRo n m none none
 |some {v v':Value} (h:VR n m v v'):VRo n m (some v) (some v')
def aG {n:Nat} {m:Ti} {len cap cap':Nat} {lo hi s g i j:Option Value} {l h k:Nat} (P:Program) (b:Bool) (a:VRo n m lo g) (o:VRo n m hi i) (t:VRo n m s j)
  (x:cap<=cap') (B:len<=cap) (e:aBounds len cap lo hi s=some (l,h,k)) (w:World):
  (Instr.sliceBounds b len cap' g i j).run P w=.ok (l,h,if s.isSome then k else cap') w/\l<=h/\h<=k/\k<=cap/\(s=none->k=cap):=by
 unfold aBounds at e;cases t with
 |none=>
  simp only[]at e;cases o with
  |none=>
   simp only[]at e;cases a with
   |none=>
    simp only[Xz,Ig]at e;obtain⟨rfl,rfl,rfl⟩:=e;exact⟨by simp[Instr.sliceBounds],QT,QT,QT,fun _=>rfl⟩
   |some p=>
    simp only[]at e;split at e
    .cases e
    .rename_i r q
     simp only[Xz,Ig]at e;obtain⟨rfl,rfl,rfl⟩:=e;obtain⟨c,h2⟩:=zJ P p q (J4 _) .sliceB w;exact⟨by simp[Instr.sliceBounds,c],h2,QT,QT,fun _=>rfl⟩
  |some p=>
   simp only[]at e;split at e
   .cases e
   .rename_i r q
    obtain⟨c,h2⟩:=zJ P p q x (if b then .sliceAcap else .sliceAlen) w
    cases a with
    |none=>
     simp only[Xz,Ig]at e;obtain⟨rfl,rfl,rfl⟩:=e;exact⟨by simp[Instr.sliceBounds,c],QT,QT,QT,fun _=>rfl⟩
    |some d=>
     simp only[]at e;split at e
     .cases e
     .rename_i y f
      simp only[Xz,Ig]at e;obtain⟨rfl,rfl,rfl⟩:=e;obtain⟨h3,z⟩:=zJ P d f (J4 _) .sliceB w;exact⟨by simp[Instr.sliceBounds,c,h3],QT,QT,QT,fun _=>rfl⟩
 |some u=>
  simp only[]at e;split at e
  .cases e
  .rename_i r q
   obtain⟨c,h2⟩:=zJ P u q x (if b then .slice3Acap else .slice3Alen) w
   cases o with
   |none=>simp at e
   |some p=>
    simp only[]at e;split at e
    .cases e
    .rename_i r2 v
     obtain⟨h3,z⟩:=zJ P p v (J4 _) .slice3B w;cases a with
     |none=>
      simp only[Xz,Ig]at e;obtain⟨rfl,rfl,rfl⟩:=e;exact⟨by simp[Instr.sliceBounds,c,h3],QT,QT,QT,fun h=>by cases h⟩
     |some d=>
      simp only[]at e;split at e
      .cases e
      .rename_i y f
       simp only[Xz,Ig]at e;obtain⟨rfl,rfl,rfl⟩:=e;obtain⟨A,C⟩:=zJ P d f (J4 _) .slice3C w;exact⟨by simp[Instr.sliceBounds,c,h3,A],QT,QT,QT,fun h=>by cases h⟩
def aSlice (P:Program) (t:TypeId) (x:Value) (lo hi b:Option Value):Option Value:=
  match P.underlying t,x with
  |some (.slice e),.slice a len cap=>
    if km<=cap then
      match a with
      |none=>none
      |some a=>
        if cap=km+JO P e/\(P.underlying e).isSome then
          match aBounds len len lo hi b with
          |some (l,h,m)=>if b.isSome then(if m=0 then some (.slice (some a) 0 0)else if m<km then some (.slice (some (if m=l then a else Co a (l*JO P e))) (h-l) (m-l))else none)
            else some (.slice (some (Co a (l*JO P e))) (h-l) cap)
          |none=>none
        else none
    else if len<=cap/\(P.underlying e).isSome then
      match aBounds len cap lo hi b with
      |some (l,h,m)=>some (.slice (if m=l then a else a.map (fun a=>Co a (l*JO P e))) (h-l) (m-l))
      |none=>none
    else none
  |some (.array n e),.pointer (some a)=>
    if(P.underlying e).isSome/\n<km then
      match aBounds n n lo hi b with
      |some (l,h,m)=>some (.slice (some (if m=l then a else Co a (l*JO P e))) (h-l) (m-l))
      |none=>none
    else none
  |some .string,.string s=>
    match b with
    |some _=>none
    |none=>match aBounds s.size s.size lo hi none with
      |some (l,h,_)=>some (.string (s.extract l h))
      |none=>none
  |_,_=>none
def AR.slice {n:Nat} {m:Ti} {a a':Addr} {len cap:Nat} (h:AR n m a a') (b:cap<km):VR n m (.slice (some a) len cap) (.slice (some a') len cap):=by
 cases h with
 |own h=>exact .slice h b
 |ext=>exact .XW b
def AR.Fy {n:Nat} {m:Ti} {a a':Addr} (h:AR n m a a') (p:Prop) [Decidable p] (k:Nat):AR n m (if p then a else Co a k) (if p then a' else a'.add k):=by
 split
 .exact h
 .exact h.add k
def aJ {n:Nat} {m:Ti} {P:Program} {t:TypeId} {x x' v:Value} {lo hi K C D E:Option Value} (L:VR n m x x') (u:VRo n m lo C) (y:VRo n m hi D) (o:VRo n m K E)
  (e:aSlice P t x lo hi K=some v) (w:World):∃v',(Instr.sliceAt t x' C D E).run P w=.ok v' w/\VR n m v v':=by
 unfold aSlice at e;split at e
 .rename_i el a len cap z
  split at e
  .rename_i A
   split at e
   .cases e
   .rename_i a
    split at e
    .rename_i p
     obtain⟨p,q⟩:=p;obtain⟨d,G⟩:=yL.1 q;split at e
     .rename_i l hh mm hb
      cases L with
      |flat hf=>simp[Fw.flat]at hf
      |slice g F=>omega
      |XW F=>omega
      |empty=>simp[km]at A
      |buf g V ha=>
       rename_i id off k cap' a';have X:k=JO P el:=QT;subst X;obtain⟨c,B,h2,h3,H⟩:=aG P true u y o V (J4 _) hb w;have i:=NL (P:=P) G w;split at e
       .rename_i r
        rw[if_pos r]at c;split at e
        .rename_i I
         injection e with e;subst e;subst I;have M:l=0:=QT;have N:hh=0:=QT;subst M;subst N;refine⟨.slice (some a') 0 0,?_,.empty⟩;simp[Instr.sliceAt,Instr.slice,run_underlying z,c,i]
        .rename_i I
         split at e
         case isFalse=>cases e
         rename_i Y;injection e with e;subst e;have O:cap'≠0:=QT;obtain⟨rfl,J⟩:=ha.resolve_right O;refine⟨_,by simp only[Instr.sliceAt,Instr.slice,run_underlying z,c,i,Sem.run_bind,Result.andThen_ok,Sem.run_pure];rfl,?_⟩;have Q:mm-l<km:=QT;have:=(AR.own (m:=m) (off:=off) g).Fy (mm=l) (l*JO P el);have hs:=this.slice (len:=hh-l) Q;split
         .rename_i f;simp only[f,if_true]at hs ⊢;exact hs
         .rename_i f;simp only[f,if_false]at hs ⊢;exact hs
       .rename_i r
        rw[if_neg r]at c;injection e with e;subst e;refine⟨_,by simp only[Instr.sliceAt,Instr.slice,run_underlying z,c,i,Sem.run_bind,Result.andThen_ok,Sem.run_pure];rfl,?_⟩;rw[p];split
        .rename_i f
         exact .buf g QT (.inr QT)
        .rename_i f
         refine .buf g QT ?_;rcases ha with⟨rfl,J⟩|h0
         .refine .inl ⟨by simp [WZ, Lj], ?_⟩
          have:l*JO P el+(cap'-l)*JO P el=cap'*JO P el:=by rw[<-WB];congr 1;omega
          show(m id).base+(off+l*JO P el)+(cap'-l)*JO P el<=(m id).lim/\cap'-l<km;omega
         .exact .inr QT
     .cases e
    .cases e
  .rename_i A
   split at e
   .rename_i F
    obtain⟨R,q⟩:=F;obtain⟨d,G⟩:=yL.1 q;have i:=NL (P:=P) G w;split at e
    .rename_i l hh mm hb
     injection e with e;subst e;have Z:cap<km:=QT
     have j:∀a',(∃c',x'=.slice a' len c'/\c'=cap)->(∃w',w'=w)->(Instr.sliceAt t x' C D E).run P w=.ok (.slice (if mm=l then a' else a'.map (·.add (l*JO P el))) (hh-l) (mm-l)) w/\l<=hh/\hh<=mm/\mm<=cap:=by
      rintro a' ⟨c',rfl,rfl⟩ _;obtain⟨c,B,h2,h3,H⟩:=aG P true u y o (J4 _) R hb w;refine⟨?_,B,h2,h3⟩
      have S:(if K.isSome then mm else c')=mm:=by
       cases o with
       |none=>simp[H rfl]
       |some h=>simp
      rw[S]at c;simp[Instr.sliceAt,Instr.slice,run_underlying z,c,i]
     cases L with
     |flat hf=>
      cases a with
      |some a=>simp[Fw.flat]at hf
      |none=>
       obtain⟨c,B,h2,h3⟩:=j none ⟨_,rfl,rfl⟩ ⟨w,rfl⟩;refine⟨_,c,?_⟩;simp[Fw.flat]at hf;have T:hh-l=0:=QT;have W:mm-l=0:=QT;simp only[Option.map_none,ite_self,T,W];exact .flat rfl
     |slice g F=>
      rename_i id off;obtain⟨c,B,h2,h3⟩:=j _ ⟨_,rfl,rfl⟩ ⟨w,rfl⟩;refine⟨_,c,?_⟩;have:=((AR.own (m:=m) (off:=off) g).Fy (mm=l) (l*JO P el)).slice (len:=hh-l) (cap:=mm-l) QT;split
      .rename_i f;simp only[f,if_true]at this ⊢;exact this
      .rename_i f;simp only[f,if_false]at this ⊢;exact this
     |buf g V ha=>omega
     |XW F=>
      rename_i b off;obtain⟨c,B,h2,h3⟩:=j _ ⟨_,rfl,rfl⟩ ⟨w,rfl⟩;refine⟨_,c,?_⟩;have:=((AR.ext (n:=n) (m:=m) (b:=b) (off:=off)).Fy (mm=l) (l*JO P el)).slice (len:=hh-l) (cap:=mm-l) QT;split
      .rename_i f;simp only[f,if_true]at this ⊢;exact this
      .rename_i f;simp only[f,if_false]at this ⊢;exact this
     |empty=>
      obtain⟨c,B,h2,h3⟩:=j _ ⟨_,rfl,rfl⟩ ⟨w,rfl⟩;refine⟨_,c,?_⟩;have e0:mm=l:=QT;have T:hh-l=0:=QT;have W:mm-l=0:=QT;simp only[e0,if_true,T,iE];exact .empty
    .cases e
   .cases e
 .rename_i PA el a z
  split at e
  .rename_i F
   obtain⟨q,ad⟩:=F;obtain⟨d,G⟩:=yL.1 q;have i:=NL (P:=P) G w;split at e
   .rename_i l hh mm hb
    injection e with e;subst e;obtain⟨a',rfl,U⟩:=L.oK;obtain⟨c,B,h2,h3,H⟩:=aG P false u y o (J4 _) (J4 _) hb w
    have S:(if K.isSome then mm else PA)=mm:=by
     cases o with
     |none=>simp[H rfl]
     |some h=>simp
    rw[S]at c
    refine⟨.slice (some (if mm=l then a' else a'.add (l*JO P el))) (hh-l) (mm-l),by simp[Instr.sliceAt,Instr.sureAddr,run_underlying z,c,i],?_⟩
    exact(U.Fy (mm=l) (l*JO P el)).slice QT
   .cases e
  .cases e
 .rename_i s z
  split at e
  .cases e
  .split at e
   .rename_i l hh mm hb
    injection e with e;subst e;have:=L.Z1;subst this;cases o;obtain⟨c,B,h2,h3,H⟩:=aG P false u y .none (J4 _) (J4 _) hb w;exact⟨.string (s.extract l hh),by simp[Instr.sliceAt,Instr.slice,run_underlying z,c],.flat rfl⟩
   .cases e
 .cases e
def aIndexAddr (P:Program) (t:TypeId) (x b:Value):Option Value:=
 match P.underlying t,x,b with
 |some (.slice e),.slice (some a) len _,.int _ i=>
  if 0<=i/\i<(len:Int)/\(P.underlying e).isSome then some (.pointer (some (Co a (i.toNat*JO P e))))else none
 |some (.array n e),.pointer (some a),.int _ i=>
  if 0<=i/\i<(n:Int)/\(P.underlying e).isSome then some (.pointer (some (Co a (i.toNat*JO P e))))else none
 |_,_,_=>none
def qI {n:Nat} {m:Ti} {P:Program} {t:TypeId} {x x' y l v:Value} (z:VR n m x x') (hi:VR n m y l) (e:aIndexAddr P t x y=some v) (w:World):
  ∃v',(Instr.indexAt t x' l).run P w=.ok v' w/\VR n m v v':=by
 unfold aIndexAddr at e;split at e
 .rename_i el a len cap k i q
  split at e
  .rename_i o
   obtain⟨r,p,c⟩:=o;obtain⟨d,s⟩:=yL.1 c;injection e with e;subst e;have:=hi.oe;subst this;have f:=NL (P:=P) s w;have g:0<=i/\i<(len:Int):=⟨r,p⟩;have b:∀a' c',(Instr.indexAt t (.slice (some a') len c') (.int k i)).run P w=.ok (.pointer (some (a'.add (i.toNat*JO P el)))) w:=by
    intro a' c';simp[Instr.indexAt,asIntOf,run_underlying q,g,f]
   cases z with
   |flat hf=>simp[Fw.flat]at hf
   |slice j o=>exact⟨_,b _ _,((AR.own j).add _).ptr⟩
   |buf j A ha=>
    obtain⟨rfl,_⟩:=ha.resolve_right QT;exact⟨_,b _ _,((AR.own j).add _).ptr⟩
   |XW o=>exact⟨_,b _ _,(AR.ext.add _).ptr⟩
   |empty=>simp at p;omega
  .cases e
 .rename_i PA el a k i q
  split at e
  .rename_i o
   obtain⟨r,p,c⟩:=o;obtain⟨d,s⟩:=yL.1 c;injection e with e;subst e;have:=hi.oe;subst this;have f:=NL (P:=P) s w;obtain⟨a',rfl,u⟩:=z.oK;have g:0<=i/\i<(PA:Int):=⟨r,p⟩;exact⟨.pointer (some (a'.add (i.toNat*JO P el))),by simp[Instr.indexAt,asIntOf,run_underlying q,g,f,Instr.sureAddr],(u.add _).ptr⟩
  .cases e
 .cases e
def aField (P:Program) (s:TypeId) (x:Value) (f:Nat):Option Value:=
 match P.underlying s,x with
 |some (.struct b),.pointer (some a)=>
  match b[f]? with
  |some fd=>if JO P fd.type≠0 then some (.pointer (some (Co a fd.offset)))else none
  |none=>none
 |_,_=>none
def yx {P:Program} {t:TypeId} (h:JO P t≠0) (w:World):(sizeOf t).run P w=.ok (JO P t) w:=by
 unfold JO Program.cellsOf at*;cases hi:P.info? t with
 |none=>rw[hi]at h;simp at h
 |some i=>simp[sizeOf,typeInfo,hi]
def ZF {n:Nat} {m:Ti} {P:Program} {s:TypeId} {x x' v:Value} {f:Nat} (d:VR n m x x') (e:aField P s x f=some v) (w:World):
  ∃v',(Instr.fieldAt s x' f).run P w=.ok v' w/\VR n m v v':=by
 unfold aField at e;split at e
 .rename_i i a g
  split at e
  .rename_i fd hf
   split at e
   .rename_i c
    injection e with e;subst e;obtain⟨a',rfl,b⟩:=d.oK;exact⟨.pointer (some (a'.add fd.offset)),by simp[Instr.fieldAt,run_underlying g,hf,Instr.sureAddr,fieldPlace,yx c,c],(b.add _).ptr⟩
   .cases e
  .cases e
 .cases e
def aPart (P:Program) (t:TypeId) (cs:Array Value) (off:Nat):Option Value:=
 match P.underlying t with
 |some d=>bif isAggD d then some (.agg (cs.extract off (off+JO P t)))else cs[off]?
 |none=>none
def iG {n:Nat} {m:Ti} {P:Program} {t:TypeId} {cs a:Array Value} {off:Nat} {v:Value} (f:xC n m cs.toList a.toList) (e:aPart P t cs off=some v) (w:World):
  ∃v',(part t a off).run P w=.ok v' w/\VR n m v v':=by
 unfold aPart at e;split at e
 .rename_i d c
  cases b:isAggD d with
  |true=>
   simp only[b,cond_true]at e;injection e with e;subst e;refine⟨.agg (a.extract off (off+JO P t)),by simp[part,bB c,b,NL c],.DA ?_⟩;simp only[qL250,qL225];exact(f.drop _).take _
  |false=>
   simp only[b,cond_false]at e;obtain⟨v',g,h2⟩:=f.get (i:=off) (v:=v) (by simpa using e);exact⟨v',by simp[part,bB c,b,show a[off]?=some v' from by simpa using g],h2⟩
 .cases e
def aFieldV (P:Program) (s:TypeId) (x:Value) (f:Nat):Option Value:=
 match P.underlying s,x with
 |some (.struct a),.agg cs=>
  match a[f]? with
  |some fd=>aPart P fd.type cs fd.offset
  |none=>none
 |_,_=>none
def vP {n:Nat} {m:Ti} {P:Program} {s:TypeId} {x x' v:Value} {f:Nat} (b:VR n m x x') (e:aFieldV P s x f=some v) (w:World):
  ∃v',(Instr.field s x' f).run P w=.ok v' w/\VR n m v v':=by
 unfold aFieldV at e;split at e
 .rename_i i cs c
  split at e
  .rename_i fd hf
   obtain⟨d,rfl,a⟩:=b.HC;obtain⟨v',g,h2⟩:=iG a e w;exact⟨v',by simp[Instr.field,run_underlying c,hf,asAgg,g],h2⟩
  .cases e
 .cases e
def aIndexV (P:Program) (t:TypeId) (x a:Value):Option Value:=
 match P.underlying t,x,a with
 |some (.array n e),.agg cs,.int _ i=>if 0<=i/\i<(n:Int)/\(P.underlying e).isSome then aPart P e cs (i.toNat*JO P e)else none
 |some .string,.string s,.int _ i=>if 0<=i then match s[i.toNat]? with|some b=>some (.int .u8 b.toNat)|none=>none else none
 |_,_,_=>none
def An {n:Nat} {m:Ti} {P:Program} {t:TypeId} {x x' p a v:Value} (q:VR n m x x') (hi:VR n m p a) (e:aIndexV P t x p=some v) (w:World):
  ∃v',(Instr.index t x' a).run P w=.ok v' w/\VR n m v v':=by
 unfold aIndexV at e;split at e
 .rename_i PA el cs k i c
  split at e
  .rename_i r
   obtain⟨f,u,g⟩:=r;obtain⟨d,y⟩:=yL.1 g;have:=hi.oe;subst this;obtain⟨z,rfl,j⟩:=q.HC;obtain⟨v',l,h2⟩:=iG j e w;have o:0<=i/\i<(PA:Int):=⟨f,u⟩;exact⟨v',by simp[Instr.index,asIntOf,run_underlying c,o,NL y,l],h2⟩
  .cases e
 .rename_i s k i c
  split at e
  .rename_i f
   split at e
   .rename_i b hb
    injection e with e;subst e;have:=hi.oe;subst this;have:=q.Z1;subst this;exact⟨.int .u8 b.toNat,by simp[Instr.index,asIntOf,run_underlying c,f,hb],.flat rfl⟩
   .cases e
  .cases e
 .cases e
def aExtract (x:Value) (i:Nat):Option Value:=match x with|.tuple vs=>vs[i]?|_=>none
def Y0 {n:Nat} {m:Ti} {P:Program} {x x' v:Value} {i:Nat} (c:VR n m x x') (e:aExtract x i=some v) (w:World):
  ∃v',(Instr.extract x' i).run P w=.ok v' w/\VR n m v v':=by
 unfold aExtract at e;split at e
 .obtain ⟨a, rfl, b⟩ := c.lx
  obtain⟨v',d,h2⟩:=b.get (i:=i) (v:=v) (by simpa using e);exact⟨v',by simp[Instr.extract,show a[i]?=some v' from by simpa using d],h2⟩
 .cases e
def afill (place:Nat->Option (Nat×Nat)) (cells:List Value):List (Nat×Value)->Option (List Value)
 |[]=>some cells
 |(i,v)::rest=>
  match place i with
  |none=>none
  |some (off,size)=>
   if v.cells.size=size/\off+size<=cells.length then afill place (putCells cells off v.cells.toList) rest else none
def re (vs:List Value):∀(C:Array Value) (off s:Nat),((vs.zipIdx s).foldl (fun cs (c,j)=>cs.setIfInBounds (off+j) c) C).toList=putCells C.toList (off+s) vs:=by
 induction vs with
 |nil=>intro C off s;rfl
 |cons v vs a=>
  intro C off s;simp only[List.zipIdx_cons,kT,putCells];rw[a];simp[Lj]
def VR.cells {n:Nat} {m:Ti} {v v':Value} (h:VR n m v v'):xC n m v.cells.toList v'.cells.toList:=by
 cases h with
 |agg hs h=>exact⟨by simpa[Value.cells]using hs,fun i v v' e e'=>h i v v' (by simpa[Value.cells]using e) (by simpa[Value.cells]using e')⟩
 |@flat v hf=>
  have:v.cells=#[v]:=by cases v<;>first|rfl|simp[Fw.flat]at hf
  rw[this];exact .cons (.flat hf) (.nil _ _)
 |ptr h=>exact .cons (.ptr h) (.nil _ _)
 |Gq=>exact .cons .Gq (.nil _ _)
 |slice h f=>exact .cons (.slice h f) (.nil _ _)
 |buf h g ha=>exact .cons (.buf h g ha) (.nil _ _)
 |XW f=>exact .cons (.XW f) (.nil _ _)
 |empty=>exact .cons .empty (.nil _ _)
 |map h=>exact .cons (.map h) (.nil _ _)
 |func a b c d=>exact .cons (.func a b c d) (.nil _ _)
 |iface h=>exact .cons (.iface h) (.nil _ _)
 |tuple a b=>exact .cons (.tuple a b) (.nil _ _)
def xC.putCells {n:Nat} {m:Ti}:∀{vs a:List Value} {c c':List Value} (off:Nat),xC n m c c'->xC n m vs a->xC n m (Fw.putCells c off vs) (Fw.putCells c' off a)
 |[],a,c,c',off,d,b=>by
  have:a=[]:=b7 (by rw[<-b.1];rfl);subst this;exact d
 |v::vs,[],c,c',off,d,b=>by simp[xC]at b
 |v::vs,v'::a,c,c',off,d,b=>xC.putCells (off+1) (d.set off (b.2 0 v v' rfl rfl)) (by simpa using b.drop 1)
inductive PRs (n:Nat) (m:Ti):List (Nat×Value)->List (Nat×Value)->Prop
 |nil:PRs n m [] []
 |cons {i:Nat} {v v':Value} {l l':List (Nat×Value)} (h:VR n m v v') (hl:PRs n m l l'):PRs n m ((i,v)::l) ((i,v')::l')
def EI {n:Nat} {m:Ti} (place:Nat->Option (Nat×Nat)) {ps b:List (Nat×Value)} (o:PRs n m ps b):∀{c r:List Value} {C:Array Value},xC n m c C.toList->afill place c ps=some r->
  ∃R,Instr.fill place C b=some R/\xC n m r R.toList:=by
 induction o with
 |nil=>intro c r C d e;simp[afill]at e;subst e;exact⟨C,rfl,d⟩
 |@cons i v v' l l' p t q=>
  intro c r C d e;simp only[afill]at e;split at e
  .cases e
  .rename_i off size f
   split at e
   .rename_i hh
    obtain⟨u,h2⟩:=hh;have a:=p.cells;have g:v'.cells.size=size:=by have:=a.1;simp at this;omega
    have hlen:C.size=c.length:=by have:=d.1;simp at this;omega
    obtain⟨R,hR,s⟩:=q (C:=v'.cells.toList.zipIdx.foldl (fun cs (c,j)=>cs.setIfInBounds (off+j) c) C) (by
     rw[re];exact d.putCells _ a) e
    refine⟨R,?_,s⟩;simp only[Instr.fill,f,g];have k:¬(off+size>C.size):=QT;simp only[ne_eq,not_true_eq_false,decide_false,Bool.false_or,k];rw[<-Array.foldl_toList];rw[Array.toList_zipIdx];exact hR
   .cases e
def OK (P:Program) (W0:Ac) (m:Ti) (h:AHeap) (w:World) (s:Sem Value) (v:Value) (h':AHeap):Prop:=
 ∃a v' w',s.run P w=.ok v' w'/\Rel W0 a h' w'/\Yk h.next m a/\h.next<=h'.next/\VR h'.next a v v'
def OK.pure {P:Program} {s:Sem Value} {v:Value} (R:Rel W0 m h w) (e:∃v',s.run P w=.ok v' w/\VR h.next m v v'):OK P W0 m h w s v h:=
 let⟨v',a,h2⟩:=e;⟨m,v',w,a,R,.refl _ _,J4 _,h2⟩
def azero (P:Program) (t:TypeId):Option Value:=match P.info? t with|some i=>i.zero|none=>none
def yD {P:Program} {t:TypeId} {z:Value} (a:azero P t=some z) (w:World):(zeroValue t).run P w=.ok z w:=by
 unfold azero at a;split at a
 .rename_i i hi;simp[zeroValue,typeInfo,hi,a]
 .cases a
def QX (h:AHeap) (c:List Value):Option (Addr×AHeap):=
 if c.all (·.oneCell')then some (⟨h.next,0,none⟩,h.alloc (.cells c))else none
def u7 {P:Program} (R:Rel W0 m h w) {c C:List Value} {a:Addr} {h':AHeap} (e:TypeId) (f:xC h.next m c C) (b:QX h c=some (a,h')):
  ∃d a' w',(newRow e C.toArray).run P w=.ok a' w'/\Rel W0 d h' w'/\Yk h.next m d/\h.next<=h'.next/\AR h'.next d a a':=by
 unfold QX at b;split at b
 .rename_i g
  injection b with b;simp only[Ig]at b;obtain⟨rfl,rfl⟩:=b
  refine⟨Zi m h.next ⟨w.heap.size,0,C.length⟩,⟨w.heap.size,0,none⟩,w.alloc (.cells C.toArray e),by simp[newRow],R.alloc_eq e f g,B8 _ _ _,Yl _,?_⟩
  have:=AR.own (n:=h.next+1) (m:=Zi m h.next ⟨w.heap.size,0,C.length⟩) (id:=h.next) (off:=0) (SP _)
  rw[Rp]at this;exact this
 .cases b
def aAlloc (P:Program) (h:AHeap) (t:TypeId):Option (Value×AHeap):=
 match azero P t with
 |some z=>if z.cells.toList.all flat then match QX h z.cells.toList with|some (a,h')=>some (.pointer (some a),h')|none=>none else none
 |none=>none
def bg {P:Program} (R:Rel W0 m h w) {t:TypeId} {v:Value} {h':AHeap} (e:aAlloc P h t=some (v,h')):OK P W0 m h w (Instr.alloc t true (.tuple #[])) v h':=by
 unfold aAlloc at e;split at e
 .rename_i z c
  split at e
  .rename_i hf
   split at e
   .rename_i a h2 d
    injection e with e;simp only[Ig]at e;obtain⟨rfl,rfl⟩:=e;obtain⟨f,a',w',g,h2,h3,i,j⟩:=u7 (P:=P) R t (xC.flat hf) d;refine⟨f,.pointer (some a'),w',?_,h2,h3,i,j.ptr⟩;have b:(newRow t z.cells).run P w=.ok a' w':=by simpa using g
    simp[Instr.alloc,yD c,newVar,b]
   .cases e
  .cases e
 .cases e
def Qq (h:AHeap) (x:Value):Option (Value×AHeap):=match QX h x.cells.toList with|some (a,h')=>some (.pointer (some a),h')|none=>none
def aBox_ok {P:Program} (R:Rel W0 m h w) {t:TypeId} {x x' v:Value} {h':AHeap} (c:VR h.next m x x') (e:Qq h x=some (v,h')):OK P W0 m h w (Instr.box t x') v h':=by
 unfold Qq at e;split at e
 .rename_i a h2 d
  injection e with e;simp only[Ig]at e;obtain⟨rfl,rfl⟩:=e;obtain⟨f,a',w',g,h2,h3,i,j⟩:=u7 (P:=P) R t c.cells d;refine⟨f,.pointer (some a'),w',?_,h2,h3,i,j.ptr⟩;have b:(newRow t x'.cells).run P w=.ok a' w':=by simpa using g
  simp[Instr.box,newVar,b]
 .cases e
def aPlaces (P:Program) (t:TypeId):Option (Nat->Option (Nat×Nat)):=
 match P.underlying t with
 |some (.struct a)=>if a.toList.all (fun f=>(P.underlying f.type).isSome)then some (fun i=>(a.map (fun f=>(f.offset,JO P f.type)))[i]?)else none
 |some (.array _ e)=>if(P.underlying e).isSome then some (fun i=>some (i*JO P e,JO P e))else none
 |_=>none
def aBuild (P:Program) (t:TypeId) (parts:List (Nat×Value)):Option Value:=
 match azero P t,aPlaces P t with
 |some z,some pl=>if z.cells.toList.all flat then match afill pl z.cells.toList parts with|some r=>some (.agg r.toArray)|none=>none else none
 |_,_=>none
def run_places {P:Program} (w:World):∀(a:List Field),a.all (fun f=>(P.underlying f.type).isSome)=true->
  (a.mapM (m:=Sem) fun f=>do pure (f.offset,<-sizeOf f.type)).run P w=.ok (a.map (fun f=>(f.offset,JO P f.type))) w
 |[],_=>by simp
 |f::a,h=>by
  simp only[FD,SH]at h;obtain⟨d,b⟩:=yL.1 h.1;simp only[List.mapM_cons,Sem.run_bind,NL b,Result.andThen_ok,Sem.run_pure,run_places w a h.2,Kj]
def wK {n:Nat} {m:Ti} {P:Program} {t:TypeId} {ps c:List (Nat×Value)} {v:Value} (l:PRs n m ps c) (e:aBuild P t ps=some v) (w:World):
  ∃v',(Instr.build t c.toArray).run P w=.ok v' w/\VR n m v v':=by
 unfold aBuild at e;split at e
 .rename_i z pl o a
  split at e
  .rename_i hf
   split at e
   .rename_i r p
    injection e with e;subst e;unfold aPlaces at a;split at a
    .rename_i i j
     split at a
     .rename_i g
      injection a with a;subst a;obtain⟨R,hR,b⟩:=EI _ l (xC.flat hf) p
      have q:(Array.mapM (m:=Sem) (fun f=>do pure (f.offset,<-sizeOf f.type)) i).run P w=.ok (i.map (fun f=>(f.offset,JO P f.type))) w:=by
       have:=run_places (P:=P) w i.toList g;rw[qL226,map_eq_pure_bind,Sem.run_bind,this];simp only[Result.andThen_ok,Sem.run_pure];congr 1;apply XX.1;simp
      refine⟨.agg R,?_,.DA (by simpa using b)⟩;simp only[Instr.build,Sem.run_bind,yD o,Result.andThen_ok,run_underlying j,q];rw[hR];simp
     .cases a
    .rename_i PA el j
     split at a
     .rename_i k
      obtain⟨d,s⟩:=yL.1 k;injection a with a;subst a;obtain⟨R,hR,b⟩:=EI _ l (xC.flat hf) p;refine⟨.agg R,?_,.DA (by simpa using b)⟩;simp only[Instr.build,Sem.run_bind,yD o,Result.andThen_ok,run_underlying j,NL s];rw[hR];simp
     .cases a
    .cases a
   .cases e
  .cases e
 .cases e
def aBuildSlice (P:Program) (h:AHeap) (t:TypeId) (len:Nat) (parts:List (Nat×Value)):Option (Value×AHeap):=
 match P.underlying t with
 |some (.slice e)=>
  match azero P e with
  |some z=>
   if z.cells.toList.all flat/\z.cells.size=JO P e/\(P.underlying e).isSome/\len*JO P e<=1000000/\len<=1000000 then
    match afill (fun i=>some (i*JO P e,JO P e)) (zrow z.cells.toList len) parts with
    |some r=>match QX h r with|some (a,h')=>some (.slice (some a) len len,h')|none=>none
    |none=>none
   else none
  |none=>none
 |_=>none
def Bh {P:Program} (R:Rel W0 m h w) {t:TypeId} {len:Nat} {ps b:List (Nat×Value)} {v:Value} {h':AHeap} (x:PRs h.next m ps b)
  (e:aBuildSlice P h t len ps=some (v,h')):OK P W0 m h w (Instr.buildSlice t len b.toArray) v h':=by
 unfold aBuildSlice at e;split at e
 .rename_i el y
  split at e
  .rename_i z A
   split at e
   .rename_i B
    obtain⟨hf,l,n,hlen,o⟩:=B;obtain⟨d,D⟩:=yL.1 n;split at e
    .rename_i r E
     split at e
     .rename_i a h2 F
      injection e with e;simp only[Ig]at e;obtain⟨rfl,rfl⟩:=e;have c:=QL z.cells len (len*JO P el) (by rw[l]);obtain⟨C,k,p⟩:=EI (C:=(Array.range (len*JO P el)).map (fun i=>z.cells[i%z.cells.size]!)) _ x (by rw[c];exact xC.flat (Dv _ _ hf len)) E;obtain⟨G,a',w',H,h2,h3,I,J⟩:=u7 (P:=P) R el p F;have g:(newRow el C).run P w=.ok a' w':=by simpa using H
      have q:len<km:=by simp only[km];omega
      refine⟨G,.slice (some a') len len,w',?_,h2,h3,I,J.slice q⟩;have s:¬(2^24<len*JO P el):=QT;simp only[Instr.buildSlice,Sem.run_bind,run_underlying y,Result.andThen_ok,NL D];rw[if_neg (by simpa using s)];split
      .rename_i u
       rw[u]at k;simp only[Sem.run_bind,Sem.run_pure,Result.andThen_ok,u];have j:∀f:Nat->Value,(Array.range 0).map f=#[]:=fun f=>by simp
       rw[j]at k;simp only[j,k,Sem.run_bind,g,Result.andThen_ok,Sem.run_pure]
      .simp only[Sem.run_bind,Sem.run_pure,Result.andThen_ok,yD A,k,g]
     .cases e
    .cases e
   .cases e
  .cases e
 .cases e
def aStore (P:Program) (h:AHeap) (t:TypeId) (a x:Value):Option AHeap:=
 match a with
 |.pointer (some ⟨id,off,none⟩)=>
  match h.own id with
  |some (.cells c)=>
   if x.cells.size=JO P t/\(P.underlying t).isSome/\off+x.cells.size<=c.length/\x.cells.toList.all (·.oneCell')then
    some (h.put id (.cells (putCells c off x.cells.toList)))
   else none
  |_=>none
 |_=>none
def VR.Hr {n:Nat} {m:Ti} {v v':Value} (h:VR n m v v'):v'.cells.size=v.cells.size:=by
 have:=h.cells.1;simpa using this.symm
def Pv {P:Program} (R:Rel W0 m h w) {t:TypeId} {a a' x x':Value} {h':AHeap} (ha:VR h.next m a a') (b:VR h.next m x x') (e:aStore P h t a x=some h'):
  ∃w',(Instr.storeAt t a' x').run P w=.ok () w'/\Rel W0 m h' w'/\h'.next=h.next:=by
 unfold aStore at e;split at e
 .rename_i id off
  split at e
  .rename_i c g
   split at e
   .rename_i i
    obtain⟨j,h2,h3,k⟩:=i;obtain⟨d,l⟩:=yL.1 h2;injection e with e;subst e;cases ha with
    |flat hf=>simp[Fw.flat]at hf
    |ptr n=>
     have f:x'.cells.size=JO P t:=by rw[b.Hr,j]
     obtain⟨w',hw,R'⟩:=Rel.Qw P x.cells.toList x'.cells.toList 0 R g (by simpa using h3) b.cells (b.cells.wN k);refine⟨w',?_,by simpa using R',rfl⟩;simp[Instr.storeAt,Instr.sureAddr,storeVar,NL l,f,hw]
   .cases e
  .cases e
 .cases e
def aMakeSlice (P:Program) (h:AHeap) (t:TypeId) (l c:Value):Option (Value×AHeap):=
 match P.underlying t,l,c with
 |some (.slice e),.int _ l,.int _ c=>
  match azero P e with
  |some z=>
   if z.cells.toList.all flat/\z.cells.size=JO P e/\(P.underlying e).isSome/\0<=l/\l<=c/\(P.bytesOf e:Int)*c<=140737488355328/\c<=140737488355328 then
    match QX h (zrow z.cells.toList c.toNat)with
    |some (a,h')=>some (.slice (some a) l.toNat c.toNat,h')
    |none=>none
   else none
  |none=>none
 |_,_,_=>none
def info_of_underlying {P:Program} {t:TypeId} {d:TypeDesc} (a:P.underlying t=some d):∃i,P.info? t=some i/\P.bytesOf t=i.bytes/\JO P t=i.size:=by
 unfold Program.underlying at a;cases hi:P.info? t with
 |none=>rw[hi]at a;cases a
 |some i=>exact⟨i,rfl,by simp[Program.bytesOf,hi],by simp[JO,Program.cellsOf,hi]⟩
def CY {P:Program} (R:Rel W0 m h w) {t:TypeId} {l l' c c' v:Value} {h':AHeap} (C:VR h.next m l l') (D:VR h.next m c c')
  (e:aMakeSlice P h t l c=some (v,h')):OK P W0 m h w (Instr.makeSlice t l' c') v h':=by
 unfold aMakeSlice at e;split at e
 .rename_i el k li k2 ci E
  split at e
  .rename_i z F
   split at e
   .rename_i g
    obtain⟨hf,q,r,N,O,hb,G⟩:=g;obtain⟨d,B⟩:=yL.1 r;obtain⟨i,hi,s,H⟩:=info_of_underlying B;split at e
    .rename_i a h2 I
     injection e with e;simp only[Ig]at e;obtain⟨rfl,rfl⟩:=e;have:=C.oe;subst this;have:=D.oe;subst this;have j:=QL z.cells ci.toNat (ci.toNat*JO P el) (by rw[q]);obtain⟨J,a',w',n,u,x,y,A⟩:=u7 (P:=P) R el (xC.flat (Dv _ _ hf ci.toNat)) I;have b:(newRow el ((Array.range (ci.toNat*JO P el)).map (fun i=>z.cells[i%z.cells.size]!))).run P w=.ok a' w':=by
      rw[<-j]at n;exact n
     refine⟨J,.slice (some a') li.toNat ci.toNat,w',?_,u,x,y,A.slice (by simp only[km];omega)⟩;have w1:IntKind.i64.wrap li=li:=by rw[<-pE];exact GQ _ QT QT
     have K:IntKind.i64.wrap ci=ci:=by rw[<-pE];exact GQ _ QT QT
     rw[s]at hb;have n1:¬(ci<0):=QT;have L:(i.bytes:Int)*ci<=281474976710656:=QT;have n3:¬(li<0):=QT;have M:¬(ci<li):=QT;simp only[Instr.makeSlice,Sem.run_bind,run_underlying E,Result.andThen_ok,asInt,asIntOf,Sem.run_pure,typeInfo,run_program,hi,w1,K];rw[if_neg (by simp[n1,L,n3,M])];simp only[Sem.run_bind,run_askRoom,Result.andThen_ok,NL B];split
     .rename_i o
      simp only[Sem.run_bind,Sem.run_pure,Result.andThen_ok,o];have p:∀f:Nat->Value,(Array.range 0).map f=#[]:=fun f=>by simp
      rw[o,p]at b;simp only[p,b,Result.andThen_ok]
     .simp only[Sem.run_bind,Sem.run_pure,Result.andThen_ok,yD F,b]
    .cases e
   .cases e
  .cases e
 .cases e
def notIntD:TypeDesc->Bool
 |.int _=>false
 |_=>true
def run_append_room' {P:Program} {t xt e:TypeId} {g d:TypeDesc} (ty:TypeId) (j:P.underlying t=some (.slice e)) (l:P.underlying xt=some g) (i:notIntD g=true) (o:P.underlying e=some d)
  {base:Option Addr} {sLen sCap n:Nat} {x':Value} {new:Array Value} {w w':World} (p:(Builtin.lenOf x').run P w=.ok n w) (f:(Builtin.firstCells (JO P e) n x').run P w=.ok new w)
  (c:sLen+n<=sCap) (b:(match base with|some a=>(storeCells (a.add (sLen*JO P e)) new.toList)|none=>pure ()).run P w=.ok () w'):
  (Builtin.append_ #[t,xt] ty #[.slice base sLen sCap,x']).run P w=.ok (.slice base (sLen+n) sCap) w':=by
 unfold Builtin.append_;simp only[Ki,WJ,pF,Sem.run_bind,run_underlying j,Result.andThen_ok,NL o,Sem.run_pure,run_underlying l];cases g
 case int k=>simp[notIntD]at i
 all_goals
  simp only[Z2,if_false,p,Result.andThen_ok,c,if_true,Sem.run_bind,qE,f];cases base with
  |none=>simp only[Sem.run_pure,Result.ok.injEq,true_and]at b;subst b;rfl
  |some a=>simp only[]at b;simp only[Sem.run_bind,b,Result.andThen_ok,Sem.run_pure]
def ID {P:Program} {t xt e:TypeId} {f d:TypeDesc} (ty:TypeId) {z:Value} (u:P.underlying t=some (.slice e)) (v:P.underlying xt=some f) (g:notIntD f=true) (r:P.underlying e=some d)
  (x:azero P e=some z) {base:Option Addr} {sLen sCap n:Nat} {x':Value} {cW new:Array Value} {w:World} (y:(Builtin.lenOf x').run P w=.ok n w)
  (c:(Builtin.firstCells (JO P e) n x').run P w.drew=.ok new w.drew) (hold:(Builtin.firstCells (JO P e) sLen (.slice base sLen sCap)).run P w.drew=.ok cW w.drew)
  (b:sCap<sLen+n) (hb:(sLen+n)*P.bytesOf e<=140737488355328) (C:sLen+n<=140737488355328):
  (Builtin.append_ #[t,xt] ty #[.slice base sLen sCap,x']).run P w=.ok (.slice (some ⟨w.heap.size,0,none⟩) (sLen+n) (grownCap w (sLen+n) sCap e))
   (w.drew.alloc (.cells (cW++new++Builtin.zeroCells z.cells (grownCap w (sLen+n) sCap e-(sLen+n))) e)):=by
 obtain⟨i,hi,j,A⟩:=info_of_underlying r;rw[j]at hb;have s:=growslice_fits b hb;have l:¬(sLen+n<=sCap):=QT;have o:¬(((sLen+n:Nat):Int)>IntKind.i64.max):=by simp[IntKind.max,IntKind.signed,IntKind.bits];omega
 have p:¬(Builtin.nextslicecap (sLen+n) sCap*i.bytes>2^48):=QT;have a:(Question.appendCap (sLen+n) sCap e).forced=false:=rfl;have q:∀w,(typeInfo e).run P w=.ok i w:=fun w=>by simp[typeInfo,hi]
 unfold Builtin.append_;simp only[Ki,WJ,pF,Sem.run_bind,run_underlying u,Result.andThen_ok,NL r,Sem.run_pure,run_underlying v];cases f
 case int k=>simp[notIntD]at g
 all_goals
  simp only[Z2,if_false,y,Result.andThen_ok,l,Sem.run_bind,Sem.run_pure,qE,if_true,q,o,false_and,p,run_choose,a,run_askRoom];have B:({w with drawn:=w.drawn+1}:World)=w.drew:=rfl;rw[B,hold];simp only[Result.andThen_ok,c,yD x,newRow,Sem.run_bind,run_newObj,Sem.run_pure];rfl
def srcCells (P:Program) (h:AHeap) (e:TypeId) (x:Value):Option (Nat×List Value):=
 match x with
 |.slice none n _=>if n=0 then some (0,[])else none
 |.slice (some a) n _=>match readN h a (n*JO P e)with|some l=>some (n,l)|none=>none
 |.string s=>some (s.size,s.data.toList.map fun b=>.int .u8 b.toNat)
 |_=>none
def VR.readable {n:Nat} {m:Ti} {a:Addr} {len cap:Nat} {v':Value} (h:VR n m (.slice (some a) len cap) v'):
  ∃a' cap',v'=.slice (some a') len cap'/\(AR n m a a'\/len=0):=by
 cases h with
 |flat h=>simp[Fw.flat]at h
 |slice b c=>exact⟨_,_,rfl,.inl (.own b)⟩
 |buf b d ha=>exact⟨_,_,rfl,by rcases ha with⟨rfl,_⟩|e;exact .inl (.own b);exact .inr QT⟩
 |XW c=>exact⟨_,_,rfl,.inl .ext⟩
 |empty=>exact⟨_,_,rfl,.inr rfl⟩
def VR.ic {n:Nat} {m:Ti} {len cap:Nat} {v':Value} (h:VR n m (.slice none len cap) v'):v'=.slice none 0 0/\len=0/\cap=0:=by
 cases h with
 |flat h=>simp[Fw.flat]at h;obtain⟨rfl,rfl⟩:=h;exact⟨rfl,rfl,rfl⟩
def DJ (h:AHeap) (size:Nat) (base:Option Addr) (len:Nat):Option (List Value):=
 match base with
 |some a=>readN h a (len*size)
 |none=>some []
def Rel.firstCells (R:Rel W0 m h w) {P:Program} {a:Option Addr} {len cap size:Nat} {l:List Value} {x':Value} (d:VR h.next m (.slice a len cap) x')
  (c:DJ h size a len=some l):∃l',xC h.next m l l'/\(Builtin.firstCells size len x').run P w=.ok l'.toArray w:=by
 cases a with
 |none=>
  obtain⟨rfl,rfl,rfl⟩:=d.ic;simp[DJ]at c;subst c;exact⟨[],.nil _ _,by simp[Builtin.firstCells]⟩
 |some a=>
  obtain⟨a',cap',rfl,b⟩:=d.readable;simp only[DJ]at c;rcases b with b|e
  .obtain ⟨l', f, h2⟩ := R.loadCells P b c
   exact⟨l',f,by simpa[Builtin.firstCells]using h2⟩
  .subst e
   simp[Fw.readN]at c;subst c;exact⟨[],.nil _ _,by simp[Builtin.firstCells,Go.loadCells,loadCellsFrom]⟩
def Er (R:Rel W0 m h w) {P:Program} {e:TypeId} {x x':Value} {n:Nat} {l:List Value} (d:VR h.next m x x') (hs:srcCells P h e x=some (n,l)):
  (∀w,(Builtin.lenOf x').run P w=.ok n w)/\∃l',xC h.next m l l'/\(Builtin.firstCells (JO P e) n x').run P w=.ok l'.toArray w/\(x'≠.string ByteArray.empty->True):=by
 unfold srcCells at hs;split at hs
 .split at hs
  .rename_i i; subst i
   simp at hs;obtain⟨rfl,rfl⟩:=hs;obtain⟨l',f,h2⟩:=R.firstCells (P:=P) (size:=JO P e) d (l:=[]) rfl;obtain⟨rfl,_,_⟩:=d.ic;exact⟨fun w=>by simp[Builtin.lenOf],l',f,h2,fun _=>trivial⟩
  .cases hs
 .rename_i a k c
  split at hs
  .rename_i l0 j
   simp at hs;obtain⟨rfl,rfl⟩:=hs;obtain⟨l',f,h2⟩:=R.firstCells (P:=P) (size:=JO P e) d (l:=l0) j;obtain⟨a',cap',rfl,o⟩:=d.readable;exact⟨fun w=>by simp[Builtin.lenOf],l',f,h2,fun _=>trivial⟩
  .cases hs
 .rename_i s
  simp at hs;obtain⟨rfl,rfl⟩:=hs;have:=d.Z1;subst this;refine⟨fun w=>by simp[Builtin.lenOf],s.data.toList.map (fun b=>.int .u8 b.toNat),xC.flat ?_,?_,fun _=>trivial⟩
  .rw[jE];intro v g;simp at g;obtain⟨b,_,rfl⟩:=g;rfl
  .have:s.extract 0 s.size=s:=by
    apply ByteArray.ext;simp
   simp only[Builtin.firstCells,Sem.run_pure,this];congr 1;apply XX.1;simp
 .cases hs
def aAppend (P:Program) (h:AHeap) (t xt:TypeId) (s x:Value):Option (Value×AHeap):=
 match P.underlying t,P.underlying xt,s with
 |some (.slice e),some b,.slice base len cap=>
  match azero P e,srcCells P h e x with
  |some z,some (n,news)=>
   if z.cells.size=JO P e/\z.cells.toList.all (·.oneCell')/\(P.underlying e).isSome/\notIntD b/\news.all (·.oneCell')/\(len+n)*P.bytesOf e<=140737488355328/\len+n<=140737488355328/\news.length=n*JO P e then
    if n=0 then(if len<=cap then some (s,h)else none)
    else if km<=cap then
     match base with
     |some ⟨id,off,none⟩=>
      if cap=km+JO P e then
       match readN h ⟨id,off,none⟩ (len*JO P e),h.own id with
       |some a,some (.cells _)=>if a.all (·.oneCell')then some (.slice (some ⟨h.next,0,none⟩) (len+n) cap,(h.kill id).alloc (.cells (a++news)))else none
       |_,_=>none
      else none
     |_=>none
    else if len+n<=cap then
     match base with
     |some ⟨id,off,none⟩=>
      match h.own id with
      |some (.cells c)=>if off+len*JO P e+news.length<=c.length then some (.slice base (len+n) cap,h.put id (.cells (putCells c (off+len*JO P e) news)))else none
      |_=>none
     |_=>none
    else
     match DJ h (JO P e) base len with
     |some a=>if a.all (·.oneCell')then some (.slice (some ⟨h.next,0,none⟩) (len+n) (km+JO P e),h.alloc (.cells (a++news)))else none
     |none=>none
   else none
  |_,_=>none
 |_,_,_=>none
def Vt {P:Program} (R:Rel W0 m h w) {t xt e ty:TypeId} {S d:TypeDesc} {z:Value} (T:P.underlying t=some (.slice e)) (G:P.underlying xt=some S) (H:notIntD S=true) (U:P.underlying e=some d)
  (V:azero P e=some z) (I:z.cells.size=JO P e) (J:z.cells.toList.all (·.oneCell')=true) {base:Option Addr} {len cap n:Nat} {x x' K:Value} {news a:List Value} {g:AHeap}
  (hs:VR h.next m (.slice base len cap) K) (W:VR h.next m x x') (A:srcCells P h e x=some (n,news)) (hold:DJ h (JO P e) base len=some a)
  (B:news.all (·.oneCell')=true) (r:a.all (·.oneCell')=true) (hb:(len+n)*P.bytesOf e<=140737488355328) (X:len+n<=140737488355328) (L:news.length=n*JO P e) (M:a.length=len*JO P e)
  (s:∀b c,K=.slice b len c->c<len+n) (D:g=h\/∃id,g=h.kill id):
  OK P W0 m h w (Builtin.append_ #[t,xt] ty #[K,x']) (.slice (some ⟨h.next,0,none⟩) (len+n) (km+JO P e)) (g.alloc (.cells (a++news))):=by
 obtain⟨Y,l',i,E,_⟩:=Er R.drew W A;obtain⟨y,j,u⟩:=R.drew.firstCells (P:=P) hs hold;obtain⟨Z,c',rfl,N⟩:=hs.aA;have hg:=s Z c' rfl;have l:=ID (P:=P) ty T G H U V (Y w) E u hg hb X;generalize p:grownCap w (len+n) c' e=C at l;have hC:len+n<=C:=by rw[<-p];exact grownCap_ge _ _ _ _
 have O:C<km:=by
  have g:C<=maxLen:=by rw[<-p];exact grownCap_le_maxLen w (len+n) c' e (by unfold maxLen;omega)
  have h2:maxLen<km:=by decide
  omega
 have R1:Rel W0 m g w.drew:=by
  rcases D with q|⟨id,q⟩
  .rw[q];exact R.drew
  .rw[q];exact R.drew.kill id
 have f:g.next=h.next:=by rcases D with q|⟨id,q⟩<;>rw[q]<;>rfl
 have F:(Builtin.zeroCells z.cells (C-(len+n))).toList=zrow z.cells.toList (C-(len+n)):=QL _ _ _ rfl;have Q:(Builtin.zeroCells z.cells (C-(len+n))).size=(C-(len+n))*JO P e:=by
  have:=Kx z.cells.toList (C-(len+n));rw[<-F]at this;simpa[I]using this
 have R2:=R1.alloc (c:=a++news) (C:=y.toArray++l'.toArray++Builtin.zeroCells z.cells (C-(len+n))) e
  (by
   rw[f];have:(y.toArray++l'.toArray++Builtin.zeroCells z.cells (C-(len+n))).toList.take (a++news).length=y++l':=by
    have hlen:(a++news).length=(y++l').length:=by simp[j.1,i.1]
    rw[hlen];simp only[qL182];exact qL243
   rw[this];exact j.append i)
  (by simp[j.1,i.1])
  (by
   intro v o;simp only[qL182,uK]at o;rcases o with(o|o)|o
   .exact j.wN r v o
   .exact i.wN B v o
   .rw[F]at o;exact jE.1 (Dv _ _ J _) v o)
 refine⟨_,_,_,l,R2,by rw[<-f];exact B8 _ _ _,by show h.next<=g.next+1;omega,?_⟩
 show VR (g.next+1) _ _ _
 have:=VR.buf (n:=g.next+1) (m:=Zi m g.next ⟨w.drew.heap.size,0,(y.toArray++l'.toArray++Builtin.zeroCells z.cells (C-(len+n))).size⟩) (id:=g.next) (off:=0) (len:=len+n) (k:=JO P e) (cap':=C) (a':=⟨w.heap.size,0,none⟩) (SP _) hC
  (.inl ⟨by rw[Rp];rfl,by
   rw[Rp];simp only[Array.size_append,List.size_toArray,Q];have q:y.length=len*JO P e:=by rw[<-j.1,M]
   have e2:l'.length=n*JO P e:=by rw[<-i.1,L]
   rw[q,e2,<-WB,<-WB,show len+n+(C-(len+n))=C from by omega];exact⟨QT,O⟩⟩)
 rw[f]at this ⊢;exact this
def Xg {P:Program} (R:Rel W0 m h w) {t xt ty:TypeId} {s x s' x' v:Value} {h':AHeap} (hs:VR h.next m s s') (hx:VR h.next m x x') (e:aAppend P h t xt s x=some (v,h')):
  OK P W0 m h w (Builtin.append_ #[t,xt] ty #[s',x']) v h':=by
 unfold aAppend at e;split at e
 .rename_i el dx base len cap T A
  split at e
  .rename_i z n news hz B
   split at e
   .rename_i hc
    obtain⟨U,V,ar,D,l,hb,hl,y⟩:=hc;obtain⟨d,W⟩:=yL.1 ar;obtain⟨hn,l',g,E,_⟩:=Er R hx B;split at e
    .rename_i X
     subst X;split at e
     .rename_i F
      injection e with e;simp only[Ig]at e;obtain⟨rfl,rfl⟩:=e;obtain⟨b',c',rfl,av⟩:=hs.aA;have Y:len<=c':=by
       cases hs with
       |flat hf=>simpa using F
       |slice _ _=>exact F
       |buf _ g _=>exact g
       |XW _=>exact F
       |empty=>exact F
      have ay:l'=[]:=b7 (by rw[<-g.1,y];simp);subst ay;have:=run_append_room' (P:=P) ty T A D W (base:=b') (sLen:=len) (sCap:=c') (w':=w) (hn w) E Y (by cases b'<;>simp[storeCells]);exact⟨m,_,w,this,R,.refl _ _,J4 _,hs⟩
     .cases e
    .rename_i X
     split at e
     .rename_i K
      split at e
      .rename_i id off
       split at e
       .rename_i aY
        split at e
        .rename_i r c hold u
         split at e
         .rename_i p
          injection e with e;simp only[Ig]at e;obtain⟨rfl,rfl⟩:=e;have o:=JT _ _ _ _ hold;have aB:=hs;cases hs with
          |flat hf=>simp[Fw.flat]at hf
          |slice _ _=>omega
          |empty=>simp[km]at K
          |@buf _ _ _ k cap' a' M F ha=>
           have hk:k=JO P el:=QT;subst hk;by_cases f:len+n<=cap'
           .obtain ⟨rfl, Z⟩ := ha.resolve_right QT
            obtain⟨C,ce,lo,hi,ad,H,a1,a6,ag,ah⟩:=R.own id _ u;have N:l'.length=n*JO P el:=by rw[<-g.1,y]
            have hmul:len*JO P el+n*JO P el<=cap'*JO P el:=by rw[<-WB];exact Uj _ f
            obtain⟨w',aE,aK,aM,aQ,aT⟩:=YG P (m id).blk ce lo hi l' 0 ((m id).base+off+len*JO P el) C w ad (by rw[N,H];omega) (g.wN l) ah;have q:=run_append_room' (P:=P) ty T A D W (base:=some ⟨(m id).blk,(m id).base+off,none⟩) (sLen:=len) (sCap:=cap') (w':=w') (hn w) E f (by simpa[WZ]using aE);have aj:(m id).base+off+len*JO P el+l'.length<=C.toList.length:=by simp only[pU];rw[N,H];omega
            have L:(blockPut C ((m id).base+off+len*JO P el+0) l').toList=C.toList.take ((m id).base+off+len*JO P el)++l'++C.toList.drop ((m id).base+off+len*JO P el+l'.length):=by
             rw[XO,dX,NT _ _ _ aj]
            obtain⟨S,I,aX⟩:=R.readN _ (AR.own M) hold;have O:(C.toList.drop ((m id).base+off)).take (len*JO P el)=S:=by
             apply Lc;intro j;by_cases hj:j<len*JO P el
             .have ak : j < S.length := by rw [<- I.1, o]; exact hj
              have:=aX j S[j] (dR ak);rw[WZ]at this;simp only[World.cell?,ad]at this;rw[IK,if_pos hj,G3,dR ak];simpa using this
             .rw[Tz (by simp;omega),Tz (by rw[<-I.1,o];omega)]
            have Q:=R.Wm (w':=w') (id:=id) u (C':=blockPut C ((m id).base+off+len*JO P el+0) l') (e:=ce) (lo:=lo) (hi:=hi) (base:=(m id).base+off) (c2:=r++news)
             aK (by rw[E6];exact H)
             (by
              intro v G;rw[L]at G;simp only[uK]at G;rcases G with(G|G)|G
              .exact ag v (Wg G)
              .exact g.wN l v G
              .exact ag v (xE G))
             (by intro i al;rw[E6]at al;exact ah i al)
             (by rw[E6,Vw,o,y,H];omega)
             (by
              have:((blockPut C ((m id).base+off+len*JO P el+0) l').toList.drop ((m id).base+off)).take (r++news).length=S++l':=by
               rw[L,Nd,AL (by simp at aj ⊢;omega)];have e1:(C.toList.take ((m id).base+off+len*JO P el)).drop ((m id).base+off)=S:=by
                rw[<-O,List.drop_take];congr 1;omega
               rw[e1,Vw,o,y,<-Nd];have e2:len*JO P el+n*JO P el=(S++l').length:=by rw[Vw,<-I.1,o,N]
               rw[e2];exact qL243
              rw[this];exact I.append g)
             aM aQ aT
            refine⟨_,_,w',q,Q,B8 _ _ _,Yl _,?_⟩
            have G:=VR.buf (n:=h.next+1) (m:=Zi m h.next ⟨(m id).blk,(m id).base+off,(m id).lim⟩) (id:=h.next) (off:=0) (len:=len+n) (k:=JO P el) (cap':=cap') (a':=⟨(m id).blk,(m id).base+off,none⟩) (SP _) f
             (.inl ⟨by rw[Rp];rfl,by rw[Rp];simpa using Z⟩)
            exact G
           .exact Vt R T A D W hz U V aB hx B hold l p hb hl y o (by intro b c J;injection J with _ _ J;omega) (.inr ⟨id,rfl⟩)
         .cases e
        .cases e
       .cases e
      .cases e
     .rename_i K
      split at e
      .rename_i f
       split at e
       .rename_i id off
        split at e
        .rename_i c u
         split at e
         .rename_i aq
          injection e with e;simp only[Ig]at e;obtain⟨rfl,rfl⟩:=e;cases hs with
          |flat hf=>simp[Fw.flat]at hf
          |buf _ _ _=>omega
          |empty=>omega
          |slice M hc=>
           obtain⟨w',hw,R'⟩:=Rel.Qw P news l' 0 R (off:=off+len*JO P el) u (by simpa using aq) g (g.wN l);have q:=run_append_room' (P:=P) ty T A D W (base:=some ⟨(m id).blk,(m id).base+off,none⟩) (sLen:=len) (sCap:=cap) (w':=w') (hn w) E f (by simpa[WZ,Lj]using hw);exact⟨m,_,w',q,by simpa using R',.refl _ _,J4 _,.slice M hc⟩
         .cases e
        .cases e
       .cases e
      .rename_i f
       split at e
       .rename_i r hold
        split at e
        .rename_i p
         injection e with e;simp only[Ig]at e;obtain⟨rfl,rfl⟩:=e;have o:r.length=len*JO P el:=by
          cases base with
          |none=>obtain⟨_,rfl,rfl⟩:=hs.ic;simp[DJ]at hold;subst hold;simp
          |some a=>exact JT _ _ _ _ hold
         refine Vt R T A D W hz U V hs hx B hold l p hb hl y o ?_ (.inl rfl);intro b c J;subst J;cases hs with
         |flat hf=>omega
         |slice _ _=>omega
         |buf _ _ _=>omega
         |XW _=>omega
         |empty=>omega
        .cases e
       .cases e
   .cases e
  .cases e
 .cases e
end
end Go.Fw
