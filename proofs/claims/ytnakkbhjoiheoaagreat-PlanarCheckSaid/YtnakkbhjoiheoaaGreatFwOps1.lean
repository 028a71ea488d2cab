/- A text. -/
import Derived.Laws.StructEq
import Derived.Test.YtnakkbhjoiheoaaGreatFwHeap
set_option linter.all false
set_option maxRecDepth 99999
set_option maxHeartbeats 9999999
open Option renaming some→Z,none→Y
open Bool renaming true→tT,false→fF
open Go.Value renaming slice→sL,pointer→pT
open Go renaming Value→vV
namespace Go.Fw
section
variable{W0:LA}{m:abd}{h:aai}{w:World}
def aaY(k:IntKind)(n:Int):Int:=
 match k with
 |.i64=>if-9223372036854775808<=n/\n<=9223372036854775807 then n else IntKind.wrap .i64 n
 |.u8=>if 0<=n/\n<=255 then n else IntKind.wrap .u8 n
 |.u64=>if 0<=n/\n<=18446744073709551615 then n else IntKind.wrap .u64 n
 |k=>k.wrap n
def Qt(k:IntKind)(n:Int):aaY k n=k.wrap n:=by
 unfold aaY;split
 .split
  .rename_i a;simp[IntKind.wrap,IntKind.bits,IntKind.signed];omega
  .rfl
 .split
  .rename_i a;simp[IntKind.wrap,IntKind.bits,IntKind.signed];omega
  .rfl
 .split
  .rename_i a;simp[IntKind.wrap,IntKind.bits,IntKind.signed];omega
  .rfl
 .rfl
theorem ie(n:Int)(a:-9223372036854775808<=n)(h2:n<=9223372036854775807):aaY .i64 n=n:=by grind[aaY]
def adY(op:BinOp)(k:IntKind)(a b:Int):Option vV:=
 match op with
 |.add=>Z (.int k (aaY k (a+b)))
 |.sub=>Z (.int k (aaY k (a-b)))
 |.mul=>Z (.int k (aaY k (a*b)))
 |.quo=>if b=0 then Y else Z (.int k (aaY k (a.tdiv b)))
 |.rem=>if b=0 then Y else Z (.int k (a.tmod b))
 |.and=>Z (.int k (k.wrap (BitVec.ofInt k.bits a &&& BitVec.ofInt k.bits b).toNat))
 |.or=>Z (.int k (k.wrap (BitVec.ofInt k.bits a ||| BitVec.ofInt k.bits b).toNat))
 |.xor=>Z (.int k (k.wrap (BitVec.ofInt k.bits a ^^^ BitVec.ofInt k.bits b).toNat))
 |.andNot=>Z (.int k (k.wrap (BitVec.ofInt k.bits a &&& ~~~BitVec.ofInt k.bits b).toNat))
 |.eql=>Z (.bool (a==b))
 |.neq=>Z (.bool (a !=b))
 |.lss=>Z (.bool (a<b))
 |.leq=>Z (.bool (a<=b))
 |.gtr=>Z (.bool (b<a))
 |.geq=>Z (.bool (b<=a))
 |_=>Y
def acV(op:BinOp)(k:IntKind)(a b:Int):Option vV:=
 if b<0 then Y else
 match op with
 |.shl=>Z (.int k (aaY k (a*2^min b.toNat k.bits)))
 |.shr=>Z (.int k (a.fdiv (2^min b.toNat k.bits)))
 |_=>Y
def aStr(op:BinOp)(a b:ByteArray):Option vV:=
 match op with
 |.add=>if((a.size+b.size:Nat):Int)>9223372036854775807 then Y else Z (.string (a++b))
 |.eql=>Z (.bool (a.toList==b.toList))
 |.neq=>Z (.bool (!(a.toList==b.toList)))
 |.lss=>Z (.bool (Op.bytesLess a.toList b.toList))
 |.leq=>Z (.bool (Op.bytesLess a.toList b.toList||a.toList==b.toList))
 |.gtr=>Z (.bool (!(Op.bytesLess a.toList b.toList||a.toList==b.toList)))
 |.geq=>Z (.bool (!Op.bytesLess a.toList b.toList))
 |_=>Y
def aa9:xLV->Option (List (IntKind×Int))
 |[]=>Z []
 |.int k n::r=>match aa9 r with|some l=>Z ((k,n)::l)|none=>Y
 |_=>Y
def aei (P:Program):List Field->Nat->Bool
 |[],_=>true
 |f::fs,i=>f.name != "_" &&f.offset==i&&(match P.underlying f.type with|some (.int _)=>true|_=>false)&&aei P fs (i+1)
def aEq(P:Program)(t:TypeId)(x y:vV):Option Bool:=
 match P.underlying t,x,y with
 |some .bool,.bool a,.bool b=>Z (a==b)
 |some (.slice _),.slice a _ _,.slice Y _ _=>Z a.isNone
 |some (.pointer _),.pointer a,.pointer Y=>Z a.isNone
 |some (.map _ _),.map a,.map Y=>Z a.isNone
 |some (.func _ _ _),.nilFunc,.nilFunc=>Z tT
 |some (.func _ _ _),.func _ _ _,.nilFunc=>Z fF
 |some (.array len e),.agg xs,.agg ys=>
  match P.underlying e,aa9 xs.toList,aa9 ys.toList with
  |some (.int _),Z a,Z b=>if UA P e=1/\xs.size=len/\ys.size=len/\a.map (·.1)=b.map (·.1)then Z (a==b)else Y
  |_,_,_=>Y
 |some (.struct c),.agg xs,.agg ys=>
  match aa9 xs.toList,aa9 ys.toList with
  |some a,Z b=>if aei P c.toList 0=tT/\P.stoodInHeld t=fF/\xs.size=c.size/\ys.size=c.size/\a.map (·.1)=b.map (·.1)then Z (a==b)else Y
  |_,_=>Y
 |_,_,_=>Y
def ae3(P:Program)(op:BinOp)(t:TypeId)(x y:vV):Option vV:=
 match op,x,y with
 |.shl,.int k a,.int _ b=>acV .shl k a b
 |.shr,.int k a,.int _ b=>acV .shr k a b
 |op,.int k a,.int c b=>if k=c then adY op k a b else Y
 |op,.string a,.string b=>aStr op a b
 |.eql,x,y=>match aEq P t x y with|some b=>Z (.bool b)|none=>Y
 |.neq,x,y=>match aEq P t x y with|some b=>Z (.bool (!b))|none=>Y
 |_,_,_=>Y
def nj(P:Program)(op:BinOp)(k:IntKind)(a:Int)(c:IntKind)(b:Int){v:vV}(e:acV op k a b=Z v)(w:World):
  (Op.shift op k a c b).run P w=.ok v w:=by
 unfold acV at e;split at e
 .cases e
 .rename_i hb;cases op<;>simp at e<;>subst e<;>simp[Op.shift,hb,Qt]
theorem aShl_run(P:Program)(k:IntKind)(a:Int)(c:IntKind)(b:Int)(t:TypeId){v:vV}(e:acV .shl k a b=Z v)(w:World):
  (binOp .shl t (.int k a) (.int c b)).run P w=.ok v w:=nj P .shl k a c b e w
theorem aShr_run(P:Program)(k:IntKind)(a:Int)(c:IntKind)(b:Int)(t:TypeId){v:vV}(e:acV .shr k a b=Z v)(w:World):
  (binOp .shr t (.int k a) (.int c b)).run P w=.ok v w:=nj P .shr k a c b e w
def aInt_run(P:Program)(op:BinOp)(k:IntKind)(a b:Int)(t:TypeId){v:vV}(e:adY op k a b=Z v)(w:World):
    (binOp op t (.int k a) (.int k b)).run P w=.ok v w:=by
  cases op<;>simp only[adY]at e
  all_goals first
    |cases e;done
    |(injection e with e;subst e;simp[binOp,Op.intArith,Op.intBits,Op.intCmp,Qt])
    | (split at e
       .cases e
       .rename_i hb;injection e with e;subst e;simp[binOp,Op.intDiv,hb,Qt])
def aStr_run(P:Program)(op:BinOp)(a b:ByteArray)(t:TypeId){v:vV}(e:aStr op a b=Z v)(w:World):
    (binOp op t (.string a) (.string b)).run P w=.ok v w:=by
  cases op<;>simp only[aStr]at e
  all_goals first
    |cases e;done
    |(injection e with e;subst e;simp[binOp,Op.stringOp])
    | (split at e
       .cases e
       · rename_i hb;injection e with e;subst e
         have:¬((a.size+b.size:Nat):Int)>IntKind.i64.max:=by simp[IntKind.max,IntKind.signed,IntKind.bits];omega
         simp only[binOp,Op.stringOp,this,if_false,Sem.run_pure])
theorem af0:∀(l:xLV)(a:List (IntKind×Int)),aa9 l=Z a->l=a.map (fun p=>vV.int p.1 p.2)
 |[],a,h=>by grind[aa9]
 |v::l,a,h=>by
  cases v<;>simp only[aa9]at h<;>try cases h
  rename_i k n;split at h
  .rename_i r b;injection h with h;subst h;simp[af0 l r b]
  .cases h
theorem C3(P:Program)(d:Nat)(t e:TypeId)(len:Nat)(x:IntKind)(y:P.underlying t=Z (.array len e))(f:P.underlying e=Z (.int x))(hs:UA P e=1)(a b:List (IntKind×Int))(ha:a.length=len)(hb:b.length=len)(z:a.map (·.1)=b.map (·.1))(w:World):
  (Op.equalIn (d+2) t (.agg (a.map (fun p=>vV.int p.1 p.2)).toArray) (.agg (b.map (fun p=>vV.int p.1 p.2)).toArray)).run P w=.ok (a==b) w:=by
 unfold Op.equalIn;simp only[Sem.run_bind,run_underlying y,Result.andThen_ok,IT f,hs,qL167,Std.Legacy.Range.size]
 have key:∀(n s:Nat),s+n=len->(forIn (m:=Sem) (List.range' s n) ((Y:Option Bool),PUnit.unit) fun i __s=>do
   let __do_lift <-part e (a.map (fun p=>vV.int p.1 p.2)).toArray (i*1);let __do_lift_1 <-part e (b.map (fun p=>vV.int p.1 p.2)).toArray (i*1);let __do_lift <-Op.equalIn (d+1) e __do_lift __do_lift_1
   if(!__do_lift)=tT then pure (ForInStep.done (Z fF,PUnit.unit))else pure (ForInStep.yield (Y,PUnit.unit))).run P w
   =.ok (if a.drop s==b.drop s then(Y,PUnit.unit)else(Z fF,PUnit.unit)) w:=by
  intro n
  induction n with
  |zero=>intro s g;have A:a.drop s=[]:=Ex NH;have h2:b.drop s=[]:=Ex NH;simp[A,h2]
  |succ n D=>
   intro s g;have u:s<a.length:=NH;have v:s<b.length:=NH;have j:a[s].1=b[s].1:=by have:=congrArg (fun l=>l[s]?) z;grind
   have k:∀w,(part e (a.map (fun p=>vV.int p.1 p.2)).toArray s).run P w=.ok (.int a[s].1 a[s].2) w:=by intro w;simp[part,Rk f,ab8,u]
   have o:∀w,(part e (b.map (fun p=>vV.int p.1 p.2)).toArray s).run P w=.ok (.int b[s].1 b[s].2) w:=by intro w;simp[part,Rk f,ab8,v]
   have heq:∀w,(Op.equalIn (d+1) e (.int a[s].1 a[s].2) (.int b[s].1 b[s].2)).run P w=.ok (a[s].2==b[s].2) w:=by grind[Go.run_equalIn_int]
   have B:a.drop s=a[s]::a.drop (s+1):=(Vn u);have C:b.drop s=b[s]::b.drop (s+1):=(Vn v);have q:(a[s]==b[s])=(a[s].2==b[s].2):=hGr;simp only[qL208,List.forIn_cons,Sem.run_bind,zd,k,o,heq,Result.andThen_ok];cases E:a[s].2==b[s].2 with
   |false=>have r:(a.drop s==b.drop s)=fF:=hGr;simp[r]
   |true=>grind[Go.Sem.run_pure,Go.Result.andThen_ok]
 have c:=key len 0 NH;simp only[akv]at c;rw[show((len-0+1-1) / 1)=len from by omega];rw[c];cases a==b<;>simp
theorem acN(P:Program)(t e:TypeId)(len:Nat)(a:IntKind)(b:P.underlying t=Z (.array len e))(c:P.underlying e=Z (.int a)):P.eqGuardType P.depth t=fF:=by have:∃d,P.depth=d+2:=⟨_,rfl⟩;obtain⟨d,hd⟩:=this;rw[hd];simp[Program.eqGuardType,b,c]
theorem Pk(P:Program)(d:Nat)(a b:List (IntKind×Int))(g:a.map (·.1)=b.map (·.1)):∀(c:List Field)(s:Nat),aei P c s=tT->s+c.length=a.length->∀w,
  (Op.eqFields (d+1) (a.map (fun p=>vV.int p.1 p.2)).toArray (b.map (fun p=>vV.int p.1 p.2)).toArray c).run P w=.ok (a.drop s==b.drop s) w
 |[],s,_,u,w=>by
  have hb:a.length=b.length:=by have:=congrArg List.length g;grind
  have v:a.drop s=[]:=Ex hGr;have h2:b.drop s=[]:=Ex hGr;simp[Op.eqFields,v,h2]
 |f::c,s,hf,u,w=>by
  have hb:a.length=b.length:=by have:=congrArg List.length g;grind
  have o:s<a.length:=hGr;have q:s<b.length:=NH;simp only[aei,zx,bne_iff_ne,ne_eq,beq_iff_eq]at hf;obtain⟨⟨⟨x,y⟩,r⟩,z⟩:=hf;split at r
  .rename_i D t;have i:a[s].1=b[s].1:=by
    have:=congrArg (fun l=>l[s]?) g;grind
   have j:∀w,(part f.type (a.map (fun p=>vV.int p.1 p.2)).toArray s).run P w=.ok (.int a[s].1 a[s].2) w:=by intro w;simp[part,Rk t,ab8,o]
   have k:∀w,(part f.type (b.map (fun p=>vV.int p.1 p.2)).toArray s).run P w=.ok (.int b[s].1 b[s].2) w:=by intro w;simp[part,Rk t,ab8,q]
   have heq:∀w,(Op.equalIn (d+1) f.type (.int a[s].1 a[s].2) (.int b[s].1 b[s].2)).run P w=.ok (a[s].2==b[s].2) w:=by grind[Go.run_equalIn_int]
   have A:a.drop s=a[s]::a.drop (s+1):=(Vn o);have B:b.drop s=b[s]::b.drop (s+1):=(Vn q);have n:(a[s]==b[s])=(a[s].2==b[s].2):=hGr;have C:=Pk P d a b g c (s+1) z hGr;simp only[Op.eqFields,x,ne_eq,not_false_eq_true,if_true,Sem.run_bind,y,j,k,heq,Result.andThen_ok,C];cases E:a[s].2==b[s].2 with
   |false=>have e:(a.drop s==b.drop s)=fF:=hGr;simp[e]
   |true=>have e:(a.drop s==b.drop s)=(a.drop (s+1)==b.drop (s+1)):=hGr;grind
  .cases r
theorem Xx(P:Program)(d:Nat)(t:TypeId)(c:Array Field)(f:P.underlying t=Z (.struct c))(hf:aei P c.toList 0=tT)(g:P.stoodInHeld t=fF)(a b:List (IntKind×Int))(ha:a.length=c.size)(i:a.map (·.1)=b.map (·.1))(w:World):
  (Op.equalIn (d+2) t (.agg (a.map (fun p=>vV.int p.1 p.2)).toArray) (.agg (b.map (fun p=>vV.int p.1 p.2)).toArray)).run P w=.ok (a==b) w:=by
 have e:P.fieldsOf t=c:=by simp[Program.fieldsOf,f]
 rw[run_equalIn_struct w (d+1) t _ _ hGr g,e];have:=Pk P d a b i c.toList 0 hf (by simp[ha]) w;grind
theorem Je (P:Program) (t:TypeId) (fs:Array Field) (ht:P.underlying t=some (.struct fs)) (hf:aei P fs.toList 0=true):P.eqGuardType P.depth t=false:=by
 have:∃d,P.depth=d+2:=⟨_,rfl⟩;obtain⟨d,hd⟩:=this;rw[hd];simp only[Program.eqGuardType,ht];rw[←Array.any_toList];have key:∀(l:List Field) (i:Nat),aei P l i=true→(l.any fun f=>f.name != "_" &&Program.eqGuardType P (d+1) f.type)=false:=by
  intro l
  induction l with
  |nil=>grind
  |cons f l ih=>
   intro i h;simp only[aei,zx]at h;obtain⟨⟨_,hu⟩,hr⟩:=h;split at hu
   .rename_i k he;have hh:Program.eqGuardType P (d+1) f.type=false:=by simp only[Program.eqGuardType,he]
    grind
   .cases hu
 exact key _ 0 hf
def B7(t:TypeId)(x y:vV):Op.equal t x y=Op.equalIn (9998+1+1) t x y:=rfl
theorem jN(P:Program)(t:TypeId)(x y:vV){r:Bool}(e:aEq P t x y=Z r)(w:World):(Op.equal t x y).run P w=.ok r w:=by
 unfold aEq at e
 split at e<;>(try cases e)
 .grind[Go.run_equal_bool]
 .rename_i a _ _ _ _ c;rw[B7];unfold Op.equalIn;cases a<;>simp only[Sem.run_bind,run_underlying c,Result.andThen_ok,Sem.run_pure]<;>rfl
 .rename_i a c;rw[B7];unfold Op.equalIn;cases a<;>simp only[Sem.run_bind,run_underlying c,Result.andThen_ok,Sem.run_pure]<;>rfl
 .rename_i a c;rw[B7];unfold Op.equalIn;cases a<;>simp only[Sem.run_bind,run_underlying c,Result.andThen_ok,Sem.run_pure]<;>rfl
 .rename_i c;rw[B7];unfold Op.equalIn;simp only[Sem.run_bind,run_underlying c,Result.andThen_ok,Sem.run_pure]
 .rename_i c;rw[B7];unfold Op.equalIn;simp only[Sem.run_bind,run_underlying c,Result.andThen_ok,Sem.run_pure]
 .rename_i len el xs ys c;split at e
  .rename_i k a b n ha hb;split at e
   .rename_i g;obtain⟨i,h2,h3,j⟩:=g;injection e with e;subst e;have d:=af0 _ _ ha;have f:=af0 _ _ hb;have ex:xs=(a.map (fun p=>vV.int p.1 p.2)).toArray:=by rw[<-d]
    have l:ys=(b.map (fun p=>vV.int p.1 p.2)).toArray:=by rw[<-f]
    subst ex;subst l;exact C3 P 9998 t el len k c n i a b hGr hGr j w
   .cases e
  .cases e
 .rename_i o xs ys c;split at e
  .rename_i a b ha hb;split at e
   .rename_i g;obtain⟨i,h2,h3,_,j⟩:=g;injection e with e;subst e;have d:=af0 _ _ ha;have f:=af0 _ _ hb;have ex:xs=(a.map (fun p=>vV.int p.1 p.2)).toArray:=by rw[<-d]
    have l:ys=(b.map (fun p=>vV.int p.1 p.2)).toArray:=by rw[<-f]
    subst ex;subst l;exact Xx P 9998 t o c i h2 a b hGr j w
   .cases e
  .cases e
theorem Et{n:Nat}{m:abd}{P:Program}{t:TypeId}{x y x' s:vV}{r:Bool}(c:VR n m x x')(d:VR n m y s)(e:aEq P t x y=Z r):aEq P t x' s=Z r:=by
 have hints:∀{n:Nat}{m:abd}(l l':xLV),AK n m l l'->∀a,aa9 l=Z a->aa9 l'=Z a:=by
  intro n m l
  induction l with
  |nil=>intro l' h a ha;have:l'=[]:=Yi (by rw[<-h.1];rfl);grind
  |cons v l A=>
   intro l' h a ha;cases l' with
   |nil=>grind[AK]
   |cons v' l'=>
    have u:VR n m v v':=h.2 0 v v' rfl rfl;have B:AK n m l l':=by simpa using h.drop 1
    cases v<;>simp only[aa9]at ha<;>try cases ha
    split at ha
    .rename_i r C;cases u;grind[aa9]
    .cases ha
 unfold aEq at e;split at e
 .cases c;cases d;rename_i D h2 h3;simp_all [aEq]
 .rename_i f;cases d with|flat hf=>cases c<;>simp_all [aEq]
 .rename_i f;cases d with|flat hf=>cases c<;>simp_all [aEq]
 .rename_i f;cases d with|flat hf=>cases c<;>simp_all [aEq]
 .rename_i f;cases c;cases d;simp_all [aEq]
 .rename_i f;cases d;cases c<;>simp_all [aEq]
 .rename_i len el xs ys f;split at e
  .rename_i k a b z ha hb;split at e
   .rename_i q;cases c with
    |flat hf=>grind[flat]
    |agg g c=>
     cases d with
     |flat hf=>grind[flat]
     |agg j d=>rename_i o p;have mi:=hints xs.toList o.toList ⟨hGr,fun i v v' e e'=>c i v v' (by simpa using e) hGr⟩ a ha;have sZ:=hints ys.toList p.toList ⟨hGr,fun i v v' e e'=>d i v v' (by simpa using e) hGr⟩ b hb;simp only[aEq,f,z,mi,sZ,<-g,<-j,q,and_self,if_true];exact e
   .cases e
  .cases e
 .rename_i E xs ys f;split at e
  .rename_i a b ha hb;split at e
   .rename_i q;cases c with
    |flat hf=>grind[flat]
    |agg g c=>
     cases d with
     |flat hf=>grind[flat]
     |agg j d=>rename_i o p;have mi:=hints xs.toList o.toList ⟨hGr,fun i v v' e e'=>c i v v' (by simpa using e) hGr⟩ a ha;have sZ:=hints ys.toList p.toList ⟨hGr,fun i v v' e e'=>d i v v' (by simpa using e) hGr⟩ b hb;simp only[aEq,f,mi,sZ,<-g,<-j,q,and_self,if_true];exact e
   .cases e
  .cases e
 .cases e
theorem agn(P:Program)(op:BinOp)(t:TypeId)(x y:Operand)(a b:vV)(w:World)(c:¬(a=.nilIface/\b=.nilIface))(d:∀xs ys,a=.agg xs->b=.agg ys->P.eqGuardType P.depth t=fF):
  (eqGuard op t x y a b).run P w=.ok () w:=by
 by_cases e:(!(op matches .eql|.neq))=tT
 .cases op<;>first|(simp[eqGuard];done)|grind
 .cases a with
  |nilIface=>cases b<;>first|(exact absurd ⟨rfl,rfl⟩ c)|(cases op<;>simp[eqGuard])
  |agg xs=>
   cases b with
   |agg ys=>grind[Go.run_eqGuard_agg]
   |_=>cases op<;>simp[eqGuard]
  |_=>cases op<;>simp[eqGuard]
def aci:vV->Bool
 |.nilIface=>fF
 |_=>tT
def mM(P:Program)(op:BinOp)(t:TypeId)(x y:vV):Option vV:=bif aci x then ae3 P op t x y else Y
theorem abin_rel{n:Nat}{m:abd}{P:Program}{op:BinOp}{t:TypeId}{x y x' c v:vV}(d:VR n m x x')(f:VR n m y c)(e:ae3 P op t x y=Z v):
    flat v=tT/\(∀w,(binOp op t x' c).run P w=.ok v w):=by
  unfold ae3 at e;split at e
  · cases d;cases f
    refine⟨?_,fun w=>?_⟩;rotate_left
    .grind[aShl_run]
    unfold acV at e;split at e
    .cases e
    .simp at e;subst e;rfl
  · cases d;cases f
    refine⟨?_,fun w=>?_⟩;rotate_left
    .grind[aShr_run]
    unfold acV at e;split at e
    .cases e
    .simp at e;subst e;rfl
  · split at e
    · rename_i k a j b _ _ i
      subst i;cases d;cases f;refine⟨?_,fun w=>aInt_run P _ _ _ _ t e w⟩;cases op<;>simp only[adY]at e
      all_goals first
        |cases e;done
        |(injection e with e;subst e;rfl)
        | (split at e
           .cases e
           .injection e with e;subst e;rfl)
    .cases e
  · cases d;cases f
    refine⟨?_,fun w=>aStr_run P _ _ _ t e w⟩;cases op<;>simp only[aStr]at e
    all_goals first
      |cases e;done
      |(injection e with e;subst e;rfl)
      | (split at e
         .cases e
         .injection e with e;subst e;rfl)
  · split at e
    · rename_i b hb
      injection e with e;subst e;refine⟨rfl,fun w=>?_⟩;have g:=jN P t x' c (Et d f hb) w;have h2:=Et d f hb
      have:binOp .eql t x' c=(do pure (.bool (<-Op.equal t x' c))):=by
        unfold aEq at h2
        split at h2<;>first|rfl|cases h2
      rw[this];simp[g]
    .cases e
  · split at e
    · rename_i b hb
      injection e with e;subst e;refine⟨rfl,fun w=>?_⟩;have g:=jN P t x' c (Et d f hb) w;have h2:=Et d f hb
      have:binOp .neq t x' c=(do pure (.bool (!(<-Op.equal t x' c)))):=by
        unfold aEq at h2
        split at h2<;>first|rfl|cases h2
      rw[this];simp[g]
    .cases e
  .cases e
theorem VR.Ja{n:Nat}{m:abd}{k:IntKind}{i:Int}{v':vV}(h:VR n m (.int k i) v'):v'=.int k i:=by cases h;rfl
def VR.YE{n:Nat}{m:abd}{b:Bool}{v':vV}(h:VR n m (.bool b) v'):v'=.bool b:=by cases h;rfl
def VR.EK{n:Nat}{m:abd}{s:ByteArray}{v':vV}(h:VR n m (.string s) v'):v'=.string s:=by cases h;rfl
theorem VR.oJ{n:Nat}{m:abd}{a:Array vV}{v':vV}(h:VR n m (.agg a) v'):∃a',v'=.agg a'/\AK n m a.toList a'.toList:=by
 cases h with
 |flat h=>simp[Fw.flat]at h
 |agg hs h=>exact⟨_,rfl,hGr,fun i v v' e e'=>h i v v' (by simpa using e) hGr⟩
theorem VR.Vh{n:Nat}{m:abd}{a:Array vV}{v':vV}(h:VR n m (.tuple a) v'):∃a',v'=.tuple a'/\AK n m a.toList a'.toList:=by
 cases h with
 |flat h=>simp[Fw.flat]at h
 |tuple hs h=>exact⟨_,rfl,hGr,fun i v v' e e'=>h i v v' (by simpa using e) hGr⟩
def VR.YC{n:Nat}{m:abd}{a:Option Addr}{len cap:Nat}{v':vV}(h:VR n m (.slice a len cap) v'):∃a' cap',v'=.slice a' len cap'/\a'.isSome=a.isSome:=by
 cases h<;>exact⟨_,_,rfl,Ma⟩
def aUn(op:UnOp)(x:vV):Option vV:=
 match op,x with
 |.neg,.int k n=>Z (.int k (aaY k (0-n)))
 |.not,.bool b=>Z (.bool (!b))
 |_,_=>Y
def aUn_rel{n:Nat}{m:abd}{op:UnOp}{x x' v:vV}(P:Program)(a:VR n m x x')(e:aUn op x=Z v):flat v=tT/\∀w,(Op.unary op x').run P w=.ok v w:=by
 unfold aUn at e;split at e
 .cases a;injection e with e;subst e;exact⟨rfl,fun w=>by simp[Op.unary,Op.intArith,Qt]⟩
 .cases a;injection e with e;subst e;exact⟨rfl,fun w=>by simp[Op.unary]⟩
 .cases e
def abL(x:vV)(y:Nat):Option Nat:=
 match x with
 |.int _ i=>if 0<=i/\i<=(y:Int)then Z i.toNat else Y
 |_=>Y
def Kh{n:Nat}{m:abd}{x x':vV}{y a r:Nat}(P:Program)(d:VR n m x x')(e:abL x y=Z r)(f:y<=a)(c:BoundsCode)(w:World):
  (Instr.sliceBound x' a c).run P w=.ok r w/\r<=y:=by
 unfold abL at e;split at e
 .cases d;split at e
  .rename_i i _ hi;injection e with e;subst e;have b:0<=i/\i<=(a:Int):=NH;exact⟨by simp[Instr.sliceBound,asIntOf,b],NH⟩
  .cases e
 .cases e
def abm(len cap:Nat)(lo hi a:Option vV):Option (Nat×Nat×Nat):=
  match(match a with|some v=>abL v cap|none=>Z cap)with
  |none=>Y
  |some m=>match(match hi with|some v=>abL v m|none=>match a with|none=>Z len|some _=>Y)with
    |none=>Y
    |some h=>match(match lo with|some v=>abL v h|none=>Z 0)with
      |none=>Y
      |some l=>Z (l,h,m)
inductive VRo (n:Nat) (m:abd):Option vV->Option vV->Prop
 |none:VRo n m Y Y
 |some {v v':vV} (h:VR n m v v'):VRo n m (Z v) (Z v')
def Tx{n:Nat}{m:abd}{len cap cap':Nat}{lo hi s g i j:Option vV}{l h k:Nat}(P:Program)(b:Bool)(a:VRo n m lo g)(o:VRo n m hi i)(t:VRo n m s j)(x:cap<=cap')(B:len<=cap)(e:abm len cap lo hi s=Z (l,h,k))(w:World):
  (Instr.sliceBounds b len cap' g i j).run P w=.ok (l,h,if s.isSome then k else cap') w/\l<=h/\h<=k/\k<=cap/\(s=Y->k=cap):=by
 unfold abm at e;cases t with
 |none=>
  simp only[]at e;cases o with
  |none=>
   simp only[]at e;cases a with
   |none=>simp only[aex,si]at e;obtain⟨rfl,rfl,rfl⟩:=e;exact⟨by simp[Instr.sliceBounds],NH,NH,NH,fun _=>rfl⟩
   |some p=>
    simp only[]at e;split at e
    .cases e
    .rename_i r q;simp only[aex,si]at e;obtain⟨rfl,rfl,rfl⟩:=e;obtain⟨c,h2⟩:=Kh P p q (qL0 _) .sliceB w;exact⟨by simp[Instr.sliceBounds,c],h2,NH,NH,fun _=>rfl⟩
  |some p=>
   simp only[]at e;split at e
   .cases e
   .rename_i r q
    obtain⟨c,h2⟩:=Kh P p q x (if b then .sliceAcap else .sliceAlen) w
    cases a with
    |none=>simp only[aex,si]at e;obtain⟨rfl,rfl,rfl⟩:=e;exact⟨by simp[Instr.sliceBounds,c],NH,NH,NH,fun _=>rfl⟩
    |some d=>
     simp only[]at e;split at e
     .cases e
     .rename_i y f;simp only[aex,si]at e;obtain⟨rfl,rfl,rfl⟩:=e;obtain⟨h3,z⟩:=Kh P d f (qL0 _) .sliceB w;exact⟨by simp[Instr.sliceBounds,c,h3],NH,NH,NH,fun _=>rfl⟩
 |some u=>
  simp only[]at e;split at e
  .cases e
  .rename_i r q
   obtain⟨c,h2⟩:=Kh P u q x (if b then .slice3Acap else .slice3Alen) w
   cases o with
   |none=>simp at e
   |some p=>
    simp only[]at e;split at e
    .cases e
    .rename_i r2 v;obtain⟨h3,z⟩:=Kh P p v (qL0 _) .slice3B w;cases a with
     |none=>simp only[aex,si]at e;obtain⟨rfl,rfl,rfl⟩:=e;exact⟨by simp[Instr.sliceBounds,c,h3],NH,NH,NH,fun h=>by cases h⟩
     |some d=>
      simp only[]at e;split at e
      .cases e
      .rename_i y f;simp only[aex,si]at e;obtain⟨rfl,rfl,rfl⟩:=e;obtain⟨A,C⟩:=Kh P d f (qL0 _) .slice3C w;exact⟨by simp[Instr.sliceBounds,c,h3,A],NH,NH,NH,fun h=>by cases h⟩
def abf(P:Program)(t:TypeId)(x:vV)(lo hi b:Option vV):Option vV:=
  match P.underlying t,x with
  |some (.slice e),.slice a len cap=>
    if UNK<=cap then
      match a with
      |none=>Y
      |some a=>
        if cap=UNK+UA P e/\(P.underlying e).isSome then
          match abm len len lo hi b with
          |some (l,h,m)=>if b.isSome then(if m=0 then Z (sL (Z a) 0 0)else if m<UNK then Z (sL (Z (if m=l then a else Ip a (l*UA P e))) (h-l) (m-l))else Y)
            else Z (sL (Z (Ip a (l*UA P e))) (h-l) cap)
          |none=>Y
        else Y
    else if len<=cap/\(P.underlying e).isSome then
      match abm len cap lo hi b with
      |some (l,h,m)=>Z (.slice (if m=l then a else a.map (fun a=>Ip a (l*UA P e))) (h-l) (m-l))
      |none=>Y
    else Y
  |some (.array n e),pT (Z a)=>
    if(P.underlying e).isSome/\n<UNK then
      match abm n n lo hi b with
      |some (l,h,m)=>Z (sL (Z (if m=l then a else Ip a (l*UA P e))) (h-l) (m-l))
      |none=>Y
    else Y
  |some .string,.string s=>
    match b with
    |some _=>Y
    |none=>match abm s.size s.size lo hi Y with
      |some (l,h,_)=>Z (.string (s.extract l h))
      |none=>Y
  |_,_=>Y
theorem AR.slice{n:Nat}{m:abd}{a a':Addr}{len cap:Nat}(h:AR n m a a')(b:cap<UNK):VR n m (sL (Z a) len cap) (sL (Z a') len cap):=by
 cases h with
 |own h=>exact .slice h b
 |ext=>exact .esl b
theorem AR.af1{n:Nat}{m:abd}{a a':Addr}(h:AR n m a a')(p:Prop)[Decidable p](k:Nat):AR n m (if p then a else Ip a k) (if p then a' else a'.add k):=by grind[AR.add]
theorem jw{n:Nat}{m:abd}{P:Program}{t:TypeId}{x x' v:vV}{lo hi H A B C:Option vV}(I:VR n m x x')(r:VRo n m lo A)(u:VRo n m hi B)(j:VRo n m H C)(e:abf P t x lo hi H=Z v)(w:World):∃v',(Instr.sliceAt t x' A B C).run P w=.ok v' w/\VR n m v v':=by
 unfold abf at e;split at e
 .rename_i el a len cap y;split at e
  .rename_i E;split at e
   .cases e
   .rename_i a;split at e
    .rename_i o;obtain⟨o,p⟩:=o;obtain⟨d,hd⟩:=vg.1 p;split at e
     .rename_i l hh mm hb;cases I with
      |flat hf=>grind[flat]
      |slice f D=>omega
      |esl D=>omega
      |empty=>grind[UNK]
      |buf f T ha=>
       rename_i id off k cap' a';have V:k=UA P el:=NH;subst V;obtain⟨c,z,h2,h3,J⟩:=Tx P tT r u j T (qL0 _) hb w;have g:=IT (P:=P) hd w;split at e
       .rename_i q;rw[IE q]at c;split at e
        .rename_i F;injection e with e;subst e;subst F;have K:l=0:=NH;have L:hh=0:=NH;subst K;subst L;refine⟨sL (Z a') 0 0,?_,.empty⟩;simp[Instr.sliceAt,Instr.slice,run_underlying y,c,g]
        .rename_i F;split at e
         case isFalse=>cases e
         rename_i W;injection e with e;subst e;have M:cap'≠0:=NH;obtain⟨rfl,G⟩:=ha.resolve_right M;refine⟨_,by simp only[Instr.sliceAt,Instr.slice,run_underlying y,c,g,Sem.run_bind,Result.andThen_ok,Sem.run_pure];rfl,?_⟩;have X:mm-l<UNK:=NH;have:=(AR.own (m:=m) (off:=off) f).af1 (mm=l) (l*UA P el);grind[AR.slice]
       .rename_i q;rw[yM q]at c;injection e with e;subst e;refine⟨_,by simp only[Instr.sliceAt,Instr.slice,run_underlying y,c,g,Sem.run_bind,Result.andThen_ok,Sem.run_pure];rfl,?_⟩;rw[o];split
        .rename_i N;exact .buf f NH (.inr NH)
        .rename_i N;refine .buf f NH ?_;rcases ha with⟨rfl,G⟩|h0
         .refine .inl ⟨by grind[agQ],?_⟩;have:l*UA P el+(cap'-l)*UA P el=cap'*UA P el:=by rw[<-aiL];grind
          grind
         grind
     .cases e
    .cases e
  .rename_i E;split at e
   .rename_i D;obtain⟨O,p⟩:=D;obtain⟨d,hd⟩:=vg.1 p;have g:=IT (P:=P) hd w;split at e
    .rename_i l hh mm hb;injection e with e;subst e;have aa:cap<UNK:=NH
     have i:∀a',(∃c',x'=.slice a' len c'/\c'=cap)->(∃w',w'=w)->(Instr.sliceAt t x' A B C).run P w=.ok (.slice (if mm=l then a' else a'.map (·.add (l*UA P el))) (hh-l) (mm-l)) w/\l<=hh/\hh<=mm/\mm<=cap:=by
      rintro a' ⟨c',rfl,rfl⟩ _;obtain⟨c,z,h2,h3,J⟩:=Tx P tT r u j (qL0 _) O hb w;refine⟨?_,z,h2,h3⟩
      have Q:(if H.isSome then mm else c')=mm:=by
       cases j<;>grind
      rw[Q]at c;simp[Instr.sliceAt,Instr.slice,run_underlying y,c,g]
     cases I with
     |flat hf=>
      cases a with
      |some a=>grind[flat]
      |none=>obtain⟨c,z,h2,h3⟩:=i Y ⟨_,rfl,rfl⟩ ⟨w,rfl⟩;refine⟨_,c,?_⟩;simp[Fw.flat]at hf;have R:hh-l=0:=NH;have U:mm-l=0:=NH;simp only[Option.map_none,ite_self,R,U];exact .flat rfl
     |slice f D=>rename_i id off;obtain⟨c,z,h2,h3⟩:=i _ ⟨_,rfl,rfl⟩ ⟨w,rfl⟩;refine⟨_,c,?_⟩;have:=((AR.own (m:=m) (off:=off) f).af1 (mm=l) (l*UA P el)).slice (len:=hh-l) (cap:=mm-l) NH;grind
     |buf f T ha=>omega
     |esl D=>rename_i b off;obtain⟨c,z,h2,h3⟩:=i _ ⟨_,rfl,rfl⟩ ⟨w,rfl⟩;refine⟨_,c,?_⟩;have:=((AR.ext (n:=n) (m:=m) (b:=b) (off:=off)).af1 (mm=l) (l*UA P el)).slice (len:=hh-l) (cap:=mm-l) NH;grind
     |empty=>obtain⟨c,z,h2,h3⟩:=i _ ⟨_,rfl,rfl⟩ ⟨w,rfl⟩;refine⟨_,c,?_⟩;have e0:mm=l:=NH;have R:hh-l=0:=NH;have U:mm-l=0:=NH;simp only[e0,if_true,R,ahe];exact .empty
    .cases e
   .cases e
 .rename_i OT el a y;split at e
  .rename_i D;obtain⟨p,ae⟩:=D;obtain⟨d,hd⟩:=vg.1 p;have g:=IT (P:=P) hd w;split at e
   .rename_i l hh mm hb;injection e with e;subst e;obtain⟨a',rfl,S⟩:=I.AP;obtain⟨c,z,h2,h3,J⟩:=Tx P fF r u j (qL0 _) (qL0 _) hb w
    have Q:(if H.isSome then mm else OT)=mm:=by
     cases j<;>grind
    rw[Q]at c
    refine⟨sL (Z (if mm=l then a' else a'.add (l*UA P el))) (hh-l) (mm-l),by simp[Instr.sliceAt,Instr.sureAddr,run_underlying y,c,g],?_⟩
    exact(S.af1 (mm=l) (l*UA P el)).slice NH
   .cases e
  .cases e
 .rename_i s y;split at e
  .cases e
  .split at e
   .rename_i l hh mm hb;injection e with e;subst e;have:=I.EK;subst this;cases j;obtain⟨c,z,h2,h3,J⟩:=Tx P fF r u .none (qL0 _) (qL0 _) hb w;exact⟨.string (s.extract l hh),by simp[Instr.sliceAt,Instr.slice,run_underlying y,c],.flat rfl⟩
   .cases e
 .cases e
end
end Go.Fw
