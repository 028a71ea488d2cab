/- A text. -/
import Derived.KernelRfl
set_option linter.all false
set_option maxRecDepth 99999
set_option maxHeartbeats 9999999
open Option renaming none→Y
open List renaming range→rG
open List
namespace Go.Fw
theorem NH{p:Prop}(h:p:=by omega):p:=h
theorem Ji{p:Prop}(h:p:=by kernel_rfl):p:=h
theorem hGr{p:Prop}(h:p:=by grind):p:=h
theorem Ma{p:Prop}(h:p:=by simp):p:=h
theorem WY{p:Prop}(h:p:=by decide):p:=h
theorem iw{p:Prop}(h:p:=by decide+kernel):p:=h
abbrev II:=List Nat
abbrev RZ:=List Int
abbrev Cs:=List (List Nat)
abbrev AM:=List (List Int)
theorem XC{a b:Prop}(x:a)(y:b):a∧b:=⟨x,y⟩
theorem Yb{p0 p1 p2:Prop}(x0:p0)(x1:p1)(x2:p2):p0∧p1∧p2:=⟨x0,x1,x2⟩
theorem xU{p0 p1 p2 p3:Prop}(x0:p0)(x1:p1)(x2:p2)(x3:p3):p0∧p1∧p2∧p3:=⟨x0,x1,x2,x3⟩
theorem IX{p0 p1 p2 p3 p4:Prop}(x0:p0)(x1:p1)(x2:p2)(x3:p3)(x4:p4):p0∧p1∧p2∧p3∧p4:=⟨x0,x1,x2,x3,x4⟩
theorem bG{p0 p1 p2 p3 p4 p5:Prop}(x0:p0)(x1:p1)(x2:p2)(x3:p3)(x4:p4)(x5:p5):p0∧p1∧p2∧p3∧p4∧p5:=⟨x0,x1,x2,x3,x4,x5⟩
theorem rE{p0 p1 p2 p3 p4 p5 p6:Prop}(x0:p0)(x1:p1)(x2:p2)(x3:p3)(x4:p4)(x5:p5)(x6:p6):p0∧p1∧p2∧p3∧p4∧p5∧p6:=⟨x0,x1,x2,x3,x4,x5,x6⟩
theorem adG{p0 p1 p2 p3 p4 p5 p6 p7:Prop}(x0:p0)(x1:p1)(x2:p2)(x3:p3)(x4:p4)(x5:p5)(x6:p6)(x7:p7):p0∧p1∧p2∧p3∧p4∧p5∧p6∧p7:=⟨x0,x1,x2,x3,x4,x5,x6,x7⟩
theorem aoh{p0 p1 p2 p3 p4 p5 p6 p7 p8:Prop}(x0:p0)(x1:p1)(x2:p2)(x3:p3)(x4:p4)(x5:p5)(x6:p6)(x7:p7)(x8:p8):p0∧p1∧p2∧p3∧p4∧p5∧p6∧p7∧p8:=⟨x0,x1,x2,x3,x4,x5,x6,x7,x8⟩
theorem Pj{p0 p1 p2 p3 p4 p5 p6 p7 p8 p9:Prop}(x0:p0)(x1:p1)(x2:p2)(x3:p3)(x4:p4)(x5:p5)(x6:p6)(x7:p7)(x8:p8)(x9:p9):p0∧p1∧p2∧p3∧p4∧p5∧p6∧p7∧p8∧p9:=⟨x0,x1,x2,x3,x4,x5,x6,x7,x8,x9⟩
theorem rk{p0 p1 p2 p3 p4 p5 p6 p7 p8 p9 p10:Prop}(x0:p0)(x1:p1)(x2:p2)(x3:p3)(x4:p4)(x5:p5)(x6:p6)(x7:p7)(x8:p8)(x9:p9)(x10:p10):p0∧p1∧p2∧p3∧p4∧p5∧p6∧p7∧p8∧p9∧p10:=⟨x0,x1,x2,x3,x4,x5,x6,x7,x8,x9,x10⟩
theorem ahv{p0 p1 p2 p3 p4 p5 p6 p7 p8 p9 p10 p11:Prop}(x0:p0)(x1:p1)(x2:p2)(x3:p3)(x4:p4)(x5:p5)(x6:p6)(x7:p7)(x8:p8)(x9:p9)(x10:p10)(x11:p11):p0∧p1∧p2∧p3∧p4∧p5∧p6∧p7∧p8∧p9∧p10∧p11:=⟨x0,x1,x2,x3,x4,x5,x6,x7,x8,x9,x10,x11⟩
theorem aNd13{p0 p1 p2 p3 p4 p5 p6 p7 p8 p9 p10 p11 p12:Prop}(x0:p0)(x1:p1)(x2:p2)(x3:p3)(x4:p4)(x5:p5)(x6:p6)(x7:p7)(x8:p8)(x9:p9)(x10:p10)(x11:p11)(x12:p12):p0∧p1∧p2∧p3∧p4∧p5∧p6∧p7∧p8∧p9∧p10∧p11∧p12:=⟨x0,x1,x2,x3,x4,x5,x6,x7,x8,x9,x10,x11,x12⟩
theorem Da{p0 p1 p2 p3 p4 p5 p6 p7 p8 p9 p10 p11 p12 p13:Prop}(x0:p0)(x1:p1)(x2:p2)(x3:p3)(x4:p4)(x5:p5)(x6:p6)(x7:p7)(x8:p8)(x9:p9)(x10:p10)(x11:p11)(x12:p12)(x13:p13):p0∧p1∧p2∧p3∧p4∧p5∧p6∧p7∧p8∧p9∧p10∧p11∧p12∧p13:=⟨x0,x1,x2,x3,x4,x5,x6,x7,x8,x9,x10,x11,x12,x13⟩
theorem aNd15{p0 p1 p2 p3 p4 p5 p6 p7 p8 p9 p10 p11 p12 p13 p14:Prop}(x0:p0)(x1:p1)(x2:p2)(x3:p3)(x4:p4)(x5:p5)(x6:p6)(x7:p7)(x8:p8)(x9:p9)(x10:p10)(x11:p11)(x12:p12)(x13:p13)(x14:p14):p0∧p1∧p2∧p3∧p4∧p5∧p6∧p7∧p8∧p9∧p10∧p11∧p12∧p13∧p14:=⟨x0,x1,x2,x3,x4,x5,x6,x7,x8,x9,x10,x11,x12,x13,x14⟩
theorem aNd16{p0 p1 p2 p3 p4 p5 p6 p7 p8 p9 p10 p11 p12 p13 p14 p15:Prop}(x0:p0)(x1:p1)(x2:p2)(x3:p3)(x4:p4)(x5:p5)(x6:p6)(x7:p7)(x8:p8)(x9:p9)(x10:p10)(x11:p11)(x12:p12)(x13:p13)(x14:p14)(x15:p15):p0∧p1∧p2∧p3∧p4∧p5∧p6∧p7∧p8∧p9∧p10∧p11∧p12∧p13∧p14∧p15:=⟨x0,x1,x2,x3,x4,x5,x6,x7,x8,x9,x10,x11,x12,x13,x14,x15⟩
def qL0:=@Nat.le_refl
def Ny:=@List.getElem?_eq_some_iff
def Gc:=@Nat.zero_add
def BS:=@List.mem_of_getElem?
def XJ:=@List.take_succ_eq_append_getElem
def EL:=@decide_eq_true
def Sb:=@decide_eq_false
def qL7:=@List.getElem?_eq_getElem
def WA:=@Int.eq_ofNat_of_zero_le
def HV:=@List.take_of_length_le
def Z6:=@Nat.zero_le
def abE:=@if_neg
def abe:=@if_pos
def yM:=@Int.toNat_natCast
def vZ:=@List.mem_iff_getElem?
def aax:=@List.mem_append
def Og:=@List.mem_cons
def AE:=@List.getElem?_append_right
def aev:=@List.mem_map
def si:=@List.getElem?_append_left
def j9:=@List.nodup_append
def ZT:=@Classical.byContradiction
def aaf:=@List.getElem_mem
def jf:=@Prod.mk.injEq
def Eh:=@List.length_append
def Gw:=@List.mem_cons_of_mem
def iy:=@List.nodup_iff_pairwise_ne
def xD:=@List.mem_singleton
def eR:=@List.exists_cons_of_ne_nil
def EP:=@List.filter_sublist
def VU:=@List.nodup_cons
def N8:=@Option.ne_none_iff_exists'
def Db:=@List.filter_append
def Tn:=@List.getElem?_set
def jz:=@Nat.le_trans
def uV:=@List.nodup_range
def abV:=@Option.isSome_iff_exists
def vg:=@decide_eq_true_eq
def Hs:=@List.mem_cons_self
def ff:=@List.Pairwise.imp_of_mem
def K4:=@List.mem_filter
def wI:=@List.length_map
def j3:=@List.mem_range
def fj:=@List.all_eq_true
def qH:=@List.eq_nil_iff_forall_not_mem
def mJ:=@List.ext_getElem?
def Uz:=@List.filter_congr
def V3:=@List.getD_eq_getElem?_getD
def EH:=@Ne.symm
def Qn:=@List.map_congr_left
def vY:=@List.length_singleton
def DF:=@Nat.add_zero
def Yi:=@List.mem_iff_getElem
def QD:=@List.map_cons
def Lm:=@List.pairwise_iff_getElem
def AQ:=@List.drop_eq_getElem_cons
def Vn:=@List.pairwise_map
def im:=@Nat.mod_eq_of_lt
def OM:=@List.filter_eq_self
def KG:=@List.map_map
def abZ:=@List.length_filter_le
def Bn:=@List.eq_nil_of_length_eq_zero
def b7:=@List.getElem?_drop
def rY:=@Bool.and_eq_true
def Bx:=@List.range_succ
def bC:=@List.mem_append_left
def MY:=@List.getElem?_cons_zero
def amJ:=@List.getElem?_cons_succ
def akG:=@List.map_append
def Cg:=@List.append_assoc
def qL70:=@List.Perm.length_eq
def Ki:=@List.pairwise_lt_range
def qL72:=@List.filter_eq_nil_iff
def uu:=@List.mem_flatMap
def ah6:=@Array.getElem?_toList
def Q4:=@Nat.mod_lt
def ahe:=@Option.map_some
def PN:=@List.mem_or_eq_of_mem_set
def Yq:=@List.mem_reverse
def ang:=@List.mem_append_right
def ah7:=@Array.getElem?_eq_some_iff
def ai4:=@List.not_mem_nil
def ag4:=@Option.some.injEq
def aiq:=@List.getElem?_map
def ahD:=@Array.getElem?_eq_getElem
def V9:=@Nat.lt_of_lt_of_le
def aho:=@List.length_pos_of_mem
def y5:=@Nat.not_lt_zero
def aj3:=@Nat.sub_self
def qL89:=@List.take_append_drop
def qL90:=@Prod.mk.inj
def ak3:=@List.length_eq_zero_iff
def alw:=@List.sum_cons
def anh:=@List.getElem?_take
def Dj:=@Bool.or_eq_true
def afC:=@Nat.lt_succ_self
def ag1:=@of_decide_eq_true
def agh:=@List.getElem?_toArray
def aex:=@List.getElem?_eq_none
def agK:=@List.map_set
def ah1:=@List.eq_nil_or_concat
def acg:=@Bool.false_eq_true
def Gg:=@Int.natCast_zero
def iU:=@List.foldl_cons
def adN:=@List.append_nil
def WZ:=@List.getElem?_reverse
def gK:=@List.eraseIdx_sublist
def WS:=@List.cons_append
def Fu:=@List.length_cons
def ajX:=@List.pairwise_cons
def af7:=@Nat.mul_le_mul_right
def To:=@Classical.axiomOfChoice
def amP:=@List.length_range
def kS:=@Array.getD_eq_getD_getElem?
def Cj:=@List.nil_append
def ai7:=@decide_eq_decide
def agN:=@List.any_eq_true
def dU:=@Array.getElem?_modify
def Ex:=@Option.isNone_some
def aiL:=@Option.isSome_some
def fE:=@List.set_append_right
def Q9:=@List.length_set
def qL122:=@List.reverse_reverse
def abz:=@List.pairwise_append
def aj8:=@List.mem_of_mem_take
def aeu:=@List.take_append_of_le_length
def ah9:=@decide_eq_false_iff_not
def qL127:=@Nat.add_sub_cancel_left
def adE:=@Nat.mul_le_mul
def ahG:=@List.filter_cons
def aoB:=@List.dropLast_concat_getLast
def aeP:=@List.length_drop
def af2:=@Nat.add_mul
def anm:=@List.filter_filter
def adQ:=@Nat.lt_or_gt_of_ne
def oZ:=@Int.cast_ofNat_Int
def als:=@List.pairwise_flatMap
def aoC:=@List.perm_ext_iff_of_nodup
def ags:=@List.reverse_perm
def ann:=@List.Sublist.refl
def ahI:=@List.take_add_one
def Bc:=@Nat.not_le
def WL:=@List.length_take
def JR:=@List.take_length
def aiM:=@List.eq_of_mem_replicate
def NC:=@List.getElem_map
def qL146:=@List.Perm.nodup_iff
def aeA:=@List.take_succ_cons
def Dl:=@List.length_reverse
def qL149:=@List.eraseIdx_eq_take_drop_succ
def alJ:=@List.eraseIdx_cons_succ
def TV:=@Bool.eq_iff_iff
def ahH:=@List.drop_eq_nil_of_le
def qL153:=@List.exists_mem_of_length_pos
def aoD:=@Nat.add_mod_right
def qL155:=@List.Pairwise.imp
def anM:=@Nat.lt_trichotomy
def qL157:=@Array.getElem?_setIfInBounds
def ur:=@Nat.lt_or_ge
def qL159:=@List.countP_eq_length_filter
def qL160:=@List.idxOf_lt_length_of_mem
def aku:=@List.contains_eq_mem
def qL162:=@Array.getElem?_append_left
def alu:=@Nat.le_succ
def qL164:=@Std.Legacy.Range.forIn_eq_forIn_range'
def qL165:=@List.length_pos_iff
def alv:=@List.length_nil
def aoE:=@Nat.lt_of_le_of_lt
def qL168:=@List.length_erase_of_mem
def qL169:=@List.find?_range_eq_some
def aoF:=@List.set_cons_zero
def agm:=@List.drop_zero
def qL172:=@Nat.exists_eq_add_of_le
def qL173:=@List.filter_append_perm
def qL174:=@List.getElem?_inj
def qL175:=@List.append_eq_nil_iff
def qL176:=@List.length_eq_one_iff
def qL177:=@List.drop_of_length_le
def qL178:=@List.map_take
def alC:=@Option.bind_some
def qL180:=@Array.toList_inj
def ail:=@Nat.le_add_right
def aoG:=@Bool.not_eq_true
def qL183:=@List.singleton_append
def qL184:=@List.concat_eq_append
def qL185:=@List.perm_append_comm
def qL186:=@List.contains_iff_mem
def qL187:=@List.getElem_toArray
def alN:=@Nat.min_eq_left
def alQ:=@Nat.le_of_lt
def qL190:=@Nat.mod_self
def qL191:=@List.drop_append_of_le_length
def qL192:=@List.countP_eq_zero
def qL193:=@List.reverse_append
def qL194:=@List.getElem_of_mem
def qL195:=@List.replicate_succ
def qL196:=@List.getD_cons_zero
def amQ:=@Prod.ext
def anN:=@Nat.mul_one
def alZ:=@List.map_id
def qL200:=@List.Sublist.trans
def qL201:=@Option.isNone_none
def qL202:=@Nat.lt_of_le_of_ne
def qL203:=@List.Nodup.sublist
def qL204:=@List.take_set
def aoH:=@List.all_cons
def qL206:=@Nat.lt_succ_of_lt
def qL207:=@List.Perm.mem_iff
def qL208:=@List.reverse_cons
def qL209:=@List.foldl_append
def qL210:=@Array.mapM_eq_mapM_toList
def qL211:=@List.range'_succ
def qL212:=@List.ext_getElem
def qL213:=@List.getElem_inj
def qL214:=@List.Nodup.idxOf_getElem
def qL215:=@List.pairwise_mergeSort
def qL216:=@List.eraseIdx_cons_zero
def qL217:=@List.all_append
def qL218:=@Nat.one_ne_zero
def qL219:=@List.filter_map
def qL220:=@List.headD_cons
def qL221:=@List.findIdx_eq
def qL222:=@Nat.mod_add_mod
def qL223:=@Int.natCast_one
def qL224:=@List.countP_map
def qL225:=@List.getElem_cons_zero
def qL226:=@Nat.eq_zero_of_not_pos
def qL227:=@List.append_inj_right'
def qL228:=@Bool.not_false
def qL229:=@List.drop_take
def qL230:=@List.countP_eq_length
def qL231:=@Nat.le_of_ble_eq_true
def qL232:=@List.take_zero
def qL233:=@Array.mem_toList_iff
def qL234:=@List.mem_erase_of_ne
def qL235:=@List.replicate_succ'
def qL236:=@List.getElem?_of_mem
def qL237:=@List.getElem?_set_ne
def qL238:=@List.erase_cons_tail
def qL239:=@Classical.not_forall
def qL240:=@Nat.add_assoc
def qL241:=@Bool.and_true
def qL242:=@Nat.add_comm
def qL243:=@Nat.sub_zero
def qL244:=@Int.add_zero
def qL245:=@List.map_nil
def qL246:=@Nat.le_total
end Go.Fw
namespace Go.Fw
attribute [local instance] Classical.propDecidable
variable{α:Type}
noncomputable def cls(R:α->α->Prop):List α->Nat
 |[]=>0
 |x::l=>cls R l+if∃y∈l,R x y then 0 else 1
structure Eqv (X:List α) (R:α->α->Prop):Prop where
 refl:∀x∈X,R x x
 symm:∀x∈X,∀y∈X,R x y->R y x
 trans:∀x∈X,∀y∈X,∀z∈X,R x y->R y z->R x z
theorem Eqv.sub{X Y:List α}{R:α->α->Prop}(h:Eqv X R)(hs:∀y∈Y,y∈X):Eqv Y R:=⟨by grind[Eqv.refl],(by grind[Eqv.symm]),(by grind[Eqv.trans])⟩
theorem IZ{R R':α->α->Prop}:∀{X:List α},(∀x∈X,∀y∈X,R x y↔R' x y)->cls R X=cls R' X
 |[],_=>rfl
 |x::l,h=>by
  have c:=IZ (X:=l) fun a ha b hb=>h a (Gw _ ha) b (Gw _ hb);have:(∃y∈l,R x y)↔∃y∈l,R' x y:=by grind[mem_cons_of_mem]
  rw[cls,cls,c];simp only[this]
theorem Yy{R:α->α->Prop}{X Y:List α}(p:X.Perm Y):Eqv X R->cls R X=cls R Y:=by
 induction p with
 |nil=>grind
 |@cons x l l' p a=>
  intro h;have:(∃y∈l,R x y)↔∃y∈l',R x y:=by grind[List.Perm.mem_iff]
  rw[cls,cls,a (by grind[Eqv.sub])];simp only[this]
 |@swap x y l=>
  intro h;have b:x∈y::x::l:=by simp
  have c:y∈y::x::l:=by simp
  have i:∀z∈l,z∈y::x::l:=hGr;simp only[cls,Og,exists_eq_or_imp];by_cases e:R y x
  .have e':=h.symm y c x b e;have:(∃z,z∈l/\R y z)↔∃z,z∈l/\R x z:=by grind[Eqv.trans]
   simp_all
  grind[Eqv.symm]
 |trans p q d g=>grind[Eqv.sub]
theorem GQ{X:List α}{R R':α->α->Prop}(h:Eqv X R){a b:α}(ha:a∈X)(hb:b∈X)(p:¬R a b)(hR:∀x∈X,∀y∈X,R' x y↔R x y\/(R x a/\R b y)\/(R x b/\R a y)):cls R X=cls R' X+1:=by
 have key:∀l:List α,(∀x∈l,x∈X)->cls R l=cls R' l+if(∃y∈l,R a y)/\(∃y∈l,R b y)then 1 else 0:=by
  intro l
  induction l with
  |nil=>grind[cls]
  |cons x l k=>
   intro hs;have j:=hs x Hs;have m:∀z∈l,z∈X:=by grind[List.mem_cons_of_mem]
   have i:=k m;simp only[cls,Og,exists_eq_or_imp];by_cases xa:R a x
   .have ax:=h.symm a ha x j xa;have nb:¬R b x:=by grind[Eqv.trans,Eqv.symm]
    have d:(∃y,y∈l/\R x y)↔∃y,y∈l/\R a y:=by grind[Eqv.trans]
    have c:(∃y,y∈l/\R' x y)↔(∃y,y∈l/\R a y)\/∃y,y∈l/\R b y:=hGr;simp only[d,c,xa,nb,true_or,false_or,true_and];by_cases e:∃y,y∈l/\R a y<;>by_cases g:∃y,y∈l/\R b y<;>simp only[e,g,and_self,and_true,and_false,true_or,or_true,or_self,if_true,if_false]at i ⊢<;>omega
   .by_cases xb:R b x
    .have q:=h.symm b hb x j xb;have d:(∃y,y∈l/\R x y)↔∃y,y∈l/\R b y:=by grind[Eqv.trans]
     have c:(∃y,y∈l/\R' x y)↔(∃y,y∈l/\R a y)\/∃y,y∈l/\R b y:=hGr;simp only[d,c,xa,xb,true_or,false_or,and_true];by_cases e:∃y,y∈l/\R a y<;>by_cases g:∃y,y∈l/\R b y<;>simp only[e,g,and_self,and_true,and_false,true_or,or_true,or_self,if_true,if_false,or_false,false_or]at i ⊢<;>omega
    .have n:¬R x a:=by grind[Eqv.symm]
     have o:¬R x b:=by grind[Eqv.symm]
     have c:(∃y,y∈l/\R' x y)↔∃y,y∈l/\R x y:=hGr;simp only[c,xa,xb,false_or];omega
 have:=key X fun _ h=>h;rw[abe (by grind[Eqv.refl])]at this;exact this
structure Pm (X:List α) (f:α->α):Prop where
 nd:X.Nodup
 mem:∀x∈X,f x∈X
 inj:∀x∈X,∀y∈X,f x=f y->x=y
def it(f:α->α):Nat->α->α
 |0,x=>x
 |k+1,x=>f (it f k x)
theorem aaS(f:α->α):∀(k:Nat)(x:α),it f (k+1) x=it f k (f x)
 |0,_=>rfl
 |k+1,x=>by rw[it,aaS f k x];rfl
theorem qu(f:α->α)(j:Nat):∀(k:Nat)(x:α),it f (j+k) x=it f j (it f k x)
 |0,_=>rfl
 |k+1,x=>by rw[<-qL240,aaS,qu f j k (f x),aaS]
theorem acK{A B:List α}(b:A.Nodup)(h:∀a∈A,a∈B):A.length<=B.length:=by
 induction A generalizing B with
 |nil=>simp
 |cons a A c=>rw[VU]at b;have hb:=h a Hs;have:=c (B:=B.erase a) b.2 fun x d=>(qL234 (fun e=>b.1 hGr)).2 (h x (Gw _ d));grind
def WD(f:α->α)(x y:α):Prop:=∃k,it f k x=y
namespace Pm
variable{X:List α}{f:α->α}
theorem uN(p:Pm X f){x:α}(a:x∈X):∀k,it f k x∈X
 |0=>a
 |k+1=>p.mem _ (p.uN a k)
def FT(p:Pm X f){x y:α}(a:x∈X)(b:y∈X):∀k,it f k x=it f k y->x=y
 |0,h=>h
 |k+1,h=>p.FT a b k (p.inj _ (p.uN a k) _ (p.uN b k) h)
theorem period(p:Pm X f){x:α}(b:x∈X):∃k,0<k/\it f k x=x:=by
 refine ZT fun a=>?_;have nd:((rG (X.length+1)).map fun k=>it f k x).Nodup:=by
  rw[iy,Vn];refine qL155 ?_ (Ki (n:=X.length+1));intro i j c e;refine a ⟨j-i,NH,?_⟩;have:it f j x=it f i (it f (j-i) x):=by rw[<-qu];grind
  rw[this]at e;exact(p.FT b (p.uN b _) i e).symm
 have:=acK nd (B:=X) (by grind[Pm.uN]);grind
theorem MH(_:Pm X f){x:α}{k:Nat}(h:it f k x=x):∀m,it f (m*k) x=x
 |0=>by rw[Nat.zero_mul];rfl
 |m+1=>by rw[af2,Nat.one_mul,qu,h];exact MH ‹_› h m
theorem adK(p:Pm X f){x y:α}(a:x∈X)(h:WD f x y):WD f y x:=by
 obtain⟨k,rfl⟩:=h;have⟨q,b,c⟩:=p.period a;refine⟨k*q-k,?_⟩;rw[<-qu];have:k*q-k+k=k*q:=by have:k*1<=k*q:=Nat.mul_le_mul_left k b;omega
 grind[Pm.MH]
theorem eqv(p:Pm X f):Eqv X (WD f):=⟨fun x _=>⟨0,rfl⟩,(by grind[Pm.adK]),fun _ _ _ _ _ _ ⟨j,a⟩ ⟨k,b⟩=>⟨k+j,by rw[qu,a,b]⟩⟩
theorem sP(p:Pm X f){x y:α}(a:x∈X)(h:WD f x y):y∈X:=by obtain⟨k,rfl⟩:=h;grind[Pm.uN]
end Pm
theorem WD.refl(f:α->α)(x:α):WD f x x:=⟨0,rfl⟩
theorem WD.one(f:α->α)(x:α):WD f x (f x):=⟨1,rfl⟩
theorem WD.trans{f:α->α}{x y z:α}(h:WD f x y)(g:WD f y z):WD f x z:=by obtain⟨j,rfl⟩:=h;obtain⟨k,rfl⟩:=g;exact⟨k+j,qu f k j x⟩
theorem On{p:Nat->Prop}(h:∃k,p k):∃k,p k/\∀j,j<k->¬p j:=by
 have⟨k,a⟩:=h
 induction k using Nat.strongRecOn<;>grind
theorem Nr{f g:α->α}{x:α}:∀k,(∀j,j<k->f (it f j x)=g (it f j x))->it g k x=it f k x
 |0,_=>rfl
 |k+1,h=>by rw[it,it,Nr k fun j a=>h j NH,h k NH]
noncomputable def swp(f:α->α)(a b:α):α->α:=fun x=>if x=a then f b else if x=b then f a else f x
theorem C5(f:α->α)(a b:α):swp f a b a=f b:=by simp[swp]
theorem dX(f:α->α)(a b:α):swp f a b b=f a:=by grind[swp]
theorem Q3{f:α->α}{a b x:α}(c:x≠a)(h2:x≠b):swp f a b x=f x:=by grind[swp]
theorem swp_swp(f:α->α)(a b:α):swp (swp f a b) a b=f:=by
 funext x;by_cases h:x=a
 .grind[C5,dX]
 .by_cases k:x=b
  all_goals grind[dX,C5,Q3]
theorem Pm.swp{X:List α}{f:α->α}(p:Pm X f){a b:α}(ha:a∈X)(hb:b∈X):Pm X (swp f a b):=by
 have v:∀x,∃y,Fw.swp f a b x=f y/\(x∈X->y∈X)/\((x=a/\y=b)\/(x≠a/\x=b/\y=a)\/(x≠a/\x≠b/\y=x)):=fun x=>by
  by_cases h:x=a
  .grind[C5]
  .by_cases k:x=b
   all_goals grind[dX,Q3]
 refine⟨p.nd,fun x c=>?_,fun x c y d e=>?_⟩
 .obtain⟨y,e,d,_⟩:=v x;grind[Pm.mem]
 .obtain⟨x',g,i,c1⟩:=v x;have⟨j,l,h2,c2⟩:=v y;grind[Pm.inj]
theorem cG{X:List α}{f:α->α}(p:Pm X f){a b:α}(ha:a∈X)(hb:b∈X)(s:¬WD f a b):∀x∈X,∀y∈X,WD (swp f a b) x y↔WD f x y\/(WD f x a/\WD f b y)\/(WD f x b/\WD f a y):=by
 have q:=p.swp ha hb;have to:∀{c d:α},(c=a/\d=b\/c=b/\d=a)->∀x∈X,WD f x c->WD (swp f a b) x c:=by
  intro c d l x i h;have⟨k,t,u⟩:=On h;have m:∀j,it f j x≠d:=by grind[WD,Pm.adK,WD.trans]
  refine⟨k,?_⟩;grind[Nr,Q3]
 have n:=fun x i=>to (c:=a) (d:=b) hGr x i;have o:=fun x i=>to (c:=b) (d:=a) hGr x i;have ab:WD (swp f a b) a b:=by grind[Pm.mem,Pm.adK,WD.one,C5,WD.trans]
 have one:∀x∈X,WD f x (swp f a b x)\/(WD f x a/\WD f b (swp f a b x))\/(WD f x b/\WD f a (swp f a b x)):=fun x _=>by
  by_cases h:x=a
  .grind[C5,WD.refl,WD.one]
  .by_cases k:x=b
   all_goals grind[dX,WD.refl,WD.one,Q3]
 intro x i y v;constructor
 .rintro⟨k,rfl⟩
  induction k<;>grind[WD.refl,Pm.uN,it.eq_1,it.eq_2,WD.trans]
 .rintro(h|⟨h,g⟩|⟨h,g⟩)
  .by_cases r:WD f x a
   .grind[Pm.adK,WD.trans]
   .by_cases h2:WD f x b
    .grind[Pm.adK,WD.trans]
    .obtain⟨k,rfl⟩:=h;refine⟨k,Nr k fun j _=>(Q3 (fun e=>r ⟨j,e⟩) fun e=>h2 ⟨j,e⟩).symm⟩
  all_goals grind[WD.trans,Pm.adK]
theorem ano{X:List α}{f:α->α}(p:Pm X f){a b:α}(ha:a∈X)(g:a≠b)(l:WD f a b):¬WD (swp f a b) a b:=by
 have⟨k,d,r⟩:=On l;have hb:=p.sP ha l;have q:=p.swp ha hb;have k0:k≠0:=fun e=>g (by subst e;exact d);have t:∀j,0<j->j<k->it f j a≠a:=fun j n o e=>by
  have:it f (k-j) a=b:=by
   rw[<-d];have:k=(k-j)+j:=NH
   conv=>rhs;rw[this,qu,e]
  grind
 have i:∀m,∃j,0<j/\j<=k/\it (swp f a b) m b=it f j a:=by
  intro m
  induction m with
  |zero=>exact⟨k,NH,qL0 _,d.symm⟩
  |succ m s=>
   have⟨j,n,o,e⟩:=s;rw[it,e];by_cases c:j=k
   .subst c;rw[d,dX];exact⟨1,NH,NH,rfl⟩
   .rw[Q3 hGr (r j NH)];exact⟨j+1,NH,NH,rfl⟩
 intro h;have⟨m,u⟩:=q.adK ha h;have⟨j,n,o,e⟩:=i m;grind
theorem WC{X:List α}{f:α->α}(p:Pm X f){a b:α}(ha:a∈X)(hb:b∈X)(c:a≠b):
  (WD f a b->cls (WD (swp f a b)) X=cls (WD f) X+1)/\(¬WD f a b->cls (WD (swp f a b)) X+1=cls (WD f) X):=by
 constructor
 .intro h;have q:=p.swp ha hb;have:=GQ q.eqv ha hb (ano p ha c h) (R':=WD f) (by grind[cG,ano,swp_swp]);exact this
 .intro h;exact(GQ p.eqv ha hb h (cG p ha hb h)).symm
noncomputable def UR(f:α->α)(d:α):α->α:=fun x=>if f x=d then f d else f x
theorem skp_pm{X Y:List α}{f:α->α}(p:Pm X f){d:α}(a:X.Perm (d::Y)):Pm Y (UR f d):=by
 have nd:(d::Y).Nodup:=a.nodup_iff.1 p.nd;rw[VU]at nd;refine⟨nd.2,fun x b=>?_,fun x b y c e=>?_⟩
 all_goals grind[UR,Pm.mem,Pm.inj]
theorem skp_orb{X Y:List α}{f:α->α}(p:Pm X f){d:α}(a:X.Perm (d::Y)):∀x∈Y,∀y∈Y,WD (UR f d) x y↔WD f x y:=by
 have q:=skp_pm p a;have nd:(d::Y).Nodup:=a.nodup_iff.1 p.nd;have mem:∀x,x∈X↔x=d\/x∈Y:=fun x=>by grind
 intro x g y c;constructor
 .rintro⟨k,rfl⟩;clear c
  induction k<;>grind[WD.refl,it.eq_1,it.eq_2,UR,WD.one,WD.trans]
 .rintro⟨k,b⟩
  induction k using Nat.strongRecOn generalizing x with
  |_ k h=>
   cases k with
   |zero=>exact⟨0,b⟩
   |succ k=>
    rw[aaS]at b;by_cases e:f x=d
    .cases k<;>grind[it.eq_1,aaS,UR,Pm.mem,WD.one,WD.trans]
    grind[UR,Pm.mem,WD.one,WD.trans]
theorem iQ{X Y:List α}{f:α->α}(p:Pm X f){d:α}(a:X.Perm (d::Y)):cls (WD f) X=cls (WD (UR f d)) Y+if f d=d then 1 else 0:=by
 have nd:(d::Y).Nodup:=a.nodup_iff.1 p.nd;have mem:∀x,x∈X↔x=d\/x∈Y:=fun x=>by grind
 rw[Yy a p.eqv,cls,IZ (skp_orb p a)];by_cases e:f d=d
 .rw[abe e,abE];rintro⟨y,c,k,b⟩;have:it f k d=d:=by
   clear b
   induction k<;>grind[it.eq_1,it.eq_2]
  grind
 .rw[abE e,abe];grind[Pm.mem,WD.one]
end Go.Fw
namespace Go.Fw
section
attribute [local instance] Classical.propDecidable
def nxF(h:Nat):II->Nat->Nat
 |[],_=>h
 |x::l,y=>if x=y then l.headD h else nxF h l y
def nx(l:II)(y:Nat):Nat:=nxF (l.headD y) l y
theorem agF(h y:Nat)(b:II):∀a:II,y∉a->nxF h (a++y::b) y=b.headD h
 |[],_=>by simp[nxF]
 |x::a,c=>by rw[WS,nxF,abE hGr,agF h y b a (by grind[mem_cons_of_mem])]
theorem ZL{a b:II}{y:Nat}(c:y∉a):nx (a++y::b) y=(b++(a++[y])).headD 0:=by grind[nx.eq_1,agF]
theorem sC{l:II}{y:Nat}(h:y∈l):∃a b,l=a++y::b/\y∉a:=by
 induction l with
 |nil=>cases h
 |cons x l c=>
  by_cases e:x=y
  .subst e;exact⟨[],l,rfl,Ma⟩
  grind
theorem ET{c:II}{y:Nat}:nx (y::c) y=(c++[y]).headD 0:=by have:=ZL (a:=[]) (b:=c) (y:=y) Ma;grind
theorem aR{a b:II}(nd:(a++b).Nodup){y:Nat}(c:y∈a++b):nx (a++b) y=nx (b++a) y:=by grind[sC,ZL]
theorem Hq{l:II}(nd:l.Nodup){y:Nat}(h:y∈l):∃c,(∀z,z∈l↔z=y\/z∈c)/\(y::c).Nodup/\(∀z∈l,nx l z=nx (y::c) z)/\(∃a b,l=a++y::b/\c=b++a):=by obtain⟨a,b,rfl,e⟩:=sC h;have d:(a++y::b).Perm (y::(b++a)):=hGr;exact⟨b++a,fun z=>by rw[d.mem_iff,Og],d.nodup_iff.1 nd,(by grind[aR]),a,b,rfl,rfl⟩
theorem ZP{l:II}{y:Nat}(h:y∈l):nx l y∈l:=by
 obtain⟨a,b,rfl,d⟩:=sC h;rw[ZL d];cases b with
 |cons c b=>simp
 |nil=>cases a<;>simp
theorem Gv{l:II}(nd:l.Nodup):l.reverse.Nodup:=by grind[List.Perm.nodup_iff]
theorem amS{l:II}(nd:l.Nodup){y:Nat}(h:y∈l):nx l.reverse (nx l y)=y:=by
 obtain⟨a,b,rfl,g⟩:=sC h;have d:nx (a++y::b) y=nx (y::(b++a)) y:=by grind[aR]
 have e:∀z∈a++y::b,nx (a++y::b).reverse z=nx (y::(b++a)).reverse z:=by grind[aR]
 rw[e _ (ZP h),d,ET];have f:(y::(b++a)).Nodup:=hGr;generalize b++a=c at*;cases c with
 |nil=>simp[nx,nxF]
 |cons z c=>grind[ZL]
theorem nx_rev'{l:II}(nd:l.Nodup){y:Nat}(h:y∈l):nx l (nx l.reverse y)=y:=by grind[amS,reverse_reverse]
theorem C9{l:II}(nd:l.Nodup){x y:Nat}(a:x∈l)(b:y∈l)(e:nx l x=nx l y):x=y:=by rw[<-amS nd a,<-amS nd b,e]
theorem Bk{l:II}(nd:l.Nodup){x:Nat}(d:x∈l):nx l x=x↔l=[x]:=by
 constructor
 .intro h;obtain⟨c,f,g,e,a,b,rfl,rfl⟩:=Hq nd d;rw[e x d,ET]at h;cases i:b++a<;>grind[append_eq_nil_iff]
 grind[nx,nxF]
theorem Hn{l:II}(nd:l.Nodup){x y:Nat}(e:x∈l)(g:y∈l)(h:y≠x):nx (l.erase x) y=if nx l y=x then nx l x else nx l y:=by
 obtain⟨c,k,m,f,a,b,rfl,rfl⟩:=Hq nd e;have i:(a++x::b).erase x=a++b:=hGr;have d:y∈b++a:=hGr;have nab:(a++b).Nodup:=hGr;rw[i,aR nab hGr,f y g,f x e];generalize b++a=c at*;obtain⟨c1,c2,rfl,j⟩:=sC d;rw[ZL j,ET];have h3:nx (x::(c1++y::c2)) y=(c2++(x::c1++[y])).headD 0:=by grind[ZL]
 rw[h3];cases c2 with
 |nil=>simp
 |cons z c2=>grind
theorem JT{l:II}(nd:l.Nodup){x y:Nat}(o:x∈l)(s:y∈l):WD (nx l) x y:=by
 obtain⟨c,C,D,t,-⟩:=Hq nd o;have g:∀z∈l,z∈x::c:=hGr;have main:∀(p:II)(q:II),x::c=p++q->∀z∈p,WD (nx l) x z:=by
  intro p
  induction E:p.length generalizing p with
  |zero=>grind
  |succ k v=>
   intro q e z A;obtain⟨f,w,rfl⟩:∃f w,p=f++[w]:=⟨p.dropLast,p.getLast hGr,(aoB _).symm⟩;have i:=v f hGr (w::q) (by rw[e];simp);rcases aax.1 A with h|h
   .exact i z h
   .rw[xD]at h;subst h;cases f with
    |nil=>grind[WD.refl]
    |cons a b=>
     obtain⟨d,u,m⟩:∃d u,a::b=d++[u]:=⟨(a::b).dropLast,(a::b).getLast Ma,(aoB _).symm⟩;have B:u∈a::b:=by rw[m];simp
     have j:u∈l:=hGr;have h2:nx l u=z:=by
      rw[t u j,e,m];have nn:u∉d:=by grind[List.nodup_append]
      have:d++[u]++[z]++q=d++u::(z::q):=by simp
      rw[this,ZL nn];rfl
     grind[WD.one,WD.trans]
 exact main (x::c) [] Ma y (g y s)
structure V7 (n:Nat) (r:Nat->II):Prop where
 nd:∀v,(r v).Nodup
 lt:∀v w,w∈r v->v<n
 sy:∀v w,w∈r v->v∈r w
 ir:∀v,v∉r v
abbrev H8:=Nat×Nat
def dl(n:Nat)(r:Nat->II):List H8:=(rG n).flatMap fun v=>(r v).map fun w=>(v,w)
def Nv(r:Nat->II)(d:H8):H8:=(d.2,nx (r d.2) d.1)
section
variable{n:Nat}{r:Nat->II}
theorem IP(R:V7 n r){d:H8}:d∈dl n r↔d.2∈r d.1:=by grind[dl,V7.lt]
theorem iq{f:Nat->List H8}(a:∀v,(f v).Nodup)(h2:∀v,∀d∈f v,d.1=v):∀{l:II},l.Nodup->(l.flatMap f).Nodup
 |[],_=>by simp
 |v::l,h=>by grind
theorem J8(R:V7 n r):(dl n r).Nodup:=by
 refine iq (fun v=>?_) (fun v d hd=>?_) uV
 .rw[iy,Vn];exact(iy.1 (R.nd v)).imp hGr
 grind
theorem aaG(R:V7 n r):Pm (dl n r) (Nv r):=by
 refine⟨J8 R,fun d hd=>?_,fun d hd e a h=>?_⟩
 .rw[IP R]at hd ⊢;exact ZP (R.sy _ _ hd)
 .rw[IP R]at hd a;have⟨v,w⟩:=d;have⟨x,y⟩:=e;simp only[Nv,jf]at h;obtain⟨rfl,h⟩:=h;have:v=x:=C9 (R.nd w) (R.sy _ _ hd) (R.sy _ _ a) h;rw[this]
def del(r:Nat->II)(v w:Nat):Nat->II:=fun x=>if x=v then(r v).erase w else if x=w then(r w).erase v else r x
theorem anO(r:Nat->II)(v w:Nat):del r v w v=(r v).erase w:=by simp[del]
theorem u9{v w:Nat}(r:Nat->II)(h:v≠w):del r v w w=(r w).erase v:=by grind[del]
theorem ab1{v w x:Nat}(r:Nat->II)(a:x≠v)(h2:x≠w):del r v w x=r x:=by grind[del]
theorem JF(R:V7 n r){v w:Nat}(a:v≠w){x y:Nat}:y∈del r v w x↔y∈r x/\¬(x=v/\y=w)/\¬(x=w/\y=v):=by
 by_cases b:x=v
 .subst b;rw[anO,(R.nd x).mem_erase_iff];grind
 .by_cases h2:x=w
  .subst h2;rw[u9 r a,(R.nd x).mem_erase_iff];grind
  grind[ab1]
theorem afL(R:V7 n r){v w:Nat}(a:v≠w):V7 n (del r v w):=by
 refine⟨fun x=>?_,fun x y h=>R.lt x y (by grind[JF]),fun x y h=>?_,(by grind[V7.ir,JF])⟩
 .unfold del;split
  .exact(R.nd v).erase _
  .split
   .exact(R.nd w).erase _
   .exact R.nd x
 grind[JF,V7.sy]
theorem yR{α:Type}{A B:List α}(a:A.Nodup)(nb:B.Nodup)(h:∀x,x∈A↔x∈B):A.Perm B:=by
 induction A generalizing B<;>grind
theorem yH(R:V7 n r){v w:Nat}(h:w∈r v):(dl n r).Perm ((v,w)::(w,v)::dl n (del r v w)):=by
 have a:v≠w:=by grind[V7.ir]
 have R':=afL R a;grind[J8,IP,JF,V7.sy]
theorem Qv{α:Type}(f:α->α)(d x:α):UR f d x=if f x=d then f d else f x:=rfl
theorem phi_del(R:V7 n r){v w:Nat}(h:w∈r v){d:H8}(hd:d∈dl n (del r v w)):Nv (del r v w) d=UR (UR (swp (Nv r) (v,w) (w,v)) (v,w)) (w,v) d:=by
 have c:v≠w:=by grind[V7.ir]
 have R':=afL R c;have⟨a,b⟩:=d;rw[IP R',JF R c]at hd;have⟨f,n1,l⟩:=hd;have s0:swp (Nv r) (v,w) (w,v) (a,b)=Nv r (a,b):=Q3 hGr hGr;have e:=R.sy _ _ f;by_cases j:b=v
 .subst j;have g:a≠w:=hGr
  have k:Nv (del r b w) (a,b)=(b,if nx (r b) a=w then nx (r b) w else nx (r b) a):=by simp only[Nv];rw[anO,Hn (R.nd b) h e g]
  grind[Nv,C5,Qv]
 .by_cases h2:b=w
  .subst h2;have i:a≠v:=hGr
   have k:Nv (del r v b) (a,b)=(b,if nx (r b) a=v then nx (r b) v else nx (r b) a):=by simp only[Nv];rw[u9 r c,Hn (R.nd b) (R.sy _ _ h) e i]
   grind[Nv,dX,Qv]
  grind[Nv,Qv,ab1]
noncomputable def mj(n:Nat)(r:Nat->II):Nat:=cls (WD (Nv r)) (dl n r)+((rG n).filter fun v=>decide (r v=[])).length
theorem ER{α:Type}{f g:α->α}{X:List α}(p:Pm X f)(h:∀x∈X,f x=g x):∀x∈X,∀y∈X,WD f x y↔WD g x y:=by
 intro x b y _;have e:∀k,it g k x=it f k x:=by grind[Nr,Pm.uN]
 exact⟨fun⟨k,a⟩=>⟨k,hGr⟩,fun⟨k,a⟩=>⟨k,hGr⟩⟩
theorem iso_del(R:V7 n r){v w:Nat}(h:w∈r v):((rG n).filter fun x=>decide (del r v w x=[])).length=((rG n).filter fun x=>decide (r x=[])).length+(if r v=[w]then 1 else 0)+if r w=[v]then 1 else 0:=by
 have c:v≠w:=by grind[V7.ir]
 have hw:=R.sy _ _ h
 have key:∀l:II,l.Nodup->(l.filter fun x=>decide (del r v w x=[])).length=(l.filter fun x=>decide (r x=[])).length+(if v∈l/\r v=[w]then 1 else 0)+if w∈l/\r w=[v]then 1 else 0:=by
  intro l
  induction l with
  |nil=>simp
  |cons x l d=>
   intro nd;rw[VU]at nd;have e:∀{a b:Nat},b∈r a->((r a).erase b=[]↔r a=[b]):=fun{a b} hb=>by grind[List.length_erase_of_mem,List.length_eq_one_iff,List.mem_singleton]
   by_cases f:x=v
   .grind[anO]
   .by_cases h2:x=w
    .grind[u9]
    grind[ab1]
 grind[V7.lt]
theorem aed(R:V7 n r){v w:Nat}(h:w∈r v):(WD (Nv r) (v,w) (w,v)->mj n (del r v w)=mj n r+1)/\(¬WD (Nv r) (v,w) (w,v)->mj n (del r v w)+1=mj n r):=by
 have b:v≠w:=by grind[V7.ir]
 have hw:=R.sy _ _ h;have R':=afL R b;have p:=aaG R;have hd:(v,w)∈dl n r:=(IP R).2 h;have a:(w,v)∈dl n r:=(IP R).2 hw;have c:((v,w):H8)≠(w,v):=fun e=>by grind
 have⟨s1,s2⟩:=WC p hd a c;have q:=p.swp hd a;have d:=yH R h;have k1:=iQ q d;have f:=skp_pm q d;have k2:=iQ f (.refl _);have c1:cls (WD (Nv (del r v w))) (dl n (del r v w))=cls (WD (UR (UR (swp (Nv r) (v,w) (w,v)) (v,w)) (w,v))) (dl n (del r v w)):=IZ (ER (aaG R') fun x g=>phi_del R h g);have i:(swp (Nv r) (v,w) (w,v) (v,w)=(v,w))↔r v=[w]:=by rw[C5];simp only[Nv,jf,true_and];exact Bk (R.nd v) h
 have j:(UR (swp (Nv r) (v,w) (w,v)) (v,w) (w,v)=(w,v))↔r w=[v]:=by
  have:UR (swp (Nv r) (v,w) (w,v)) (v,w) (w,v)=Nv r (v,w):=by grind[UR,dX,Nv]
  rw[this];simp only[Nv,jf,true_and];exact Bk (R.nd w) hw
 grind[iso_del,mj]
inductive Cr (r:Nat->II):Nat->Nat->Prop
 |refl (a:Nat):Cr r a a
 |step {a b c:Nat}:Cr r a b->c∈r b->Cr r a c
theorem Cr.trans{a b c:Nat}(h:Cr r a b)(g:Cr r b c):Cr r a c:=by
 induction g with
 |refl=>exact h
 |step _ e d=>exact .step d e
theorem Cr.one{a b:Nat}(h:b∈r a):Cr r a b:=.step (.refl a) h
theorem Cr.symm(R:V7 n r){a b:Nat}(h:Cr r a b):Cr r b a:=by
 induction h with
 |refl=>exact .refl _
 |step _ e c=>exact(Cr.one (R.sy _ _ e)).trans c
theorem Cr.eqv(R:V7 n r)(X:II):Eqv X (Cr r):=⟨fun x _=>.refl x,(by grind[Cr.symm]),(by grind[Cr.trans])⟩
theorem Cr.mono{d:Nat->II}(h:∀v w,w∈r v->w∈d v){a b:Nat}(c:Cr r a b):Cr d a b:=by
 induction c with
 |refl=>exact .refl _
 |step _ e f=>exact .step f (h _ _ e)
noncomputable def iJ(n:Nat)(r:Nat->II):Nat:=cls (Cr r) (rG n)
theorem cr_del(R:V7 n r){v w:Nat}(h:w∈r v){a b:Nat}:Cr r a b↔Cr (del r v w) a b\/(Cr (del r v w) a v/\Cr (del r v w) w b)\/(Cr (del r v w) a w/\Cr (del r v w) v b):=by
 have g:v≠w:=by grind[V7.ir]
 have sub:∀x y,y∈del r v w x->y∈r x:=by grind[JF]
 constructor
 .intro c
  induction c with
  |refl=>exact .inl (.refl _)
  |@step b c _ e f=>
   by_cases k:b=v/\c=w
   .obtain⟨rfl,rfl⟩:=k;rcases f with i|⟨i,_⟩|⟨i,_⟩
    .exact .inr (.inl ⟨i,.refl _⟩)
    .exact .inr (.inl ⟨i,.refl _⟩)
    grind
   .by_cases h2:b=w/\c=v
    .obtain⟨rfl,rfl⟩:=h2;rcases f with i|⟨i,_⟩|⟨i,_⟩
     .exact .inr (.inr ⟨i,.refl _⟩)
     .exact .inl i
     .exact .inr (.inr ⟨i,.refl _⟩)
    .have e':c∈del r v w b:=by grind[JF]
     rcases f with i|⟨i,j⟩|⟨i,j⟩
     .exact .inl (.step i e')
     .exact .inr (.inl ⟨i,.step j e'⟩)
     .exact .inr (.inr ⟨i,.step j e'⟩)
 .rintro(c|⟨c,d⟩|⟨c,d⟩)
  .grind[Cr.mono]
  .exact((c.mono sub).trans (.one h)).trans (d.mono sub)
  .exact((c.mono sub).trans (.one (R.sy _ _ h))).trans (d.mono sub)
theorem ac3(R:V7 n r){v w:Nat}(h:w∈r v):(Cr (del r v w) v w->iJ n (del r v w)=iJ n r)/\(¬Cr (del r v w) v w->iJ n (del r v w)=iJ n r+1):=by
 have d:v≠w:=by grind[V7.ir]
 have R':=afL R d;constructor
 .intro c;refine IZ fun a _ b _=>?_;grind[cr_del,Cr.trans,Cr.symm]
 .intro c;exact GQ (Cr.eqv R' _) (by grind[V7.lt]) (j3.2 (R.lt _ _ (R.sy _ _ h))) c (by grind[cr_del])
theorem jh(R:V7 n r){v w:Nat}(h:w∈r v)(hb:¬Cr (del r v w) v w):WD (Nv r) (v,w) (w,v):=by
 have a:v≠w:=by grind[V7.ir]
 have R':=afL R a;have p:=aaG R;have hd:(v,w)∈dl n r:=(IP R).2 h;refine ZT fun b=>hb ?_;have key:∀j,0<j->Cr (del r v w) w (it (Nv r) j (v,w)).1\/∃i,0<i/\i<j/\it (Nv r) i (v,w)=(v,w):=by
  intro j
  induction j with
  |zero=>grind
  |succ j f=>
   intro _;by_cases g:j=0
   .subst g;exact .inl (.refl _)
   rcases f NH with c|⟨i,o,q,e⟩
   .by_cases l:it (Nv r) j (v,w)=(v,w)
    .grind
    have m:it (Nv r) j (v,w)≠(w,v):=fun e=>b ⟨j,e⟩;have d:=p.uN hd j;rw[IP R]at d;refine .inl (c.step ?_);exact(JF R a).2 ⟨d,fun e=>l (amQ e.1 e.2),fun e=>m (amQ e.1 e.2)⟩
   grind
 have⟨k,⟨k0,s⟩,t⟩:=On (p:=fun k=>0<k/\it (Nv r) k (v,w)=(v,w)) (p.period hd);grind[Cr.symm]
theorem no_dart(R:V7 n r)(h:dl n r=[])(v:Nat):r v=[]:=by
 cases e:r v with
 |nil=>rfl
 |cons w l=>
  have:(v,w)∈dl n r:=by grind[IP]
  grind
theorem anP:∀(m:Nat)(r:Nat->II),V7 n r->(dl n r).length=2*m->∃g,n+mj n r+2*g=m+2*iJ n r
 |0,r,R,h=>by
  have i:=ak3.1 h;have q:=no_dart R i;refine⟨0,?_⟩;have s:mj n r=n:=by grind[mj,List.filter_eq_self,cls]
  have t:iJ n r=n:=by
   unfold iJ;have:∀a b,Cr r a b↔a=b:=fun a b=>by
    constructor
    .intro c
     induction c<;>grind
    .rintro rfl;exact .refl _
   have key:∀l:II,l.Nodup->cls (Cr r) l=l.length:=by
    intro l
    induction l<;>grind[cls.eq_1,cls.eq_2]
   grind
  omega
 |m+1,r,R,h=>by
  obtain⟨d,l,e⟩:∃d l,dl n r=d::l:=by
   cases hh:dl n r<;>grind
  have⟨v,w⟩:=d;have hw:w∈r v:=(IP (d:=(v,w)) R).1 hGr;have f:v≠w:=by grind[V7.ir]
  have j:=(yH R hw).length_eq;simp only[Fu]at j;have⟨g,hg⟩:=anP m (del r v w) (afL R f) NH;have⟨k,u⟩:=aed R hw;have⟨c1,c2⟩:=ac3 R hw;by_cases o:WD (Nv r) (v,w) (w,v)
  .have:=k o;by_cases p:Cr (del r v w) v w
   .have:=c1 p;exact⟨g+1,NH⟩
   grind
  grind[jh]
end
section
variable{α:Type}
noncomputable def two(P:α->Prop)(f g:α->α)(x:α):α:=if P x then f x else g x
theorem Ae{R:α->α->Prop}{Y:List α}:∀X:List α,(∀x∈X,∀y∈Y,¬R x y)->cls R (X++Y)=cls R X+cls R Y
 |[],_=>by simp[cls]
 |x::X,h=>by rw[WS,cls,cls,Ae X (by grind[mem_cons_of_mem])];have:(∃y∈X++Y,R x y)↔∃y∈X,R x y:=hGr;simp only[this];omega
structure Oi (D A B:List α) (P:α->Prop) (f g:α->α):Prop where
 perm:D.Perm (A++B)
 pa:∀x∈A,P x
 pb:∀x∈B,¬P x
 fa:Pm A f
 gb:Pm B g
variable{D A B:List α}{P:α->Prop}{f g:α->α}
def Oi.inA(p:Oi D A B P f g){x:α}(a:x∈A):two P f g x=f x:=abe (p.pa x a)
def Oi.inB(p:Oi D A B P f g){x:α}(a:x∈B):two P f g x=g x:=abE (p.pb x a)
theorem Oi.mem(p:Oi D A B P f g){x:α}:x∈D↔x∈A\/x∈B:=by rw[p.perm.mem_iff,aax]
theorem Oi.itA(p:Oi D A B P f g){x:α}(a:x∈A):∀k,it (two P f g) k x=it f k x
 |0=>rfl
 |k+1=>by show two P f g (it (two P f g) k x)=f (it f k x);rw[p.itA a k,p.inA (p.fa.uN a k)]
theorem Oi.itB(p:Oi D A B P f g){x:α}(a:x∈B):∀k,it (two P f g) k x=it g k x
 |0=>rfl
 |k+1=>by show two P f g (it (two P f g) k x)=g (it g k x);rw[p.itB a k,p.inB (p.gb.uN a k)]
theorem Oi.orbA(p:Oi D A B P f g){x:α}(a:x∈A){y:α}:WD (two P f g) x y↔WD f x y:=⟨fun⟨k,h⟩=>⟨k,by grind[Oi.itA]⟩,fun⟨k,h⟩=>⟨k,by grind[Oi.itA]⟩⟩
theorem Oi.orbB(p:Oi D A B P f g){x:α}(a:x∈B){y:α}:WD (two P f g) x y↔WD g x y:=⟨fun⟨k,h⟩=>⟨k,by grind[Oi.itB]⟩,fun⟨k,h⟩=>⟨k,by grind[Oi.itB]⟩⟩
theorem Oi.noAB(p:Oi D A B P f g){x y:α}(a:x∈A)(b:y∈B):¬WD (two P f g) x y:=fun h=>by have:=p.fa.sP a ((p.orbA a).1 h);grind[Oi.pb,Oi.pa]
theorem Oi.pm(p:Oi D A B P f g):Pm D (two P f g):=by
 refine⟨?_,fun x a=>?_,fun x a y b e=>?_⟩
 .rw[p.perm.nodup_iff,j9];exact⟨p.fa.nd,p.gb.nd,(by grind[Oi.pb,Oi.pa])⟩
 .rcases p.mem.1 a with h|h
  .rw[p.inA h];exact p.mem.2 (.inl (p.fa.mem x h))
  .rw[p.inB h];exact p.mem.2 (.inr (p.gb.mem x h))
 .rcases p.mem.1 a with h|h<;>rcases p.mem.1 b with k|k
  .rw[p.inA h,p.inA k]at e;exact p.fa.inj x h y k e
  .rw[p.inA h,p.inB k]at e;exact absurd (p.pa _ (p.fa.mem x h)) (e▸p.pb _ (p.gb.mem y k))
  .rw[p.inB h,p.inA k]at e;exact absurd (p.pa _ (p.fa.mem y k)) (e▸p.pb _ (p.gb.mem x h))
  .rw[p.inB h,p.inB k]at e;exact p.gb.inj x h y k e
theorem Oi.cls(p:Oi D A B P f g):cls (WD (two P f g)) D=cls (WD f) A+cls (WD g) B:=by rw[Yy p.perm p.pm.eqv,Ae A (by grind[Oi.noAB])];grind[IZ,Oi.orbA,Oi.orbB]
theorem Oi.join1(p:Oi D A B P f g){a b:α}(ha:a∈A)(hb:b∈B):Go.Fw.cls (WD (swp (two P f g) a b)) D+1=Go.Fw.cls (WD f) A+Go.Fw.cls (WD g) B:=by have:=(WC p.pm (p.mem.2 (.inl ha)) (p.mem.2 (.inr hb)) (by grind[Oi.pb,Oi.pa])).2 (p.noAB ha hb);rw[this,p.cls]
theorem Oi.orb2(p:Oi D A B P f g){a b a' c:α}(ha:a∈A)(hb:b∈B)(mi:a'∈A)(sZ:c∈B):WD (swp (two P f g) a b) a' c↔WD f a' a/\WD g b c:=by rw[cG p.pm (p.mem.2 (.inl ha)) (p.mem.2 (.inr hb)) (p.noAB ha hb) a' (p.mem.2 (.inl mi)) c (p.mem.2 (.inr sZ)),<-p.orbA mi (y:=a),<-p.orbB hb (y:=c)];grind[Oi.noAB]
theorem Oi.join2(p:Oi D A B P f g){a b a' c:α}(ha:a∈A)(hb:b∈B)(mi:a'∈A)(sZ:c∈B):
  ((WD f a' a/\WD g b c)->Go.Fw.cls (WD (swp (swp (two P f g) a b) a' c)) D=Go.Fw.cls (WD f) A+Go.Fw.cls (WD g) B)/\
   (¬(WD f a' a/\WD g b c)->Go.Fw.cls (WD (swp (swp (two P f g) a b) a' c)) D+2=Go.Fw.cls (WD f) A+Go.Fw.cls (WD g) B):=by
 have d:=p.join1 ha hb;have q:=p.pm.swp (p.mem.2 (.inl ha)) (p.mem.2 (.inr hb));have⟨h2,h3⟩:=WC q (p.mem.2 (.inl mi)) (p.mem.2 (.inr sZ)) (by grind[Oi.pb,Oi.pa]);grind[Oi.orb2]
end
variable{n:Nat}{r:Nat->II}
def Flat(n:Nat)(r:Nat->II):Prop:=2*(n+mj n r)=(dl n r).length+4*iJ n r
theorem dl_even:∀(m:Nat)(r:Nat->II),V7 n r->(dl n r).length=m->m%2=0:=by
 intro m
 induction m using Nat.strongRecOn with
 |_ m b=>
  intro r R h;cases hh:dl n r with
  |nil=>grind
  |cons d l=>
   have⟨v,w⟩:=d;have hw:w∈r v:=(IP (d:=(v,w)) R).1 hGr;have a:v≠w:=by grind[V7.ir]
   grind[yH,List.Perm.length_eq,List.length_cons,afL]
def genus(R:V7 n r):∃g,2*(n+mj n r)+4*g=(dl n r).length+4*iJ n r:=by have a:=dl_even _ r R rfl;have⟨g,hg⟩:=anP ((dl n r).length / 2) r R NH;exact⟨g,NH⟩
theorem Lq(R:V7 n r){v w:Nat}(h:w∈r v)(hf:Flat n r):Flat n (del r v w)/\(WD (Nv r) (v,w) (w,v)↔¬Cr (del r v w) v w):=by
 have a:v≠w:=by grind[V7.ir]
 have R':=afL R a;have b:=(yH R h).length_eq;have⟨c,d⟩:=aed R h;have⟨c1,c2⟩:=ac3 R h;have⟨g,hg⟩:=genus R';have hb:=jh R h;unfold Flat at*;by_cases e:WD (Nv r) (v,w) (w,v)
 .by_cases f:Cr (del r v w) v w
  all_goals grind
 grind
theorem abG(R:V7 n r){v w:Nat}(h:w∈r v)(hf:Flat n (del r v w))(hh:WD (Nv r) (v,w) (w,v)↔¬Cr (del r v w) v w):Flat n r:=by have a:=(yH R h).length_eq;grind[aed,ac3,Flat]
noncomputable def Om(P:Nat->Nat->Prop)(r:Nat->II):Nat->II:=fun v=>(r v).filter fun w=>decide (P v w)
theorem EM{P:Nat->Nat->Prop}{v w:Nat}:w∈Om P r v↔w∈r v/\P v w:=by simp[Om]
theorem OG(R:V7 n r){P:Nat->Nat->Prop}(a:∀v w,P v w->P w v):V7 n (Om P r):=⟨fun v=>(R.nd v).sublist EP,fun v w h=>R.lt v w (EM.1 h).1,(by grind[EM,V7.sy]),(by grind[V7.ir,EM])⟩
theorem cS{P:Nat->Nat->Prop}(h:∀v w,w∈r v->P v w):Om P r=r:=by grind[Om.eq_1,filter_eq_self]
theorem apo(R:V7 n r){P:Nat->Nat->Prop}{v w:Nat}(a:v≠w)(b:¬P v w)(h2:¬P w v):Om P (del r v w)=Om P r:=by
 funext x;unfold Om del;split
 .rename_i e;subst e;rw[(R.nd x).erase_eq_filter,anm];grind
 .split
  .rename_i c e;subst e;rw[(R.nd x).erase_eq_filter,anm];grind
  .rfl
theorem apq:∀(m:Nat)(r:Nat->II),V7 n r->(dl n r).length=m->Flat n r->∀{P:Nat->Nat->Prop},(∀v w,P v w->P w v)->Flat n (Om P r):=by
 intro m
 induction m using Nat.strongRecOn with
 |_ m d=>
  intro r R e hf P f;by_cases b:∀v w,w∈r v->P v w
  .grind[cS]
  obtain⟨v,w,hw,c⟩:∃v w,w∈r v/\¬P v w:=hGr;have a:v≠w:=by grind[V7.ir]
  have g:=(yH R hw).length_eq;rw[<-apo R a c hGr];grind[afL,Lq]
theorem Flat.keep(R:V7 n r)(hf:Flat n r){P:Nat->Nat->Prop}(a:∀v w,P v w->P w v):Flat n (Om P r):=apq _ r R rfl hf a
end
section
attribute [local instance] Classical.propDecidable
section
variable{α:Type}{X:List α}{f:α->α}
noncomputable def bt(f:α->α)(x:α):Nat:=if h:∃k,0<k/\it f k x=x then Classical.choose (On h)else 0
theorem aaM(p:Pm X f){x:α}(a:x∈X):0<bt f x/\it f (bt f x) x=x/\∀j,0<j->j<bt f x->it f j x≠x:=by grind[Pm.period,bt]
noncomputable def AA(f:α->α)(x:α):List α:=(rG (bt f x)).map fun k=>it f k x
theorem orbL_len(f:α->α)(x:α):(AA f x).length=bt f x:=by simp[AA]
theorem it_mod(p:Pm X f){x:α}(a:x∈X)(k:Nat):it f k x=it f (k%bt f x) x:=by grind[aaM,Nat.mod_add_div,Nat.mul_comm,qu,Pm.MH]
theorem vA(p:Pm X f){x:α}(a:x∈X){y:α}:y∈AA f x↔WD f x y:=by
 unfold AA;rw[aev];constructor
 .rintro⟨k,_,rfl⟩;exact⟨k,rfl⟩
 .rintro⟨k,rfl⟩;grind[Nat.mod_lt,aaM,it_mod]
theorem it_first(p:Pm X f){x:α}(a:x∈X){i j:Nat}(c:j<bt f x)(b:i<j):it f i x≠it f j x:=fun e=>by
 have h:it f j x=it f i (it f (j-i) x):=by rw[<-qu];grind
 rw[h]at e;have:=p.FT a (p.uN a _) i e;grind[aaM]
theorem Ri(p:Pm X f){x:α}(a:x∈X):(AA f x).Nodup:=by grind[AA,pairwise_iff_getElem,it_first]
end
def TD(a b:H8):Prop:=a.1<b.1\/a.1=b.1/\a.2<b.2
instance (a b:H8):Decidable (TD a b):=by unfold TD;infer_instance
theorem JN(a:H8):¬TD a a:=by grind[TD]
theorem Nd{a b c:H8}(h:TD a b)(g:TD b c):TD a c:=by grind[TD]
theorem ltD_tri(a b:H8):TD a b\/a=b\/TD b a:=by grind[TD]
theorem zE{α:Type}{lt:α->α->Prop}{R:α->α->Prop}(c:∀a b,lt a b->¬lt b a):∀(k:Nat)(l:List α),l.length=k->l.Pairwise lt->cls R l.reverse=(l.filter fun x=>decide (∀y∈l,R x y->¬lt y x)).length
 |0,l,h,_=>by rw[ak3.1 h];rfl
 |k+1,l,h,d=>by
  obtain⟨l,x,rfl⟩:∃l' x,l=l'++[x]:=⟨l.dropLast,l.getLast hGr,(aoB _).symm⟩;rw[abz]at d;have⟨e,_,h3⟩:=d;have g:=zE (R:=R) c k l (by simpa using h) e;rw[qL193,qL208,List.reverse_nil,Cj,qL183,cls,g,Db,Eh];congr 1
  .grind[List.filter_congr]
  .by_cases q:∃y∈l.reverse,R x y
   all_goals grind
section
variable{n:Nat}{r:Nat->II}
noncomputable def ddl(n:Nat)(r:Nat->II):List H8:=(rG n).flatMap fun v=>((rG n).filter fun w=>decide (w∈r v)).map fun w=>(v,w)
theorem Ks(R:V7 n r){d:H8}:d∈ddl n r↔d.2∈r d.1:=by grind[ddl,V7.lt,V7.sy]
theorem pI(n:Nat)(r:Nat->II):(ddl n r).Pairwise TD:=by
 unfold ddl;rw[als];constructor
 .intro v _;rw[Vn];exact((Ki (n:=n)).filter _).imp fun h=>.inr ⟨rfl,h⟩
 .refine(Ki (n:=n)).imp fun{a b} h x c y d=>?_;obtain⟨_,_,rfl⟩:=aev.1 c;obtain⟨_,_,rfl⟩:=aev.1 d;exact .inl h
theorem adS(n:Nat)(r:Nat->II):(ddl n r).Nodup:=by grind[pI,List.Pairwise.imp,JN]
theorem ddl_perm(R:V7 n r):(dl n r).Perm (ddl n r):=by grind[J8,adS,IP,Ks]
def Hd(r:Nat->II)(d:H8):Prop:=∀e,WD (Nv r) d e->¬TD e d
noncomputable def ahN(n:Nat)(r:Nat->II):List H8:=(ddl n r).filter fun d=>decide (Hd r d)
noncomputable def zu(r:Nat->II)(d:H8):II:=(AA (Nv r) d).map (·.1)
noncomputable def vf(n:Nat)(r:Nat->II):Cs:=(ahN n r).map (zu r)
theorem yp(R:V7 n r):(ahN n r).length=cls (WD (Nv r)) (dl n r):=by have p:=aaG R;have c:=ddl_perm R;rw[Yy (c.trans (ags _).symm) p.eqv,zE (lt:=TD) (fun a b h g=>JN a (Nd h g)) _ _ rfl (pI n r),ahN];congr 1;refine Uz fun d hd=>?_;rw[ai7];have e:d∈dl n r:=c.mem_iff.2 hd;exact⟨fun h y _ o=>h y o,fun h y o=>by grind[Pm.sP]⟩
theorem afQ(R:V7 n r){d:H8}:d∈ahN n r↔d.2∈r d.1/\Hd r d:=by grind[ahN.eq_1,Ks]
theorem aoI(R:V7 n r){d e:H8}(hd:d∈ahN n r)(a:e∈ahN n r)(h:WD (Nv r) d e):d=e:=by rw[afQ R]at hd a;have b:=hd.2 e h;have h2:=a.2 d ((aaG R).adK ((IP R).2 hd.1) h);grind[ltD_tri]
theorem Sg(R:V7 n r){d:H8}(hd:d∈dl n r):2<=bt (Nv r) d:=by have p:=aaG R;have⟨b,a,_⟩:=aaM p hd;refine ZT fun c=>?_;have e:bt (Nv r) d=1:=NH;rw[e]at a;have h2:d.2=d.1:=congrArg Prod.fst a;grind[IP,V7.ir]
end
end
end Go.Fw
