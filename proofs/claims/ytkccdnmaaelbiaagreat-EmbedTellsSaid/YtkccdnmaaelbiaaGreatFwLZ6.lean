/- A text. -/
import Derived.Shelf.SlLaysF0
import Derived.Shelf.SlSortCmp.NoneTotal
import Derived.Test.YtkccdnmaaelbiaaGreatFwLB13
import Derived.Test.YtkccdnmaaelbiaaGreatFwRowK
set_option linter.all false
set_option maxRecDepth 99999
set_option maxHeartbeats 9999999
namespace Go.Proofs
open Go.Shelf
def Tryz.sortP_ren:Go.Shelf.Ren:=⟨fun | 6=>69 | 15=>120 | 14=>119 | 28=>162 | 29=>163 | 20=>154 | 21=>155 | 22=>156 | 23=>157 | 24=>158 | 25=>159 | 26=>160 | 27=>161 | 46=>181 | 47=>182 | 48=>183 | 49=>184 | 50=>185 | 57=>189 | n=>n,fun | 22=>22 | 24=>38 | 25=>83 | 3=>3 | 39=>146 | 0=>0 | 53=>184 | 55=>186 | 4=>4 | 46=>178 | 45=>177 | 50=>89 | 5=>5 | 9=>9 | 66=>198 | 70=>202 | 76=>206 | 77=>207 | n=>n,fun | n=>n⟩
theorem Tryz.aej:Go.Proofs.SlLaysF0.n6 Tryz.prog Tryz.sortP_ren:={
 mixed:=by kernel_rfl
 f6:=⟨Tryz.f69.name,by decide,Tryz.func69.trans (congrArg some (by kernel_rfl))⟩
 f14:=⟨Tryz.f119.name,by decide,Tryz.func119.trans (congrArg some (by kernel_rfl))⟩
 f15:=Tryz.func120.trans (congrArg some (by kernel_rfl))
 f20:=⟨Tryz.f154.name,by decide,Tryz.func154.trans (congrArg some (by kernel_rfl))⟩
 f21:=⟨Tryz.f155.name,by decide,Tryz.func155.trans (congrArg some (by kernel_rfl))⟩
 f22:=⟨Tryz.f156.name,by decide,Tryz.func156.trans (congrArg some (by kernel_rfl))⟩
 f23:=⟨Tryz.f157.name,by decide,Tryz.func157.trans (congrArg some (by kernel_rfl))⟩
 f24:=⟨Tryz.f158.name,by decide,Tryz.func158.trans (congrArg some (by kernel_rfl))⟩
 f25:=⟨Tryz.f159.name,by decide,Tryz.func159.trans (congrArg some (by kernel_rfl))⟩
 f26:=⟨Tryz.f160.name,by decide,Tryz.func160.trans (congrArg some (by kernel_rfl))⟩
 f27:=⟨Tryz.f161.name,by decide,Tryz.func161.trans (congrArg some (by kernel_rfl))⟩
 f28:=Tryz.func162.trans (congrArg some (by kernel_rfl))
 f29:=Tryz.func163.trans (congrArg some (by kernel_rfl))
 f46:=⟨Tryz.f181.name,by decide,Tryz.func181.trans (congrArg some (by kernel_rfl))⟩
 f47:=Tryz.func182.trans (congrArg some (by kernel_rfl))
 f48:=Tryz.func183.trans (congrArg some (by kernel_rfl))
 f49:=⟨Tryz.f184.name,by decide,Tryz.func184.trans (congrArg some (by kernel_rfl))⟩
 f50:=⟨Tryz.f185.name,by decide,Tryz.func185.trans (congrArg some (by kernel_rfl))⟩
 f57:=⟨Tryz.f189.name,by decide,Tryz.func189.trans (congrArg some (by kernel_rfl))⟩
 t0:=Tryz.underlying0
 a0:=Tryz.isAgg0
 z0:=Tryz.sizeOf0
 v0:=Tryz.zeroValue0
 t3:=Tryz.underlying3
 a3:=Tryz.isAgg3
 z3:=Tryz.sizeOf3
 v3:=Tryz.zeroValue3
 t4:=Tryz.underlying4
 a4:=Tryz.isAgg4
 z4:=Tryz.sizeOf4
 v4:=Tryz.zeroValue4
 t5:=Tryz.underlying5
 a5:=Tryz.isAgg5
 z5:=Tryz.sizeOf5
 v5:=Tryz.zeroValue5
 t9:=Tryz.underlying9
 a9:=Tryz.isAgg9
 z9:=Tryz.sizeOf9
 v9:=Tryz.zeroValue9
 t22:=Tryz.underlying22
 a22:=Tryz.isAgg22
 z22:=Tryz.sizeOf22
 v22:=Tryz.zeroValue22
 t25:=Tryz.underlying83
 a25:=Tryz.isAgg83
 z25:=Tryz.sizeOf83
 v25:=Tryz.zeroValue83
 t39:=Tryz.underlying146
 a39:=Tryz.isAgg146
 z39:=Tryz.sizeOf146
 v39:=Tryz.zeroValue146
 t45:=Tryz.underlying177
 a45:=Tryz.isAgg177
 z45:=Tryz.sizeOf177
 v45:=Tryz.zeroValue177
 t46:=Tryz.underlying178
 a46:=Tryz.isAgg178
 z46:=Tryz.sizeOf178
 v46:=Tryz.zeroValue178
 t50:=Tryz.underlying89
 a50:=Tryz.isAgg89
 z50:=Tryz.sizeOf89
 v50:=Tryz.zeroValue89
 t53:=Tryz.underlying184
 a53:=Tryz.isAgg184
 z53:=Tryz.sizeOf184
 v53:=Tryz.zeroValue184
 t55:=Tryz.underlying186
 a55:=Tryz.isAgg186
 z55:=Tryz.sizeOf186
 v55:=Tryz.zeroValue186
 t66:=Tryz.underlying198
 a66:=Tryz.isAgg198
 z66:=Tryz.sizeOf198
 v66:=Tryz.zeroValue198
 t70:=Tryz.underlying202
 a70:=Tryz.isAgg202
 z70:=Tryz.sizeOf202
 v70:=Tryz.zeroValue202
 t76:=Tryz.underlying206
 a76:=Tryz.isAgg206
 z76:=Tryz.sizeOf206
 v76:=Tryz.zeroValue206
 t77:=Tryz.underlying207
 a77:=Tryz.isAgg207
 z77:=Tryz.sizeOf207
 v77:=Tryz.zeroValue207 }
end Go.Proofs
namespace Go.Fw
open Go.Proofs
set_option maxHeartbeats 4000000
set_option maxRecDepth 10000
def ltP(p q:Pr):Bool:=decide (Nz p q<0)
def aej(ps:List Pr):List Pr:=ps.mergeSort fun x y=>!ltP y x
theorem XW(p q:Pr):ltP p q=true↔p.1<q.1\/p.1=q.1/\p.2<q.2:=by grind[ltP,Hv]
theorem ZS(ps:List Pr):(aej ps).length=ps.length:=by simp[aej]
theorem Wb(ps:List Pr)(p:Pr):p∈aej ps↔p∈ps:=by simp[aej]
theorem YA(ps:List Pr):(aej ps).Perm ps:=Ug _ _
theorem Nc(p q:Pr):ltP p q=false↔q.1<p.1\/q.1=p.1/\q.2<=p.2:=by grind[XW]
theorem VH(ps:List Pr):(aej ps).Pairwise fun x y=>x.1<y.1\/x.1=y.1/\x.2<=y.2:=by
 have:=qL195 (le:=fun x y:Pr=>!ltP y x) (fun a b c d h2=>by grind[Nc]) (fun a b=>by grind[Nc]) ps;exact this.imp (by grind[Nc])
theorem kh(ps:List Pr):Go.Sort.flatK xM 2 ps.toArray=(Iu ps).toArray:=by
 apply Array.ext
 .simp[Ta]
 .intro i c h2;have d:i<ps.length*2:=by simpa using c
  have hi:i / 2<ps.length:=NH;obtain⟨a,b⟩:=H5 ps (i / 2) _ (CA hi);simp only[Go.Sort.flatK,Array.getElem_map,Array.getElem_range];rw[getElem!_pos _ (i / 2) pw];simp only[amn];rcases Nat.mod_two_eq_zero_or_one i with h|h
  .rw[h];have e:i / 2*2=i:=NH;rw[e,yY pw]at a;injection a with a;rw[a];rfl
  .rw[h];have e:i / 2*2+1=i:=NH;rw[e,yY pw]at b;injection b with b;rw[b];rfl
theorem Aq(ps:List Pr):∀y∈Iu ps,flat y=true/\y.oneCell'=true:=by intro y a;rw[Iu,y5]at a;obtain⟨p,_,b⟩:=a;simp[xM]at b;rcases b with rfl|rfl<;>exact⟨rfl,rfl⟩
theorem swoP:Go.Sort.SWO (Go.Proofs.ltOf Nz):=by
 have e:∀p q,Go.Proofs.ltOf Nz p q=ltP p q:=fun _ _=>rfl;refine⟨fun x=>?_,fun x y z a h2=>?_,fun x y z a h2=>?_⟩
 all_goals grind[XW]
theorem GP.cases{h:aae}{v:Value}{ps:List Pr}(g:GP h v ps)(b:ps.length<=100000):(∃a cap,v=.slice a 0 cap/\ps=[])\/∃id c cap,v=.slice (some ⟨id,0,none⟩) ps.length cap/\h.own id=some (.cells c)/\c.take (ps.length*2)=Iu ps/\(cap=UNK+2\/cap=ps.length/\ps.length<1000000000000)/\0<ps.length/\ps.length<=cap/\ps.length*2<=c.length:=by
 obtain⟨d,⟨rfl,e⟩|⟨id,c,cap,rfl,f,i,j⟩⟩:=g
 all_goals grind[UNK]
theorem Ql(m:aad)(p q:Pr):AK 0 m [UI p,UI q] [UI p,UI q]:=by
 have one:∀p:Pr,VR 0 m (UI p) (UI p):=fun p=>.agg rfl fun i v v' h h'=>by rw[h]at h';injection h' with h';subst h';have:v∈[Value.int .i64 p.1,.int .i64 p.2]:=pw;simp at this;rcases this with rfl|rfl<;>exact .flat rfl
 grind[AK.cons,AK.nil]
theorem Lr(u:LA){h:aae}{v:Value}{ps:List Pr}(g:GP h v ps)(z:ps.length<=100000)(b:FuncId)(A:∀args w,(callFunc b args).run Tryz.prog w=.ok (.enter b args) w)(B:∀(W:World)(p q:Pr),AC Tryz.prog (LA.of W) b [UI p,UI q] (MR W) fun v _=>v=.int .i64 (Nz p q)):
  AC Tryz.prog u 69 [v,.func (.func b) #[] #[]] h fun x h'=>x=.tuple #[]/\GP h' v (aej ps)/\∀f,Le f h->Z2 f v->Le f h':=by
 rcases g.cases z with⟨a,cap,rfl,rfl⟩|⟨id,c,cap,rfl,C,D,i,E,j,l⟩
 .refine(AC.FE fun a' cap' w=>AnyF.slices_SortFunc_none {Tryz.aej with} a' cap' (.func (.func b) #[] #[]) w).mono ?_;rintro x h' ⟨rfl,rfl⟩;exact⟨rfl,by simpa[aej]using g,fun f o _=>o⟩
 .have key:=fun(blk off cap':Nat)(w:World) r hb (d:ps.length<=cap')=>
   AnyQ.slices_SortFunc_total (α:=Pr) Tryz.aej 2 Tryz.isAgg38 Tryz.sizeOf38 xM (fun _=>rfl) (fun x v F=>(Aq [x] v (by simpa[Iu]using F)).2) Nz swoP b #[] blk off cap' ps.toArray w A
    (fun m os G _ x y=>AC.grown (args:=[UI x,UI y]) _ (B _ x y) (fun m=>Ql m x y)) r hb (by simp;omega)
    (fun x y t h2=>by have t:ltP x y=false:=t;have h2:ltP y x=false:=h2;grind[Nc])
  refine(AC.ofRowK (k:=2) (xs:=Iu ps) (ys:=Iu (aej ps)) C D (Ta _) (by rw[Ta,ZS]) l j E (by grind[Aq]) (Aq _) fun blk off cap' w r hb d=>?_).mono ?_
  .have s:Go.Sort.HoldsK xM 2 w blk off ps.toArray:=by
    unfold Go.Sort.HoldsK;rw[kh];exact r
   refine(key blk off cap' w s hb d).mono ?_;rintro e w' ⟨rfl,n,os,rfl⟩;refine⟨rfl,n,os,?_⟩;unfold Go.Proofs.sortWorldK Go.Sort.putRowK;rw[kh];rfl
  .rintro x h' ⟨rfl,rfl⟩;refine⟨rfl,?_,fun f o af=>o.put _ (af id rfl)⟩;rw[GP,ZS];refine⟨by rw[Ta,ZS],.inr ⟨id,_,cap,rfl,aae.Y3 _ _ _,?_,i⟩⟩;grind[Ta,ZS]
end Go.Fw
