/- A text. -/
import Derived.Shelf.SlLaysF0
import Derived.Shelf.SlSortCmp.NoneTotal
import Derived.Test.YtnakkbhjoiheoaaGreatFwLB13
import Derived.Test.YtnakkbhjoiheoaaGreatFwRowK
set_option linter.all false
set_option maxRecDepth 99999
set_option maxHeartbeats 9999999
open Option renaming some→Z,none→Y
open Bool renaming true→tT,false→fF
open Go.Value renaming slice→sL
open Go renaming Value→vV
open Go.Proofs.Tryz renaming prog→pG
namespace Go.Proofs
open Go.Shelf
def Tryz.sortP_ren:Go.Shelf.Ren:=⟨fun | 6=>49 | 15=>79 | 14=>78 | 28=>110 | 29=>111 | 20=>102 | 21=>103 | 22=>104 | 23=>105 | 24=>106 | 25=>107 | 26=>108 | 27=>109 | 46=>147 | 47=>148 | 48=>149 | 49=>150 | 50=>151 | 57=>174 | n=>n,fun | 22=>22 | 24=>49 | 25=>81 | 3=>3 | 39=>114 | 0=>0 | 53=>148 | 55=>150 | 4=>4 | 46=>142 | 45=>141 | 50=>79 | 5=>5 | 9=>9 | 66=>181 | 70=>185 | 76=>204 | 77=>205 | n=>n,fun | n=>n⟩
theorem Tryz.aa5:Go.Proofs.SlLaysF0.n6 Tryz.prog Tryz.sortP_ren:={
 mixed:=by kernel_rfl
 f6:=⟨Tryz.f49.name,by decide,Tryz.func49.trans (congrArg some (by kernel_rfl))⟩
 f14:=⟨Tryz.f78.name,by decide,Tryz.func78.trans (congrArg some (by kernel_rfl))⟩
 f15:=Tryz.func79.trans (congrArg some (by kernel_rfl))
 f20:=⟨Tryz.f102.name,by decide,Tryz.func102.trans (congrArg some (by kernel_rfl))⟩
 f21:=⟨Tryz.f103.name,by decide,Tryz.func103.trans (congrArg some (by kernel_rfl))⟩
 f22:=⟨Tryz.f104.name,by decide,Tryz.func104.trans (congrArg some (by kernel_rfl))⟩
 f23:=⟨Tryz.f105.name,by decide,Tryz.func105.trans (congrArg some (by kernel_rfl))⟩
 f24:=⟨Tryz.f106.name,by decide,Tryz.func106.trans (congrArg some (by kernel_rfl))⟩
 f25:=⟨Tryz.f107.name,by decide,Tryz.func107.trans (congrArg some (by kernel_rfl))⟩
 f26:=⟨Tryz.f108.name,by decide,Tryz.func108.trans (congrArg some (by kernel_rfl))⟩
 f27:=⟨Tryz.f109.name,by decide,Tryz.func109.trans (congrArg some (by kernel_rfl))⟩
 f28:=Tryz.func110.trans (congrArg some (by kernel_rfl))
 f29:=Tryz.func111.trans (congrArg some (by kernel_rfl))
 f46:=⟨Tryz.f147.name,by decide,Tryz.func147.trans (congrArg some (by kernel_rfl))⟩
 f47:=Tryz.func148.trans (congrArg some (by kernel_rfl))
 f48:=Tryz.func149.trans (congrArg some (by kernel_rfl))
 f49:=⟨Tryz.f150.name,by decide,Tryz.func150.trans (congrArg some (by kernel_rfl))⟩
 f50:=⟨Tryz.f151.name,by decide,Tryz.func151.trans (congrArg some (by kernel_rfl))⟩
 f57:=⟨Tryz.f174.name,by decide,Tryz.func174.trans (congrArg some (by kernel_rfl))⟩
 t0:=Tryz.underlying0
 a0:=Tryz.isAgg0
 z0:=Tryz.sizeOf0
 v0:=Tryz.zeroValue0
 t3:=Tryz.underlying3
 a3:=Tryz.isAgg3
 z3:=Tryz.sizeOf3
 v3:=Tryz.zeroValue3
 t4:=Tryz.underlying4
 a4:=Tryz.isAgg4
 z4:=Tryz.sizeOf4
 v4:=Tryz.zeroValue4
 t5:=Tryz.underlying5
 a5:=Tryz.isAgg5
 z5:=Tryz.sizeOf5
 v5:=Tryz.zeroValue5
 t9:=Tryz.underlying9
 a9:=Tryz.isAgg9
 z9:=Tryz.sizeOf9
 v9:=Tryz.zeroValue9
 t22:=Tryz.underlying22
 a22:=Tryz.isAgg22
 z22:=Tryz.sizeOf22
 v22:=Tryz.zeroValue22
 t25:=Tryz.underlying81
 a25:=Tryz.isAgg81
 z25:=Tryz.sizeOf81
 v25:=Tryz.zeroValue81
 t39:=Tryz.underlying114
 a39:=Tryz.isAgg114
 z39:=Tryz.sizeOf114
 v39:=Tryz.zeroValue114
 t45:=Tryz.underlying141
 a45:=Tryz.isAgg141
 z45:=Tryz.sizeOf141
 v45:=Tryz.zeroValue141
 t46:=Tryz.underlying142
 a46:=Tryz.isAgg142
 z46:=Tryz.sizeOf142
 v46:=Tryz.zeroValue142
 t50:=Tryz.underlying79
 a50:=Tryz.isAgg79
 z50:=Tryz.sizeOf79
 v50:=Tryz.zeroValue79
 t53:=Tryz.underlying148
 a53:=Tryz.isAgg148
 z53:=Tryz.sizeOf148
 v53:=Tryz.zeroValue148
 t55:=Tryz.underlying150
 a55:=Tryz.isAgg150
 z55:=Tryz.sizeOf150
 v55:=Tryz.zeroValue150
 t66:=Tryz.underlying181
 a66:=Tryz.isAgg181
 z66:=Tryz.sizeOf181
 v66:=Tryz.zeroValue181
 t70:=Tryz.underlying185
 a70:=Tryz.isAgg185
 z70:=Tryz.sizeOf185
 v70:=Tryz.zeroValue185
 t76:=Tryz.underlying204
 a76:=Tryz.isAgg204
 z76:=Tryz.sizeOf204
 v76:=Tryz.zeroValue204
 t77:=Tryz.underlying205
 a77:=Tryz.isAgg205
 z77:=Tryz.sizeOf205
 v77:=Tryz.zeroValue205 }
end Go.Proofs
namespace Go.Fw
open Go.Proofs
set_option maxHeartbeats 4000000
set_option maxRecDepth 10000
def ltP(p q:Pr):Bool:=decide (Nz p q<0)
def aa5(ps:xLP):xLP:=ps.mergeSort fun x y=>!ltP y x
theorem XW(p q:Pr):ltP p q=tT↔p.1<q.1\/p.1=q.1/\p.2<q.2:=by grind[ltP,Hv]
theorem ZS(ps:xLP):(aa5 ps).length=ps.length:=by simp[aa5]
theorem Wb(ps:xLP)(p:Pr):p∈aa5 ps↔p∈ps:=by simp[aa5]
theorem YA(ps:xLP):(aa5 ps).Perm ps:=ahI _ _
theorem Nc(p q:Pr):ltP p q=fF↔q.1<p.1\/q.1=p.1/\q.2<=p.2:=by grind[XW]
theorem VH(ps:xLP):(aa5 ps).Pairwise fun x y=>x.1<y.1\/x.1=y.1/\x.2<=y.2:=by
 have:=qL214 (le:=fun x y:Pr=>!ltP y x) (fun a b c d h2=>by grind[Nc]) (fun a b=>by grind[Nc]) ps;exact this.imp (by grind[Nc])
theorem ai0(ps:xLP):Go.Sort.flatK xM 2 ps.toArray=(Iu ps).toArray:=by
 apply Array.ext
 .simp[Ta]
 .intro i c h2;have d:i<ps.length*2:=by simpa using c
  have hi:i / 2<ps.length:=NH;obtain⟨a,b⟩:=H5 ps (i / 2) _ (CA hi);simp only[Go.Sort.flatK,Array.getElem_map,Array.getElem_range];rw[getElem!_pos _ (i / 2) hGr];simp only[qL187];rcases Nat.mod_two_eq_zero_or_one i with h|h
  .rw[h];have e:i / 2*2=i:=NH;rw[e,XJ hGr]at a;injection a with a;rw[a];rfl
  .rw[h];have e:i / 2*2+1=i:=NH;rw[e,XJ hGr]at b;injection b with b;rw[b];rfl
theorem Aq(ps:xLP):∀y∈Iu ps,flat y=tT/\y.oneCell'=tT:=by intro y a;rw[Iu,y5]at a;obtain⟨p,_,b⟩:=a;simp[xM]at b;rcases b with rfl|rfl<;>exact⟨rfl,rfl⟩
theorem swoP:Go.Sort.SWO (Go.Proofs.ltOf Nz):=by
 have e:∀p q,Go.Proofs.ltOf Nz p q=ltP p q:=fun _ _=>rfl;refine⟨fun x=>?_,fun x y z a h2=>?_,fun x y z a h2=>?_⟩
 all_goals grind[XW]
theorem GP.cases{h:aai}{v:vV}{ps:xLP}(g:GP h v ps)(b:ps.length<=100000):(∃a cap,v=.slice a 0 cap/\ps=[])\/∃id c cap,v=sL (Z ⟨id,0,Y⟩) ps.length cap/\h.own id=Z (.cells c)/\c.take (ps.length*2)=Iu ps/\(cap=UNK+2\/cap=ps.length/\ps.length<1000000000000)/\0<ps.length/\ps.length<=cap/\ps.length*2<=c.length:=by
 obtain⟨d,⟨rfl,e⟩|⟨id,c,cap,rfl,f,i,j⟩⟩:=g
 all_goals grind[UNK]
theorem ajc(m:abd)(p q:Pr):AK 0 m [UI p,UI q] [UI p,UI q]:=by
 have one:∀p:Pr,VR 0 m (UI p) (UI p):=fun p=>.agg rfl fun i v v' h h'=>by rw[h]at h';injection h' with h';subst h';have:v∈[vV.int .i64 p.1,.int .i64 p.2]:=hGr;simp at this;rcases this with rfl|rfl<;>exact .flat rfl
 grind[AK.cons,AK.nil]
theorem ai1(u:LA){h:aai}{v:vV}{ps:xLP}(g:GP h v ps)(z:ps.length<=100000)(b:FuncId)(A:∀args w,(callFunc b args).run pG w=.ok (.enter b args) w)(B:∀(W:World)(p q:Pr),AC pG (LA.of W) b [UI p,UI q] (MR W) fun v _=>v=.int .i64 (Nz p q)):
  AC pG u 49 [v,.func (.func b) #[] #[]] h fun x h'=>x=.tuple #[]/\GP h' v (aa5 ps)/\∀f,Le f h->Z2 f v->Le f h':=by
 rcases g.cases z with⟨a,cap,rfl,rfl⟩|⟨id,c,cap,rfl,C,D,i,E,j,l⟩
 .refine(AC.ajU fun a' cap' w=>AnyF.slices_SortFunc_none {Tryz.aa5 with} a' cap' (.func (.func b) #[] #[]) w).mono ?_;rintro x h' ⟨rfl,rfl⟩;exact⟨rfl,by simpa[aa5]using g,fun f o _=>o⟩
 .have key:=fun(blk off cap':Nat)(w:World) r hb (d:ps.length<=cap')=>
   AnyQ.slices_SortFunc_total (α:=Pr) Tryz.aa5 2 Tryz.isAgg49 Tryz.sizeOf49 xM (fun _=>rfl) (fun x v F=>(Aq [x] v (by simpa[Iu]using F)).2) Nz swoP b #[] blk off cap' ps.toArray w A
    (fun m os G _ x y=>AC.grown (args:=[UI x,UI y]) _ (B _ x y) (fun m=>ajc m x y)) r hb (by simp;omega)
    (fun x y t h2=>by have t:ltP x y=fF:=t;have h2:ltP y x=fF:=h2;grind[Nc])
  refine(AC.ofRowK (k:=2) (xs:=Iu ps) (ys:=Iu (aa5 ps)) C D (Ta _) (by rw[Ta,ZS]) l j E (by grind[Aq]) (Aq _) fun blk off cap' w r hb d=>?_).mono ?_
  .have s:Go.Sort.HoldsK xM 2 w blk off ps.toArray:=by
    unfold Go.Sort.HoldsK;rw[ai0];exact r
   refine(key blk off cap' w s hb d).mono ?_;rintro e w' ⟨rfl,n,os,rfl⟩;refine⟨rfl,n,os,?_⟩;unfold Go.Proofs.sortWorldK Go.Sort.putRowK;rw[ai0];rfl
  .rintro x h' ⟨rfl,rfl⟩;refine⟨rfl,?_,fun f o af=>o.put _ (af id rfl)⟩;rw[GP,ZS];refine⟨by rw[Ta,ZS],.inr ⟨id,_,cap,rfl,aai.Y3 _ _ _,?_,i⟩⟩;grind[Ta,ZS]
end Go.Fw
