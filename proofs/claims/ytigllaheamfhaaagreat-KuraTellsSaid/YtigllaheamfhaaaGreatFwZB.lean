/- A text. -/
import Derived.Test.YtigllaheamfhaaaGreatProg
import Derived.Test.YtigllaheamfhaaaGreatFwDraw
set_option linter.all false
set_option maxRecDepth 99999
set_option maxHeartbeats 9999999
open Go.Proofs
open Option renaming some→Z,none→Y
open Bool renaming true→tT,false→fF
open List renaming replicate→rP
open Go.Value renaming slice→sL,pointer→pT
open Go renaming Value→vV
open Go.Proofs.Tryz renaming prog→pG
open Go.Proofs.Tryz
open List
namespace Go.Fw
def tA:List Nat→DT→DT
  |[],t=>t
  |i::l,t=>.fl i (tA l t)
def fRn:Nat→Nat→DT→DT
  |_,0,t=>t
  |a,k+1,t=>.fl a (fRn (a+1) k t)
def JQ(i:Nat)(p:List Nat)(t:DT):DT:=.ch i p t .no
section
variable{P:Program}{h h':aai}
theorem WF.alloc(hw:WF h)(o:fK):WF (h.alloc o):=by
 intro i hi
 by_cases e:i=h.next
 .subst e;exact afC _
 .rw[aai.Ve _ _ _ e]at hi;exact qL206 (hw i hi)
theorem WF.put(hw:WF h){id:Nat}(o:fK)(a:id<h.next):WF (h.put id o):=by
 intro i hi;by_cases e:i=id
 .subst e;exact a
 .rw[aai.By _ _ _ _ e]at hi;exact hw i hi
theorem WF.kill(hw:WF h)(id:Nat):WF (h.kill id):=by
 intro i hi;by_cases e:i=id
 .grind[aai.Dg]
 .rw[aai.xJ _ _ _ e]at hi;exact hw i hi
theorem WF.lt(hw:WF h){i:Nat}{o:fK}(a:h.own i=Z o):i<h.next:=hw i (by rw[a];simp)
def om(o:fK):(h.alloc o).next=h.next+1:=rfl
theorem Mh(j:Nat)(o:fK):(h.alloc o).own j=if j=h.next then Z o else h.own j:=by grind[aai.zT,aai.Ve]
theorem own_put(i j:Nat)(o:fK):(h.put i o).own j=if j=i then Z o else h.own j:=by grind[aai.Y3,aai.By]
theorem uU(i j:Nat):(h.kill i).own j=if j=i then Y else h.own j:=by grind[aai.Dg,aai.xJ]
theorem YP{id off:Nat}{c:xLV}(a:h.own id=Z (.cells c)):h.read ⟨id,off,Y⟩=c[off]?:=by grind[aai.read]
structure Le (g h:aai):Prop where
 ext:h.ext=g.ext
 own:∀i o,g.own i=Z o->h.own i=Z o
theorem Le.refl(h:aai):Le h h:=⟨rfl,fun _ _ h=>h⟩
theorem Le.trans{c h2 h3:aai}(a:Le c h2)(b:Le h2 h3):Le c h3:=⟨b.ext.trans a.ext,fun i o h=>b.own i o (a.own i o h)⟩
theorem Le.put{g:aai}(a:Le g h){id:Nat}(o:fK)(b:g.own id=Y):Le g (h.put id o):=⟨a.ext,fun i c hi=>by grind[own_put,Le.own]⟩
theorem Le.kill{g:aai}(a:Le g h){id:Nat}(b:g.own id=Y):Le g (h.kill id):=⟨a.ext,fun i c hi=>by grind[uU,Le.own]⟩
theorem Le.next{g:aai}(a:Le g h)(hw:WF h){i:Nat}(hi:h.next<=i):g.own i=Y:=by
 cases hg:g.own i with
 |none=>rfl
 |some o=>exact absurd (hw.lt (a.own i o hg)) NH
theorem Le.alloc{g:aai}(a:Le g h)(hw:WF h)(o:fK):Le g (h.alloc o):=⟨a.ext,fun i b hi=>by grind[Mh,Le.next,Le.own]⟩
theorem Le.Qz(h:aai)(id:Nat):Le (h.kill id) h:=⟨rfl,fun i a hi=>by grind[uU]⟩
theorem Le.none{g:aai}(a:Le g h){i:Nat}(hi:h.own i=Y):g.own i=Y:=by
 cases hg:g.own i<;>grind[Le.own]
theorem Le.read{g:aai}(a:Le g h){ad:Addr}{x:vV}(b:g.read ad=Z x):h.read ad=Z x:=by grind[aai.read,Le.own,Le.ext]
def aaq(v:vV)(k:Nat):Addr:=match v with|.slice (Z a) _ _=>Ip a k|_=>default
theorem fA(a:Addr)(n c k:Nat):aaq (sL (Z a) n c) k=Ip a k:=rfl
def xO(v:vV)(n:Nat):Prop:=∃a c,v=.slice a n c/\(0<n->a.isSome=tT)
structure RS (h:aai) (v:vV) (vs:xLV):Prop where
 sl:xO v vs.length
 get:∀i x,vs[i]?=Z x->h.read (aaq v i)=Z x
theorem RS.le{v:vV}{vs:xLV}(a:RS h v vs)(e:Le h h'):RS h' v vs:=⟨a.sl,fun i x b=>e.read (a.get i x b)⟩
theorem RS.nil(h:aai):RS h (.slice Y 0 0) []:=⟨⟨Y,0,rfl,Ma⟩,fun i x a=>by simp at a⟩
theorem RS.own{id off n c:Nat}{cs:xLV}(b:h.own id=Z (.cells cs))(d:off+n<=cs.length):RS h (sL (Z ⟨id,off,Y⟩) n c) ((cs.drop off).take n):=by
 have a:((cs.drop off).take n).length=n:=by simp;omega
 refine⟨⟨_,c,by rw[a],Ma⟩,fun i x e=>?_⟩;grind[fA,Ip.eq_1,YP]
theorem RS.whole{id n c:Nat}{cs:xLV}(a:h.own id=Z (.cells cs))(b:cs.length=n):RS h (sL (Z id) n c) cs:=by have:=RS.own (c:=c) (off:=0) (n:=n) a NH;grind
theorem RS.len{v:vV}{vs:xLV}(b:RS h v vs){t e:TypeId}(d:P.underlying t=Z (.slice e))(h':aai):aeh P h' t v=Z (.int .i64 vs.length):=by obtain⟨a,c,rfl,_⟩:=b.sl;simp[aeh,d]
theorem RS.addr{v:vV}{vs:xLV}(b:RS h v vs){t e:TypeId}{d:TypeDesc}(f:P.underlying t=Z (.slice e))(hd:P.underlying e=Z d)(hs:UA P e=1){k:IntKind}(i:Nat)(hi:i<vs.length):
  aao P t v (.int k i)=Z (pT (Z (aaq v i))):=by
 obtain⟨a,c,rfl,hs'⟩:=b.sl;obtain⟨a,rfl⟩:=abV.1 (hs' NH);have g:(i:Int)<(vs.length:Int):=NH;simp[aao,f,g,hd,aaq,hs]
theorem Bj{e:TypeId}{d:TypeDesc}(b:P.underlying e=Z d)(hd:ab8 d=fF)(a:Addr):aaC P h e a=h.read a:=by grind[aaC]
theorem RS.load{v:vV}{vs:xLV}(a:RS h v vs){e:TypeId}{d:TypeDesc}(b:P.underlying e=Z d)(hd:ab8 d=fF)(i:Nat)(hi:i<vs.length):
  aaC P h e (aaq v i)=Z vs[i]:=by grind[Bj,RS.get]
def RL{α:Type}(R:aai->vV->α->Prop)(h:aai)(v:vV)(xs:List α):Prop:=∃vs:xLV,RS h v vs/\vs.length=xs.length/\∀(i:Nat)(x:α)(u:vV),xs[i]?=Z x->vs[i]?=Z u->R h u x
def RP(_:aai)(v:vV)(n:Int):Prop:=v=n
def Nn{α:Type}(R:aai->vV->α->Prop):Prop:=∀h h' v x,R h v x->Le h h'->R h' v x
theorem Nn.RP:Nn Fw.RP:=fun _ _ _ _ r _=>r
def Nn.RL{α:Type}{R:aai->vV->α->Prop}(s:Nn R):Nn (Fw.RL R):=fun h h' v x ⟨vs,r,a,b⟩ e=>⟨vs,r.le e,a,fun i x u c d=>s h h' u x (b i x u c d) e⟩
section RL
variable{α:Type}{R:aai->vV->α->Prop}{v:vV}{xs:List α}
theorem RL.sl(a:RL R h v xs):xO v xs.length:=by have⟨vs,r,b,_⟩:=a;grind[RS.sl]
theorem RL.len(a:RL R h v xs){t e:TypeId}(b:P.underlying t=Z (.slice e))(h':aai):aeh P h' t v=Z (.int .i64 xs.length):=by have⟨vs,r,c,_⟩:=a;grind[RS.len]
theorem RL.addr(a:RL R h v xs){t e:TypeId}{d:TypeDesc}(b:P.underlying t=Z (.slice e))(hd:P.underlying e=Z d)(hs:UA P e=1){k:IntKind}(i:Nat)(hi:i<xs.length):
  aao P t v (.int k i)=Z (pT (Z (aaq v i))):=by
 have⟨vs,r,c,_⟩:=a;grind[RS.addr]
theorem RL.load(a:RL R h v xs){e:TypeId}{d:TypeDesc}(b:P.underlying e=Z d)(hd:ab8 d=fF)(i:Nat)(hi:i<xs.length):
  ∃u,aaC P h e (aaq v i)=Z u/\R h u xs[i]:=by
 have⟨vs,r,f,c⟩:=a;exact⟨_,r.load b hd i NH,c i _ _ (qL7 hi) (qL7 NH)⟩
def RL.loadI{xs:RZ}(a:RL RP h v xs){e:TypeId}{d:TypeDesc}(b:P.underlying e=Z d)(hd:ab8 d=fF)(i:Nat)(hi:i<xs.length):
  aaC P h e (aaq v i)=Z (.int .i64 xs[i]):=by have⟨u,c,h2⟩:=a.load b hd i hi;rw[c,h2]
theorem RL.nil:RL R h (.slice Y 0 0) []:=⟨[],RS.nil h,rfl,fun i x u a=>by simp at a⟩
end RL
def RL.Wh{v:vV}{xs:RZ}(r:RS h v (xs.map (vV.int .i64))):RL RP h v xs:=⟨_,r,Ma,fun i x u b a=>by rw[aiq,b]at a;simp at a;exact a.symm⟩
theorem RL.cellsI{v:vV}{xs:RZ}(r:RL RP h v xs):RS h v (xs.map (vV.int .i64)):=by
 have⟨vs,r,a,b⟩:=r;have:vs=xs.map (vV.int .i64):=by
  apply qL212
  .simp[a]
  .intro i c h2;have d:i<xs.length:=NH;have:=b i xs[i] vs[i] (qL7 d) (qL7 c);grind[RP]
 grind
theorem aaa(k:Nat)(a:k<4611686018427387904):aaY .i64 ((k:Int)+1)=((k+1:Nat):Int):=by grind[ie]
theorem qF{id:Nat}{c:xLV}(b:h.own id=Z (.cells c)):∀(n off:Nat),off+n<=c.length->abN h ⟨id,off,Y⟩ n=Z ((c.drop off).take n)
 |0,off,_=>by simp[abN]
 |n+1,off,d=>by have a:off<c.length:=NH;have e:=qF b n (off+1) NH;simp only[abN,YP b,qL7 a,Ip];grind[drop_eq_getElem_cons]
theorem Wx{t:TypeId}{d:TypeDesc}{k id off:Nat}{c:xLV}(a:P.underlying t=Z d)(hd:ab8 d=tT)(hs:UA P t=k)(b:h.own id=Z (.cells c))(e:off+k<=c.length):
  aaC P h t ⟨id,off,Y⟩=Z (.agg ((c.drop off).take k).toArray):=by grind[aaC,qF]
theorem Fq{t:TypeId}{d:TypeDesc}{id off:Nat}{c:xLV}(a:P.underlying t=Z d)(hd:ab8 d=fF)(b:h.own id=Z (.cells c)):aaC P h t ⟨id,off,Y⟩=c[off]?:=by grind[Bj,YP]
def aga(x:Int):aaY .u8 x=x%256:=by rw[Qt];simp[IntKind.wrap,IntKind.bits,IntKind.signed]
theorem cT(x:Int)(a:0<=x)(h2:x<=4611686018427387904):aaY .i64 x=x:=ie x NH NH
theorem xO.one{v:vV}{n:Nat}(b:xO v n):v.oneCell'=tT:=by obtain⟨a,c,rfl,_⟩:=b;rfl
theorem RL.one{α:Type}{R:aai->vV->α->Prop}{v:vV}{xs:List α}(a:RL R h v xs):v.oneCell'=tT:=a.sl.one
theorem RL.le{α:Type}{R:aai->vV->α->Prop}(s:Nn R){v:vV}{xs:List α}(a:RL R h v xs)(e:Le h h'):RL R h' v xs:=(Nn.RL s) _ _ _ _ a e
def aBox3{a b c:vV}(ha:a.oneCell'=tT)(hb:b.oneCell'=tT)(d:c.oneCell'=tT):zF h (.agg #[a,b,c])=Z (pT (Z h.next),h.alloc (.cells [a,b,c])):=by simp[zF,IF,vV.cells,ha,hb,d]
theorem QB{t:TypeId}{d:TypeDesc}{id off:Nat}{c:xLV}{x:vV}(b:P.underlying t=Z d)(hs:UA P t=1)(e:h.own id=Z (.cells c))(a:off<c.length)(f:x.cells=#[x])(g:x.oneCell'=tT):
  aaK P h t (pT (Z ⟨id,off,Y⟩)) x=Z (h.put id (.cells (c.set off x))):=by grind[aaK,putCells]
structure CS (k:Nat) (h:aai) (v:vV) (n:Nat) (cs:xLV):Prop where
 sl:xO v n
 len:cs.length=n*k
 get:∀i x,cs[i]?=Z x->h.read (aaq v i)=Z x
theorem CS.le{k n:Nat}{v:vV}{cs:xLV}(c:CS k h v n cs)(e:Le h h'):CS k h' v n cs:=⟨c.sl,c.len,fun i x a=>e.read (c.get i x a)⟩
def RS.cs{v:vV}{vs:xLV}(r:RS h v vs):CS 1 h v vs.length vs:=⟨r.sl,Ma,r.get⟩
theorem CS.rs{v:vV}{n:Nat}{vs:xLV}(r:CS 1 h v n vs):RS h v vs:=by
 have:vs.length=n:=by grind[CS.len]
 subst this;exact⟨r.sl,r.get⟩
theorem CS.nil(k:Nat)(h:aai):CS k h (.slice Y 0 0) 0 []:=⟨⟨Y,0,rfl,Ma⟩,Ma,fun i x a=>by simp at a⟩
theorem ag8:∀(cs:xLV)(a:Addr),(∀i x,cs[i]?=Z x->h.read (Ip a i)=Z x)->abN h a cs.length=Z cs
 |[],_,_=>rfl
 |c::cs,a,hg=>by
  have b:=hg 0 c rfl;have d:=ag8 cs (Ip a 1) fun i x e=>by have:=hg (i+1) x hGr;grind[Ip]
  grind[abN,aai.read,Ip]
theorem CS.abN{k n:Nat}{a:Addr}{cap:Nat}{cs:xLV}(c:CS k h (sL (Z a) n cap) n cs):abN h a (n*k)=Z cs:=by rw[<-c.len];exact ag8 cs a fun i x b=>c.get i x b
theorem CS.src{k n:Nat}{v:vV}{cs:xLV}{e:TypeId}(b:UA P e=k)(c:CS k h v n cs):aby P h e v=Z (n,cs):=by
 obtain⟨a,cap,rfl,hs⟩:=c.sl;cases a with
 |none=>
  have d:n=0:=by cases n<;>grind
  subst d;have:cs=[]:=by simpa using c.len
  grind[aby]
 |some a=>simp[aby,b,c.abN]
theorem CS.first{k n:Nat}{v:vV}{cs:xLV}(c:CS k h v n cs)(e:n≠0)(m:Nat)(b:m<=n):afE h k m v=Z (cs.take (m*k)):=by
 obtain⟨a,cap,rfl,hs⟩:=c.sl;obtain⟨a,rfl⟩:=abV.1 (hs NH);have hle:m*k<=n*k:=af7 _ b;have d:(cs.take (m*k)).length=m*k:=by grind[CS.len]
 simp only[afE,b,if_true]
 conv=>lhs;rw[<-d]
 refine ag8 _ _ fun i x f=>c.get i x ?_;grind
def blk:vV->Option Nat
 |.slice (Z ⟨b,_,Y⟩) _ _=>Z b
 |_=>Y
def Z2(g:aai)(v:vV):Prop:=∀b,blk v=Z b->g.own b=Y
def GS(k:Nat)(h:aai)(v:vV)(n:Nat)(cs:xLV):Prop:=
 cs.length=n*k/\((v=.slice Y 0 0/\n=0)\/
  ∃id c cap,v=sL (Z ⟨id,0,Y⟩) n cap/\h.own id=Z (.cells c)/\c.take (n*k)=cs/\(cap=UNK+k\/cap=n/\n<1000000000000))
theorem GS.nil(k:Nat)(h:aai):GS k h (.slice Y 0 0) 0 []:=⟨Ma,.inl ⟨rfl,rfl⟩⟩
theorem GS.full{k n id:Nat}{c:xLV}(a:h.own id=Z (.cells c))(b:c.length=n*k)(d:n<1000000000000):GS k h (sL (Z id) n n) n c:=⟨b,.inr ⟨id,c,n,rfl,a,hGr,.inr ⟨rfl,d⟩⟩⟩
theorem GS.le{k n:Nat}{v:vV}{cs:xLV}(g:GS k h v n cs)(e:Le h h'):GS k h' v n cs:=by
 obtain⟨a,g|⟨id,c,cap,rfl,b,r⟩⟩:=g
 .exact⟨a,.inl g⟩
 .exact⟨a,.inr ⟨id,c,cap,rfl,e.own _ _ b,r⟩⟩
theorem GS.cs{k n:Nat}{v:vV}{cs:xLV}(g:GS k h v n cs):CS k h v n cs:=by
 obtain⟨a,⟨rfl,rfl⟩|⟨id,c,cap,rfl,b,rfl,d⟩⟩:=g
 .grind[CS.nil]
 .refine⟨⟨_,cap,rfl,Ma⟩,a,fun i x e=>?_⟩;grind[fA,Ip.eq_1,YP]
def apT(P:Program)(t xt:TypeId)(k:Nat):Bool:=
  match P.underlying t,P.underlying xt with
  |some (.slice e),Z dx=>match acd P e with
    |some z=>z.cells.size==UA P e&&z.cells.toList.all (·.oneCell')&&(P.underlying e).isSome&&acL dx&&UA P e==k&&decide (P.bytesOf e<=100000)
    |none=>fF
  |_,_=>fF
theorem GS.append{t xt:TypeId}{k n d:Nat}{v x:vV}{cs news:xLV}(i:apT P t xt k=tT)(g:GS k h v n cs)(hs:∀e,UA P e=k->aby P h e x=Z (d,news))(G:cs.all (·.oneCell')=tT)(H:news.all (·.oneCell')=tT)(p:news.length=d*k)(hb:n+d<=1000000000):
  ∃v' h',aaR P h t xt v x=Z (v',h')/\GS k h' v' (n+d) (cs++news)/\(∀f,WF h->Le f h->Z2 f v->Le f h'/\Z2 f v'):=by
 unfold apT at i;split at i
 .rename_i e dx j l;split at i
  .rename_i z m;simp only[rY,beq_iff_eq,vg]at i;obtain⟨⟨⟨⟨⟨q,r⟩,hd⟩,s⟩,I⟩,u⟩:=i;have hs:=hs e I;have J:(n+d)*P.bytesOf e<=140737488355328:=jz (adE hb u) WY;have K:n+d<=140737488355328:=NH;have o:z.cells.size=UA P e/\z.cells.toList.all (·.oneCell')/\(P.underlying e).isSome/\acL dx/\news.all (·.oneCell')/\(n+d)*P.bytesOf e<=140737488355328/\n+d<=140737488355328/\news.length=d*UA P e:=
    ⟨q,r,hd,s,H,J,K,hGr⟩
   have hlen:(cs++news).length=(n+d)*k:=by rw[Eh,g.1,p,af2]
   by_cases L:d=0
   .subst L;have w:news=[]:=hGr;subst w;refine⟨v,h,?_,by simpa using g,fun f _ e a=>⟨e,a⟩⟩;obtain⟨M,⟨rfl,rfl⟩|⟨id,c,cap,rfl,D,i,E⟩⟩:=g
    .simp[aaR,j,l,m,hs,o]
    .have:n<=cap:=by grind[UNK]
     simp only[aaR,j,l,m,hs];grind
   .obtain⟨M,⟨rfl,rfl⟩|⟨id,c,cap,rfl,D,y,E⟩⟩:=g
    .have A:cs=[]:=hGr;subst A
     refine⟨_,_,?_,⟨hlen,.inr ⟨h.next,news,UNK+k,by rfl,aai.zT _ _,hGr,.inl rfl⟩⟩,fun f hw e a=>⟨e.alloc hw _,?_⟩⟩
     .have B:¬UNK<=0:=by decide
      have F:¬(0+d<=0):=NH;simp only[aaR,j,l,m,hs];grind[GB]
     .intro b hb;grind[blk,Le.next]
    .have N:Fw.abN h ⟨id,0,Y⟩ (n*k)=Z cs:=by
      have:n*k<=c.length:=hGr;rw[qF D (n*k) 0 NH];simp[y]
     rcases E with rfl|⟨rfl,C⟩
     .refine⟨_,(h.kill id).alloc (.cells (cs++news)),?_,⟨hlen,.inr ⟨h.next,cs++news,UNK+k,by rfl,by exact aai.zT _ _,hGr,.inl rfl⟩⟩,fun f hw e a=>⟨(e.kill (a _ rfl)).alloc (hw.kill _) _,?_⟩⟩
      .simp only[aaR,j,l,m,hs];grind
      .intro b hb;grind[blk,Le.next]
     .have B:¬UNK<=cap:=Bc.2 (V9 C WY)
      refine⟨_,_,?_,⟨hlen,.inr ⟨h.next,cs++news,UNK+k,by rfl,aai.zT _ _,hGr,.inl rfl⟩⟩,fun f hw e a=>⟨e.alloc hw _,?_⟩⟩
      .simp only[aaR,j,l,m,hs];grind[GB]
      .intro b hb;grind[blk,Le.next]
  .cases i
 .cases i
theorem all_rep{v:vV}(a:v.oneCell'=tT)(n:Nat):(rP n v).all (·.oneCell')=tT:=hGr
theorem Ye{t e:TypeId}{z:vV}{d:TypeDesc}(h:aai)(a:P.underlying t=Z (.slice e))(b:acd P e=Z z)(c:z.cells=#[z])(hf:flat z=tT)(f:z.oneCell'=tT)(hs:UA P e=1)(hd:P.underlying e=Z d)(hb:(P.bytesOf e).ble 1000=tT)(n:Nat)(g:n<=1000000):
  abl P h t n n=Z (sL (Z h.next) n n,h.alloc (.cells (rP n z))):=by
 have i:(P.bytesOf e:Int)*n<=140737488355328:=by have:P.bytesOf e*n<=1000*1000000:=adE (qL231 hb) g;grind
 have j:(n:Int)<=140737488355328:=NH;simp[abl,a,b,c,hf,hs,hd,i,j,IF,HW,f]
theorem IQ{t e:TypeId}{d:TypeDesc}{k n id off dl dc:Nat}{c cs:List Value}{v:Value}(i:P.underlying t=some (.slice e))(hd:P.underlying e=some d)(j:UA P e=k)(s:h.own id=some (.cells c))(g:CS k h v n cs)(l:cs.all (·.oneCell')=true)(m:Nat)(o:min n dl=m)(p:m≠0)(hb:off+m*k<=c.length):
  afo P h t (.slice (some ⟨id,off,none⟩) dl dc) v=some (.int .i64 m,h.put id (.cells (c.take off++cs.take (m*k)++c.drop (off+m*k)))):=by
 have q:n≠0:=NH;have b:m<=n:=NH;have hlen:afj v=some n:=by obtain⟨a,cap,rfl,_⟩:=g.sl;rfl
 have hf:=g.first q m b
 have hle:m*k<=n*k:=af7 _ b;have u:(cs.take (m*k)).length=m*k:=by grind[CS.len]
 have r:(cs.take (m*k)).all (·.oneCell')=true:=hGr;have f:off+(cs.take (m*k)).length<=c.length/\(cs.take (m*k)).all (·.oneCell')/\m≠0:=⟨hGr,r,p⟩;simp only[afo,i,hlen,hd,aiL,if_true,o,j];grind[IW]
def afl{t e:TypeId}{d:TypeDesc}{dl dc n:Nat}{a:Option Addr}{v:vV}(b:P.underlying t=Z (.slice e))(hd:P.underlying e=Z d)(c:UA P e≠0)(f:xO v n)(g:min n dl=0):
  afo P h t (.slice a dl dc) v=Z (.int .i64 (0:Nat),h):=by
 obtain⟨a,cap,rfl,_⟩:=f;simp[afo,b,afj,hd,g,c]
def apY{t e:TypeId}{d:TypeDesc}{n cap:Nat}{a:Option Addr}(b:P.underlying t=Z (.slice e))(hd:P.underlying e=Z d)(c:UA P e=1){k:IntKind}(i:Nat)(hi:i<=n)(l:n<cap\/i<n)(f:n<=cap)(hs:cap<UNK):
  abf P t (.slice a n cap) (Z (.int k i)) Y Y=Z (.slice (a.map (fun a=>Ip a i)) (n-i) (cap-i)):=by
 have g:¬UNK<=cap:=NH;have h2:(0:Int)<=i:=NH;have h3:(i:Int)<=n:=NH;have j:¬(cap=i):=NH;simp[abf,b,g,f,hd,abm,abL,h2,h3,j,c]
def pn{t e:TypeId}{d:TypeDesc}{n cap:Nat}{a:Addr}(b:P.underlying t=Z (.slice e))(hd:P.underlying e=Z d){k:IntKind}(i:Nat)(hi:i<=cap)(c:n<=cap)(hs:cap<UNK):
  abf P t (sL (Z a) n cap) Y (Z (.int k i)) Y=Z (sL (Z a) i cap):=by
 have f:¬UNK<=cap:=NH;have h2:(0:Int)<=i:=NH;have h3:(i:Int)<=cap:=NH;simp[abf,b,f,c,hd,abm,abL,h2,h3,Ip]
theorem CS.own{k id off n cap:Nat}{c:xLV}(b:h.own id=Z (.cells c))(d:off+n*k<=c.length):CS k h (sL (Z ⟨id,off,Y⟩) n cap) n ((c.drop off).take (n*k)):=by
 have a:((c.drop off).take (n*k)).length=n*k:=by simp;omega
 refine⟨⟨_,cap,rfl,Ma⟩,a,fun i x e=>?_⟩;grind[fA,Ip.eq_1,YP]
def Wc{t e:TypeId}{d:TypeDesc}{a:Addr}{n cap:Nat}(b:P.underlying t=Z (.slice e))(hd:P.underlying e=Z d)(hs:UA P e=1){k:IntKind}(i:Nat)(hi:i<n):
  aao P t (sL (Z a) n cap) (.int k i)=Z (pT (Z (Ip a i))):=by
 have c:(i:Int)<(n:Int):=NH;simp[aao,b,c,hd,hs]
def Jg{t e:TypeId}{a:Option Addr}{n cap:Nat}(b:P.underlying t=Z (.slice e))(h:aai):aeh P h t (.slice a n cap)=Z (.int .i64 n):=by simp[aeh,b]
theorem aG{v v':vV}(hf:∀f,WF h->Le f h->Z2 f v->Le f h'/\Z2 f v')(hw:WF h){a:Nat}{o:fK}(g:h.own a=Z o)(hb:blk v≠Z a):h'.own a=Z o/\blk v'≠Z a:=by
 cases j:blk v with
 |none=>have⟨d,h2⟩:=hf h hw (Le.refl h) (fun b hb=>by grind);exact⟨d.own _ _ g,fun e=>by have:=h2 a e;grind⟩
 |some b=>
  have i:a≠b:=hGr;have⟨d,h2⟩:=hf (h.kill b) hw (Le.Qz h b) (fun c k=>by grind[aai.Dg]);have:(h.kill b).own a=Z o:=by grind[aai.xJ]
  exact⟨d.own _ _ this,fun e=>by have h3:=h2 a e;grind⟩
theorem GS.push{t:TypeId}{n id:Nat}{v x:vV}{cs:xLV}(b:apT P t t 1=tT)(g:GS 1 h v n cs)(c:h.own id=Z (.cells [x]))(a:cs.all (·.oneCell')=tT)(d:x.oneCell'=tT)(hb:n+1<=1000000000):
  ∃v' h',aaR P h t t v (sL (Z id) 1 1)=Z (v',h')/\GS 1 h' v' (n+1) (cs++[x])/\(∀f,WF h->Le f h->Z2 f v->Le f h'/\Z2 f v'):=
 g.append b (fun e i=>(CS.own (k:=1) (off:=0) (n:=1) (cap:=1) c Ma).src i) a (by simp[d]) Ma hb
theorem RL.load'{α:Type}{R:aai->vV->α->Prop}{g:aai}{v:vV}{xs:List α}(a:RL R g v xs){e:TypeId}{d:TypeDesc}(b:P.underlying e=Z d)(hd:ab8 d=fF)(i:Nat)(hi:i<xs.length):
  ∃u,(∀h,Le g h->aaC P h e (aaq v i)=Z u)/\R g u xs[i]:=by grind[RL.load,Bj,Le.read]
def rem(l:II)(h:aai):aai:=l.foldr (fun i g=>g.kill i) h
theorem vL(l:II):(rem l h).ext=h.ext:=by
 induction l with
 |nil=>rfl
 |cons a l b=>exact b
theorem DC(l:II)(i:Nat):(rem l h).own i=if i∈l then Y else h.own i:=by
 induction l<;>grind[rem,uU]
theorem Th{l:II}{i:Nat}{o:fK}:(rem l h).own i=Z o↔h.own i=Z o/\i∉l:=by grind[DC]
theorem Sa(l:II)(h:aai):Le (rem l h) h:=⟨(vL l).symm,fun i o hi=>(Th.1 hi).1⟩
theorem Le.rem{l l':II}(a:h'.ext=h.ext)(b:∀i o,h.own i=Z o->i∉l->h'.own i=Z o/\i∉l'):Le (Fw.rem l h) (Fw.rem l' h'):=⟨by grind[vL],fun i o hi=>by grind[Th]⟩
theorem Le.iV{g:aai}{l:II}(e:Le g h)(a:∀i∈l,g.own i=Option.none):Le g (Fw.rem l h):=⟨by grind[vL,Le.ext],fun i o hi=>Th.2 ⟨e.own _ _ hi,fun b=>by grind⟩⟩
def Le.Xm{l:II}(e:Le h h'):Le (Fw.rem l h) (Fw.rem l h'):=Le.rem e.ext fun i o hi a=>⟨e.own _ _ hi,a⟩
def bl(v:vV):II:=(blk v).toList
theorem Zr{v:vV}{i:Nat}:i∈bl v↔blk v=Z i:=by simp[bl]
def GS.Fi{k n:Nat}{v:vV}{cs:xLV}{l:II}(g:GS k h v n cs)(hb:∀b,blk v=Z b->b∉l):GS k (rem l h) v n cs:=by
 obtain⟨a,g|⟨id,c,cap,rfl,d,r⟩⟩:=g
 .exact⟨a,.inl g⟩
 .exact⟨a,.inr ⟨id,c,cap,rfl,Th.2 ⟨d,hb id rfl⟩,r⟩⟩
theorem GS.Sy{k n:Nat}{v:vV}{cs:xLV}(g:GS k h v n cs){b:Nat}(hb:blk v=Z b):h.own b≠Y:=by
 obtain⟨a,⟨rfl,_⟩|⟨id,c,cap,rfl,d,r⟩⟩:=g
 .cases hb
 .injection hb with hb;grind
def cu(v:vV):Prop:=v=.slice Y 0 0\/∃a n c,v=.slice a n c/\UNK<=c
theorem uZ{t xt:TypeId}{v x v':vV}(e:aaR P h t xt v x=Z (v',h'))(d:cu v):cu v':=by
 have key:∀base len cap,v=.slice base len cap->(v=.slice Y 0 0\/UNK<=cap)->cu v':=by
  intro base len cap f g;subst f;unfold aaR at e;split at e
  .rename_i heq;injection heq with i h2 h3;subst i h2 h3;split at e
   .split at e
    .split at e
     .grind
     .split at e
      .split at e
       .split at e
        .split at e
         .split at e
          .injection e with e;injection e with b j;subst b;exact .inr ⟨_,_,_,rfl,by assumption⟩
          .cases e
         .cases e
        .cases e
       .cases e
      .split at e
       .grind
       .split at e
        .split at e
         .injection e with e;injection e with b j;subst b;exact .inr ⟨_,_,_,rfl,ail _ _⟩
         .cases e
        .cases e
    .cases e
   .cases e
  .cases e
 rcases d with rfl|⟨a,n,c,rfl,k⟩
 all_goals grind
theorem Ub(a:Addr)(i j:Nat):Ip (Ip a i) j=Ip a (i+j):=by grind[Ip]
theorem RS.part{a:Addr}{n cap cap' lo hi:Nat}{vs:xLV}(r:RS h (sL (Z a) n cap) vs)(d:lo<=hi)(h2:hi<=n)(e:vs.length=n):RS h (sL (Z (Ip a lo)) (hi-lo) cap') ((vs.drop lo).take (hi-lo)):=by
 have c:((vs.drop lo).take (hi-lo)).length=hi-lo:=by simp;omega
 refine⟨⟨_,cap',by rw[c],Ma⟩,fun i x b=>?_⟩;rw[fA,Ub];rw[anh]at b;split at b
 .rw[b7]at b;have:=r.get (lo+i) x b;grind[fA]
 .cases b
def RS.none'{a:Option Addr}{n cap cap':Nat}{a':Option Addr}(b:n=0):RS h (.slice a' n cap') []:=by subst b;exact⟨⟨a',cap',rfl,Ma⟩,fun i x c=>by simp at c⟩
theorem Hx{n:Nat}{v:Value}{cs:List Value}{t e:TypeId}{d:TypeDesc}(i:P.underlying t=some (.slice e))(hd:P.underlying e=some d)(hs:UA P e=1)(g:GS 1 h v n cs)(p:n≠0)(lo hi:Nat)(l:lo<=hi)(h2:hi<=n):
  ∃v',abf P t v (some (.int .i64 lo)) (some (.int .i64 hi)) none=some v'/\RS h v' ((cs.drop lo).take (hi-lo)):=by
 have gc:=g.cs.rs;obtain⟨q,⟨rfl,rfl⟩|⟨id,c,cap,rfl,r,s,m⟩⟩:=g
 .grind
 .have n1:(0:Int)<=lo:=NH;have j:(lo:Int)<=hi:=NH;have n3:(hi:Int)<=n:=NH;have k:(0:Int)<=hi:=NH;have b:cs.length=n:=hGr;rcases m with rfl|⟨rfl,o⟩
  .refine⟨.slice (some (Ip ⟨id,0,none⟩ lo)) (hi-lo) (UNK+1),?_,gc.part l h2 b⟩;simp[abf,i,hd,hs,abm,abL,n1,j,n3,k]
  .have f:¬UNK<=cap:=Bc.2 (V9 o WY)
   refine⟨.slice (if cap=lo then some ⟨id,0,none⟩else some (Ip ⟨id,0,none⟩ lo)) (hi-lo) (cap-lo),?_,?_⟩
   .simp[abf,i,hd,hs,abm,abL,n1,j,n3,k,f]
   .split
    .have:hi-lo=0:=NH;rw[this];simp only[qL232];exact RS.none' (a:=none) (cap:=0) rfl
    grind[RS.part]
def GT(k:Nat)(h:aai)(v:vV)(n:Nat)(cs:xLV):Prop:=
 cs.length=n*k/\((v=.slice Y 0 0/\n=0)\/
  ∃id c cap,v=sL (Z ⟨id,0,Y⟩) n cap/\h.own id=Z (.cells c)/\c.take (n*k)=cs/\(cap=UNK+k\/(n<=cap/\cap<1000000000000/\cap*k<=c.length)))
theorem GS.gt{k n:Nat}{v:vV}{cs:xLV}(g:GS k h v n cs):GT k h v n cs:=by
 obtain⟨a,g|⟨id,c,cap,rfl,b,d,r⟩⟩:=g
 .exact⟨a,.inl g⟩
 .refine⟨a,.inr ⟨id,c,cap,rfl,b,d,?_⟩⟩;grind
theorem GT.le{k n:Nat}{v:vV}{cs:xLV}(g:GT k h v n cs)(e:Le h h'):GT k h' v n cs:=by
 obtain⟨a,g|⟨id,c,cap,rfl,b,r⟩⟩:=g
 .exact⟨a,.inl g⟩
 .exact⟨a,.inr ⟨id,c,cap,rfl,e.own _ _ b,r⟩⟩
theorem GT.kept{k n:Nat}{v:vV}{cs:xLV}(g:GT k h v n cs)(d:∀b o,blk v=Z b->h.own b=Z o->h'.own b=Z o):GT k h' v n cs:=by
 obtain⟨a,q|⟨i,c,cap,rfl,e,rr⟩⟩:=g
 .exact⟨a,.inl q⟩
 .exact⟨a,.inr ⟨i,c,cap,rfl,d i _ rfl e,rr⟩⟩
theorem GT.put{k n:Nat}{v:vV}{cs:xLV}(g:GT k h v n cs){id:Nat}(o:fK)(hb:blk v≠Z id):GT k (h.put id o) v n cs:=g.kept fun b a c d=>by grind[aai.By]
theorem GT.cs{k n:Nat}{v:vV}{cs:xLV}(g:GT k h v n cs):CS k h v n cs:=by
 obtain⟨a,⟨rfl,rfl⟩|⟨id,c,cap,rfl,b,rfl,d⟩⟩:=g
 .grind[CS.nil]
 .refine⟨⟨_,cap,rfl,Ma⟩,a,fun i x e=>?_⟩;grind[fA,Ip.eq_1,YP]
theorem GT.Sy{k n:Nat}{v:vV}{cs:xLV}(g:GT k h v n cs){b:Nat}(hb:blk v=Z b):∃c,h.own b=Z (.cells c):=by
 obtain⟨a,⟨rfl,rfl⟩|⟨i,c,cap,rfl,d,rr⟩⟩:=g
 .cases hb
 .injection hb with hb;grind
theorem GT.append{t xt:TypeId}{k n i:Nat}{v x:vV}{cs news:xLV}(o:apT P t xt k=tT)(g:GT k h v n cs)(hs:∀e,UA P e=k->aby P h e x=Z (i,news))(p:cs.all (·.oneCell')=tT)(B:news.all (·.oneCell')=tT)(d:news.length=i*k)(hb:n+i<=1000000000):
  ∃v' h',aaR P h t xt v x=Z (v',h')/\GT k h' v' (n+i) (cs++news)/\(∀f,WF h->Le f h->Z2 f v->Le f h'/\Z2 f v'):=by
 obtain⟨s,⟨rfl,rfl⟩|⟨id,c,cap,rfl,y,j,Q⟩⟩:=g
 .have C:cs=[]:=by simpa using s
  subst C;have⟨v',h',D,E,e3⟩:=GS.append o (GS.nil k h) hs p B d hb;exact⟨v',h',D,E.gt,e3⟩
 .rcases Q with rfl|⟨u,q,r⟩
  .obtain⟨v',h',D,E,e3⟩:=GS.append o ⟨s,.inr ⟨id,c,_,rfl,y,j,.inl rfl⟩⟩ hs p B d hb;exact⟨v',h',D,E.gt,e3⟩
  .unfold apT at o;split at o
   .rename_i e dx F G;split at o
    .rename_i z H;simp only[rY,beq_iff_eq,vg]at o;obtain⟨⟨⟨⟨⟨I,J⟩,hd⟩,K⟩,A⟩,L⟩:=o;have hs:=hs e A;have R:(n+i)*P.bytesOf e<=140737488355328:=jz (adE hb L) WY;have S:n+i<=140737488355328:=NH;have l:z.cells.size=UA P e/\z.cells.toList.all (·.oneCell')/\(P.underlying e).isSome/\acL dx/\news.all (·.oneCell')/\(n+i)*P.bytesOf e<=140737488355328/\n+i<=140737488355328/\news.length=i*UA P e:=
      ⟨I,J,hd,K,B,R,S,by rw[A];exact d⟩
     have hlen:(cs++news).length=(n+i)*k:=by rw[Eh,s,d,af2]
     have w:¬UNK<=cap:=Bc.2 (V9 q WY);have M:Fw.abN h ⟨id,0,Y⟩ (n*k)=Z cs:=by
      have:n*k<=c.length:=by have:=s;rw[<-j,WL]at this;omega
      rw[qF y (n*k) 0 NH];simp[j]
     by_cases N:i=0
     .subst N;have O:news=[]:=by simpa using d
      subst O;refine⟨_,h,?_,⟨by simpa using s,.inr ⟨id,c,cap,rfl,y,by simpa using j,.inr ⟨u,q,r⟩⟩⟩,fun f _ e a=>⟨e,a⟩⟩;simp only[aaR,F,G,H,hs];rw[abe l,abe trivial,abe u];rfl
     .by_cases hf:n+i<=cap
      .have m:n*k+news.length<=c.length:=by rw[d,<-af2];exact jz (af7 _ hf) r
       refine⟨sL (Z id) (n+i) cap,h.put id (.cells (putCells c (n*k) news)),?_,⟨hlen,.inr ⟨id,_,cap,rfl,aai.Y3 _ _ _,?_,.inr ⟨hf,q,by rw[afS];exact r⟩⟩⟩,fun f _ e a=>⟨e.put _ (a _ rfl),a⟩⟩
       .simp only[aaR,F,G,H,hs];rw[abe l,abE N,abE w,abe hf];simp only[y,A,Gc,m,if_true]
       .rw[IW _ _ _ m];rw[aeu (by simp[d];rw[af2];omega)];rw[HV (by simp[d];rw[af2];omega),j]
      .refine⟨_,_,?_,⟨hlen,.inr ⟨h.next,cs++news,UNK+k,rfl,aai.zT _ _,by rw[<-hlen,JR],.inl rfl⟩⟩,fun f hw e a=>⟨e.alloc hw _,?_⟩⟩
       .simp only[aaR,F,G,H,hs];rw[abe l,abE N,abE w,abE hf];simp only[GB,A,M,p,if_true]
       .intro b hb;simp[blk]at hb;subst hb;exact e.next hw (qL0 _)
    .cases o
   .cases o
theorem GT.push{t:TypeId}{n id:Nat}{v x:vV}{cs:xLV}(b:apT P t t 1=tT)(g:GT 1 h v n cs)(c:h.own id=Z (.cells [x]))(a:cs.all (·.oneCell')=tT)(i:x.oneCell'=tT)(hb:n+1<=1000000000):
  ∃v' h',aaR P h t t v (sL (Z id) 1 1)=Z (v',h')/\GT 1 h' v' (n+1) (cs++[x])/\(∀f,WF h->Le f h->Z2 f v->Le f h'/\Z2 f v'):=
 GT.append b g (fun e d=>CS.src d (CS.own (k:=1) (off:=0) (n:=1) (cap:=1) c Ma)) a hGr Ma hb
theorem GT.cut{k n:Nat}{v:vV}{cs:xLV}{t e:TypeId}{d:TypeDesc}(i:P.underlying t=Z (.slice e))(hd:P.underlying e=Z d)(hs:UA P e=k)(g:GT k h v n cs)(m:Nat)(p:m<=n):
  ∃v',abf P t v Y (Z (.int .i64 m)) Y=Z v'/\GT k h v' m (cs.take (m*k))/\blk v'=blk v:=by
 obtain⟨u,⟨rfl,rfl⟩|⟨id,c,cap,rfl,o,w,q⟩⟩:=g
 .obtain rfl:m=0:=NH;refine⟨.slice Y 0 0,?_,⟨Ma,.inl ⟨rfl,rfl⟩⟩,rfl⟩;have:¬UNK<=0:=by decide
  simp[abf,i,hd,this,abm,abL]
 .have h2:(0:Int)<=m:=NH;have r:m*k<=n*k:=af7 _ p;have a:cs.take (m*k)=c.take (m*k):=hGr;have b:(cs.take (m*k)).length=m*k:=hGr;rcases q with rfl|⟨j,f,l⟩
  .have h3:(m:Int)<=n:=NH;refine⟨sL (Z id) m (UNK+k),?_,⟨b,.inr ⟨id,c,_,rfl,o,a.symm,.inl rfl⟩⟩,rfl⟩;simp[abf,i,hd,hs,abm,abL,Ip,h2,h3]
  .have s:¬UNK<=cap:=Bc.2 (V9 f WY);have h3:(m:Int)<=cap:=NH;refine⟨sL (Z id) m cap,?_,⟨b,.inr ⟨id,c,_,rfl,o,a.symm,.inr ⟨NH,f,l⟩⟩⟩,rfl⟩;simp[abf,i,s,j,hd,abm,abL,h2,h3,Ip]
def Lj{α:Type}(R:aai->vV->α->Prop)(h:aai)(v:vV)(xs:List α):Prop:=∃us:xLV,GS 1 h v us.length us/\us.length=xs.length/\us.all (·.oneCell')=tT/\∀(i:Nat) x u,xs[i]?=Z x->us[i]?=Z u->R (rem (bl v) h) u x
section
variable{α:Type}{R:aai->vV->α->Prop}{v:vV}{xs:List α}
theorem Lj.rl(s:Nn R)(g:Lj R h v xs):RL R h v xs:=by have⟨us,a,b,_,c⟩:=g;exact⟨us,a.cs.rs,b,fun i x u d e=>s _ _ _ _ (c i x u d e) (Sa _ _)⟩
theorem Lj.le(s:Nn R)(g:Lj R h v xs)(e:Le h h'):Lj R h' v xs:=by have⟨us,a,b,c,d⟩:=g;exact⟨us,a.le e,b,c,fun i x u f j=>s _ _ _ _ (d i x u f j) e.Xm⟩
theorem Lj.empty(R:aai->vV->α->Prop){id:Nat}(a:h.own id=Z (.cells [])):Lj R h (sL (Z id) 0 0) []:=⟨[],GS.full a rfl WY,rfl,rfl,fun i x u b=>by simp at b⟩
theorem Lj.push(s:Nn R){t:TypeId}(n:apT P t t 1=tT)(g:Lj R h v xs)(c:WF h){u:vV}{x:α}(p:R (rem (bl v) h) u x)(u1:u.oneCell'=tT)(F:xs.length<=100000000):
  ∃k v' a,h.alloc (.cells [u])=k/\aaR P k t t v (sL (Z h.next) 1 1)=Z (v',a)/\Lj R a v' (xs++[x])/\Le h k/\WF k/\
   (∀f,Le f h->Z2 f v->Le f a/\Z2 f v')/\(∀b o,h.own b=Z o->blk v≠Z b->a.own b=Z o/\blk v'≠Z b):=by
 have⟨us,q,m,r,z⟩:=g;have l4:Le h (h.alloc (.cells [u])):=(Le.refl h).alloc c _;have l:WF (h.alloc (.cells [u])):=c.alloc _
 have A:(h.alloc (.cells [u])).own h.next=Z (.cells [u]):=aai.zT _ _
 have⟨v',a,B,G,hf⟩:=GS.push (P:=P) n (q.le l4) A r u1 NH;refine⟨_,v',a,rfl,B,⟨us++[u],?_,by simp[m],hGr,fun i y w d hw=>?_⟩,l4,l,fun f C af=>hf f l (C.trans l4) af,fun b o D hb=>aG hf l (l4.own _ _ D) hb⟩
 .grind
 .have j:Z2 (rem (bl v) h) v:=fun b hb=>by grind[DC,Zr]
  have⟨l5,E⟩:=hf _ l ((Sa (bl v) h).trans l4) j;have le:Le (rem (bl v) h) (rem (bl v') a):=l5.iV fun i hi=>E i (Zr.1 hi);by_cases hi:i<us.length
  .rw[si hi]at hw;rw[si NH]at d;exact s _ _ _ _ (z i y w d hw) le
  .have e:i=us.length:=hGr;subst e;rw[AE NH]at hw;rw[AE NH,m]at d;simp at hw d;subst hw d;exact s _ _ _ _ p le
def RMR(l:II)(R:aai->vV->α->Prop):aai->vV->α->Prop:=fun h u x=>R (rem l h) u x
def RMR.stays(s:Nn R)(l:II):Nn (RMR l R):=fun _ _ _ _ r e=>s _ _ _ _ r e.Xm
theorem xk(l l':II)(h:aai):Le (rem l (rem l' h)) (rem l' (rem l h)):=⟨by simp[vL],fun i o hi=>by grind[Th]⟩
def Lj.remI(s:Nn R){l:II}(g:Lj R (rem l h) v xs):Lj (RMR l R) h v xs:=by have⟨us,a,b,c,d⟩:=g;exact⟨us,a.le (Sa _ _),b,c,fun i x u e f=>s _ _ _ _ (d i x u e f) (xk _ _ _)⟩
def Lj.remE(s:Nn R){l:II}(g:Lj (RMR l R) h v xs)(hb:∀b,blk v=Z b->b∉l):Lj R (rem l h) v xs:=by have⟨us,a,c,d,e⟩:=g;exact⟨us,a.Fi hb,c,d,fun i x u f j=>s _ _ _ _ (e i x u f j) (xk _ _ _)⟩
theorem Lj.push_rem(s:Nn R){l:II}{t:TypeId}(e:apT P t t 1=tT)(g:Lj R (rem l h) v xs)(d:WF h){u:vV}{x:α}(i:R (rem l (rem (bl v) h)) u x)(u1:u.oneCell'=tT)(j:xs.length<=100000000)(hb:∀b,blk v=Z b->b∉l)(r:∀b∈l,h.own b≠Y):
  ∃a v' c,h.alloc (.cells [u])=a/\aaR P a t t v (sL (Z h.next) 1 1)=Z (v',c)/\Lj R (rem l c) v' (xs++[x])/\Le h a/\WF a/\
   (∀f,Le f h->Z2 f v->Le f c/\Z2 f v')/\(∀b o,h.own b=Z o->blk v≠Z b->c.own b=Z o/\blk v'≠Z b):=by
 have⟨a,v',c,e4,k,m,l4,n,p,q⟩:=Lj.push (RMR.stays s l) e (g.remI s) d (u:=u) (x:=x) i u1 j;refine⟨a,v',c,e4,k,m.remE s fun b sZ w=>?_,l4,n,p,q⟩;cases y:h.own b<;>grind
end
end
def kA:=@cond_true
def kB:=@cond_false
def kC:=@Trie.YO
def kD:=@agh
def kE:=@List.append_eq
def kF:=@WS
def kG:=@Cj
def kH:=@MY
def kI:=@amJ
def kJ:=@alC
def kK:=@beq_self_eq_true
def kL:=@List.filter_nil
def kM:=@ahG
def kN:=@List.contains_cons
def kO:=@List.contains_nil
def kS1:=XC @ag6 (XC @fst_mk (XC @snd_mk (XC @agH (XC @VK_ret (XC @agI (XC @VK_seq (XC @af1 (XC @qS (XC @agO (XC @agR (XC @Fe (XC @Wi (XC @agW (XC @KN_nil (XC @KN_seq (XC @KN_blk (XC @sn (XC @Vy (XC @Y6 (XC @Kw (XC @zz (XC @acE (XC @J1 (XC @KE_ret (XC @ag2 (XC @KO_nil (XC @ag3 (XC @bE (XC @Q2 (XC @af3 (XC @aiN (XC @af4 (XC @re (XC @af8 (XC @af9 (XC @NA (XC @ac7 (XC @qL218 (XC @Nat.zero_ne_one (XC @Bool.not_true (XC @qL228 (XC @aga (XC @Bool.true_beq (XC @Bool.false_beq (XC @beq_true (XC @beq_false (XC @decide_true (XC @decide_false (XC @Bool.not_not (XC @qL241 (XC @Bool.true_and (XC @Bool.and_false (@Bool.false_and)))))))))))))))))))))))))))))))))))))))))))))))))))))
def kJ1:=XC @ag6 (XC @fst_mk (XC @snd_mk (XC @agH (XC @VK_ret (XC @agI (XC @VK_seq (XC @af1 (XC @qS (XC @agO (XC @agR (XC @Fe (XC @Wi (XC @agW (XC @KN_nil (XC @KN_blk (XC @sn (XC @Vy (XC @Y6 (XC @Kw (XC @zz (XC @acE (XC @J1 (XC @KE_ret (XC @ag2 (XC @KO_nil (XC @ag3 (XC @bE (XC @Q2 (XC @af3 (XC @aiN (XC @af4 (XC @re (XC @af8 (XC @af9 (XC @NA (XC @ac7 (XC @qL218 (XC @Nat.zero_ne_one (XC @Bool.not_true (XC @qL228 (XC @aga (XC @Bool.true_beq (XC @Bool.false_beq (XC @beq_true (XC @beq_false (XC @decide_true (XC @decide_false (XC @Bool.not_not (XC @qL241 (XC @Bool.true_and (XC @Bool.and_false (@Bool.false_and))))))))))))))))))))))))))))))))))))))))))))))))))))
def kD1:=XC @fRn.eq_1 (XC @fRn.eq_2 (XC @tA.eq_1 (XC @tA.eq_2 (XC @JQ.eq_1 (XC @Bool.or_self (XC @acg (XC @KD_done (XC @KD_no (XC @KD_fl (XC @KF1_some (XC @KF2_true (XC @apU (XC @KF3_some (XC @KF4_some (XC @KD_ch (XC @KG1_some (XC @KG2_true (XC @apV (XC @KG3_true (XC @apW (XC @KG4_some (XC @KG5_some (XC @Holds_eq (XC @H1_some (XC @H2_true (XC @H2_false (XC @H3_some (XC @HD_some (XC @HD_none (XC @Bool.or_false (XC @Bool.false_or (XC @Bool.true_or (XC @Bool.or_true (XC @true_and (@and_true)))))))))))))))))))))))))))))))))))
def kS2:=XC @cond_true.{1} (XC @cond_false.{1} (XC @Trie.YO (XC @agh.{0} (XC @List.append_eq.{0} (XC @WS.{0} (XC @Cj.{0} (XC @MY.{0} (XC @amJ.{0} (XC @alC.{0,0} (XC @beq_self_eq_true.{0} (XC @aer.eq_1 (XC @aet.eq_1 (XC @ab6.eq_1 (XC @Zm.eq_1 (XC @abr.eq_1 (XC @aa6.eq_1 (XC @aa6.eq_2 (XC @aa6.eq_3 (XC @aa6.eq_4 (XC @acZ.eq_1 (XC @acZ.eq_2 (XC @aeb.eq_1 (XC @aeb.eq_2 (XC @aec.eq_1 (XC @aec.eq_2 (XC @putDst.eq_1 (XC @putDst.eq_2 (XC @flat.eq_1 (XC @flat.eq_2 (XC @flat.eq_3 (XC @flat.eq_4 (XC @flat.eq_5 (XC @flat.eq_6 (XC @flat.eq_7 (XC @flat.eq_8 (XC @flat.eq_9 (XC @aeZ.eq_1 (XC @aeZ.eq_2 (XC @aeZ.eq_3 (XC @aeZ.eq_4 (XC @aeZ.eq_5 (XC @aeZ.eq_6 (XC @aeZ.eq_7 (XC @mM.eq_1 (XC @aci.eq_1 (XC @aci.eq_2 (XC @ae3.eq_1 (XC @ae3.eq_2 (XC @ae3.eq_3 (XC @ae3.eq_4 (XC @ae3.eq_5 (XC @ae3.eq_6 (XC @adY.eq_1 (XC @adY.eq_2 (XC @adY.eq_3 (XC @adY.eq_4 (XC @adY.eq_5 (XC @adY.eq_6 (XC @adY.eq_7 (XC @adY.eq_8 (XC @adY.eq_9 (XC @adY.eq_10 (XC @adY.eq_11 (XC @adY.eq_12 (XC @adY.eq_13 (XC @adY.eq_14 (XC @adY.eq_15 (XC @adY.eq_16 (XC @aUn.eq_1 (XC @aUn.eq_2 (XC @aUn.eq_3 (XC @acy.eq_1 (XC @acy.eq_2 (XC @acy.eq_3 (XC @agk.eq_1 (XC @agk.eq_2 (XC @agk.eq_3 (XC @G8.eq_1 (XC @acD.eq_1 (XC @acf.eq_1 (XC @acf.eq_2 (XC @ad7.eq_1 (XC @ad7.eq_2 (XC @mkF.eq_1 (XC @mkF.eq_2 (XC @Yx.eq_1 (XC @acW.eq_1 (XC @acW.eq_2 (@abt.eq_1)))))))))))))))))))))))))))))))))))))))))))))))))))))))))))))))))))))))))))))))))))))))))
def HO:=XC @kS1 @kS2
def Qg:=XC @kD1 (XC @abj.eq_1 (XC @abj.eq_2 (XC @List.filter_nil.{0} (XC @ahG.{0} (XC @List.contains_cons.{0} @List.contains_nil.{0})))))
def kJJ:=XC @kJ1 @kS2
theorem hAs{p:Prop}(h:p:=by simp only[Fj,HO,Nat.reduceLT,↓reduceIte,Nat.reduceEqDiff,reduceCtorEq];simp):p:=h
theorem PJ{p:Prop}(h:p:=by simp only[HO,Nat.reduceLT,↓reduceIte,Nat.reduceEqDiff,reduceCtorEq]<;>rfl):p:=h
theorem sbL{fr:aam}:Sub .leaf fr:=fun k v h=>by simp[Trie.get]at h
theorem sbS{t fr:aam}{k:Nat}{v:Value}(h:Sub t fr)(e:fr.get k=some v):Sub (t.set k v) fr:=fun k' v' h'=>by
  rw[Trie.YO]at h'
  by_cases hk:k'=k
  ·subst hk;rw[if_pos rfl]at h';injection h' with h';subst h';exact e
  ·rw[if_neg hk]at h';exact h k' v' h'
theorem lgA{I:Nat→aam→aai→Prop}{k k':Nat}{Q:Exit→aam→aai→Prop}{fr fr':aam}{h:aai}(hk:k'<k)(hi:I k' fr' h)(hl:Sub fr' fr:=by(repeat refine sbS ?_ (by simp only[HO,Nat.reduceLT,↓reduceIte,Nat.reduceEqDiff,reduceCtorEq]<;>simp));exact sbL):aeM I k Q .normal fr h:=⟨k',hk,_,hl,hi⟩
theorem lIn{P:Program}{W0:abw}{N:Nat}{fr fr':aam}{h:aai}{c:Code}{ks:List Kt}{R:Exit→aam→aai→Prop}(I:Nat→aam→aai→Prop){k0:Nat}(h0:I k0 fr' h)(hr:∀k fr h,WF h→I k fr h→VK P W0 N c [] (aeM I k (KE P W0 N R ks)) fr h)(hl:Sub fr' fr:=by(repeat refine sbS ?_ (by simp only[HO,Nat.reduceLT,↓reduceIte,Nat.reduceEqDiff,reduceCtorEq]<;>simp));exact sbL):aab P W0 N c ks R fr h:=.loop I k0 _ hl h0 fun k fr h hi=>ud.wf fun hw=>VC.sound (hr k fr h hw hi)
theorem Uy{p q:Prop}(x:q)(e:p=q:=by simp only[HO,Nat.reduceLT,↓reduceIte,Nat.reduceEqDiff,reduceCtorEq];rfl):p:=e.mpr x
theorem Sk{f p q:Prop}(F:f)(x:q)(e:f→p=q:=by intro k;simp only[HO,Nat.reduceLT,↓reduceIte,Nat.reduceEqDiff,reduceCtorEq,k];rfl):p:=(e F).mpr x
theorem CO{f p q:Prop}(F:f)(x:q)(e:f→p=q:=by intro k;simp only[HO,Nat.reduceLT,↓reduceIte,Nat.reduceEqDiff,reduceCtorEq,Nat.reduceBEq,Nat.reduceAdd,Qg,k];rfl):p:=(e F).mpr x
theorem kCi {P:Program} {W0:abw} {N:Nat} {ops:Array Oper} {fr:aam} {h:aai} {ks:List Kt} {R:Exit→aam→aai→Prop} {o:Oper} {l:List Oper} {g:FuncId} {args:List Value} {fn:Func} {Rc:Value→aai→Prop} (hg:P.funcs[g]?=some fn) (ha:AC P W0 g args h Rc)
    (hk:∀v h',WF h'→Rc v h'→Kp P W0 N ops ks R l h' (putDst N fr o.dst v)) (hc:abt fr o=some (g,args):=by simp only[HO,Nat.reduceLT,↓reduceIte,Nat.reduceEqDiff,reduceCtorEq]<;>rfl) (h2:fn.body.isSome=true:=by rfl) (h3:(fn.name== "runtime.NumGoroutine")=false:=by decide):TC P W0 N ops ks R o l fr h:=
  .intro hc ⟨hg,(Option.some_get h2).symm,h3⟩ ha hk
theorem kGi {P:Program} {W0:abw} {N:Nat} {ops:Array Oper} {fr:aam} {h:aai} {ks:List Kt} {R:Exit→aam→aai→Prop} {o:Oper} {t:DT} {aac:List Nat} {g:FuncId} {args:List Value} {fn:Func} {Rc:Value→aai→Prop} (hg:P.funcs[g]?=some fn) (ha:AC P W0 g args h Rc)
    (hk:∀v h',WF h'→Rc v h'→KG5 P W0 N ops ks R t aac h' (putDst N fr o.dst v)) (hc:abt fr o=some (g,args):=by simp only[HO,Nat.reduceLT,↓reduceIte,Nat.reduceEqDiff,reduceCtorEq]<;>rfl) (h2:fn.body.isSome=true:=by rfl) (h3:(fn.name== "runtime.NumGoroutine")=false:=by decide):VA P W0 N ops ks R t aac fr h o:=
  .intro hc ⟨hg,(Option.some_get h2).symm,h3⟩ ha hk
def kAr:=XC @me.eq_1 (XC @aeI.eq_1 @aeI.eq_2)
theorem AC.vE{P:Program}{W0:abw}{h:aai}{f:FuncId}{args:List Value}{fn:Func}{c:Code}{R:Value→aai→Prop}(hg:Good P f fn c){n:Nat}(hn:fn.ntmps=n){rs:Array ResultVar}(hrs:fn.results=rs)(hc:WF h→VK P W0 n c [] (agk P rs.toList R) (me args) h)(hlen:args.length≤n:=by simp):AC P W0 f args h R:=AC.vc hg hn hrs hlen hc
theorem AC.vF {P:Program} {W0:abw} {h:aai} {f:FuncId} {args:List Value} {fn:Func} {c:Code} {fr:aam} {R:Value→aai→Prop} (hf:P.funcs[f]?=some fn) {n:Nat} (hn:fn.ntmps=n) {rs:Array ResultVar} (hrs:fn.results=rs)
    (hc:WF h→VK P W0 n c [] (agk P rs.toList R) fr h) (hb:fn.body=some c:=by rfl) (hm:(fn.name== "runtime.NumGoroutine")=false:=by decide) (he:me args=fr:=by simp only[kAr,Nat.reduceLT,↓reduceIte,Nat.reduceEqDiff,reduceCtorEq];rfl) (hlen:args.length≤n:=by simp):AC P W0 f args h R:=AC.vc ⟨hf,hb,hm⟩ hn hrs hlen (he▸hc)
variable {P:Program} {W0:abw} {cs:List Value} {ev v:Value} {h h':aai} {i k n w:Nat} {p:Prop} {α:Type}
def mixed:pG.follows .mixedOrders=tT:=Ji
def CA{l:List α}(h:i<l.length):l[i]?=Z l[i]:=qL7 h
theorem D4{l:List α}{d:α}(h:i<l.length):l.getD i d=l[i]:=hGr
def adP(p:Prop)(v:vV):Prop:=∃b:Bool,v=.bool b/\(b=tT↔p)
theorem adP.t(h:p):adP p (.bool tT):=⟨tT,rfl,by simp[h]⟩
theorem adP.f(h:¬p):adP p (.bool fF):=⟨fF,rfl,by simp[h]⟩
theorem acb(h:decide ((i:Int)<(n:Int))=tT):i<n:=hGr
theorem vp(h:decide ((i:Int)<(n:Int))=fF):n<=i:=hGr
def Tt(hw:WF h)(c:xLV):∃h',h.alloc (.cells c)=h'/\Le h h'/\WF h'/\h'.own h.next=Z (.cells c):=⟨_,rfl,(Le.refl h).alloc hw _,hw.alloc _,aai.zT _ _⟩
def Ya{ι κ:Type}{F:ι->κ->Prop}{A:Prop}(Φ:ι->κ->Prop)(a:(∀x y,F x y->Φ x y)->A)(h2:∀x y,F x y->Φ x y):A:=a h2
def KN.UJ{N:Nat}{ks:List Kt}{R:Exit->aam->aai->Prop}{fr:aam}(q:∀fr' h',fr'=fr->h'=h->KN P W0 N ks R fr' h'):KN P W0 N ks R fr h:=q fr h rfl rfl
theorem GS.kept(g:GS k h v n cs)(d:∀b o,blk v=Z b->h.own b=Z o->h'.own b=Z o):GS k h' v n cs:=by
 obtain⟨a,q|⟨i,c,cap,rfl,e,rr⟩⟩:=g
 .exact⟨a,.inl q⟩
 .exact⟨a,.inr ⟨i,c,cap,rfl,d i _ rfl e,rr⟩⟩
theorem GS.put{k n:Nat}{h:aai}{v:vV}{cs:xLV}(g:GS k h v n cs){id:Nat}(o:fK)(hb:blk v≠Z id):GS k (h.put id o) v n cs:=g.kept fun b a c d=>by grind[aai.By]
abbrev Pr:=Int×Int
abbrev xLP:=List Pr
def xM(p:Pr):xLV:=[.int .i64 p.1,.int .i64 p.2]
def UI(p:Pr):vV:=.agg #[p.1,p.2]
def Iu(ps:List Pr):xLV:=ps.flatMap xM
theorem Ta(ps:List Pr):(Iu ps).length=ps.length*2:=by
 induction ps<;>grind[Iu,xM]
def WI(ps:List Pr):(Iu ps).all (·.oneCell')=tT:=by rw[fj];intro x a;rw[Iu,uu]at a;have⟨p,_,a⟩:=a;simp[xM]at a;rcases a with rfl|rfl<;>rfl
theorem mZ(a b:List Pr):Iu (a++b)=Iu a++Iu b:=by simp[Iu]
theorem H5:∀(ps:List Pr)(i:Nat)(p:Pr),ps[i]?=Z p->(Iu ps)[i*2]?=Z (.int .i64 p.1)/\(Iu ps)[i*2+1]?=Z (.int .i64 p.2)
 |[],i,p,h=>by simp at h
 |q::ps,0,p,h=>by grind[Iu,xM]
 |q::ps,i+1,p,h=>by have:=H5 ps i p (by simpa using h);have e:Iu (q::ps)=.int .i64 q.1::.int .i64 q.2::Iu ps:=rfl;grind
def PR(h:aai)(v:vV)(ps:List Pr):Prop:=CS 2 h v ps.length (Iu ps)
def FK(v:vV)(i:Nat):Addr:=aaq v (i*2)
theorem PR.le{h h':aai}{v:vV}{ps:List Pr}(r:PR h v ps)(e:Le h h'):PR h' v ps:=CS.le r e
theorem PR.nil(h:aai):PR h (.slice Y 0 0) []:=CS.nil 2 h
theorem WE:UA pG 37=2:=Ji
def ts3:UA pG 3=1:=Ji
theorem PR.len{ps:List Pr}(r:PR h v ps)(g:aai):aeh pG g 22 v=Z (.int .i64 ps.length):=by obtain⟨a,c,rfl,_⟩:=r.sl;simp[aeh,underlying22]
theorem PR.addr{ps:List Pr}(r:PR h v ps){k:IntKind}(i:Nat)(hi:i<ps.length):aao pG 22 v (.int k i)=Z (pT (Z (FK v i))):=by obtain⟨a,c,rfl,hs⟩:=r.sl;obtain⟨a,rfl⟩:=abV.1 (hs NH);have b:(i:Int)<(ps.length:Int):=NH;simp[aao,underlying22,underlying37,b,FK,aaq,WE]
def Dh(a:Addr):aao pG 37 (pT (Z a)) (.int .i64 0)=Z (pT (Z (Ip a 0))):=by simp[aao,underlying37,underlying3]
def Z0(a:Addr):aao pG 37 (pT (Z a)) (.int .i64 1)=Z (pT (Z (Ip a 1))):=by simp[aao,underlying37,underlying3,ts3]
theorem PR.get{h:aai}{v:vV}{ps:List Pr}(r:PR h v ps){i:Nat}{p:Pr}(b:ps[i]?=Z p):
  h.read (Ip (FK v i) 0)=Z (.int .i64 p.1)/\h.read (Ip (FK v i) 1)=Z (.int .i64 p.2):=by
 have⟨d,e⟩:=H5 ps i p b;have f:=CS.get r _ _ d;have g:=CS.get r _ _ e;obtain⟨a,c,rfl,hs⟩:=r.sl;grind[Option.isSome_iff_exists,FK,fA,Ip]
def PR.l0{ps:List Pr}(r:PR h v ps){p:Pr}(a:ps[i]?=Z p):aaC pG h 3 (Ip (FK v i) 0)=Z (.int .i64 p.1):=by rw[Bj underlying3 rfl];exact(r.get a).1
def PR.l1{ps:List Pr}(r:PR h v ps){p:Pr}(a:ps[i]?=Z p):aaC pG h 3 (Ip (FK v i) 1)=Z (.int .i64 p.2):=by rw[Bj underlying3 rfl];exact(r.get a).2
theorem PR.load{ps:List Pr}(r:PR h v ps){p:Pr}(b:ps[i]?=some p):aaC Tryz.prog h 37 (FK v i)=some (UI p):=by
 obtain⟨c,d⟩:=r.get b;have a:abN h (FK v i) 2=some [.int .i64 p.1,.int .i64 p.2]:=by refine ag8 [.int .i64 p.1,.int .i64 p.2] _ fun j x e=>?_;grind
 have hd:ab8 (.array 2 3)=true:=rfl;simp only[aaC,Tryz.underlying37,hd,cond_true,WE,a,UI]
theorem alloc42(h:aai):abO pG h 37=Z (pT (Z h.next),h.alloc (.cells [.int .i64 0,.int .i64 0])):=rfl
def aoN{x y:vV}{p:Pr}(a:h.own w=Z (.cells [x,y])):aaK pG h 37 (pT (Z w)) (UI p)=Z (h.put w (.cells (xM p))):=by simp[aaK,a,UI,vV.cells,WE,putCells,xM,underlying37];exact⟨rfl,rfl⟩
def Ci(h:aai)(p:Pr):zF h (UI p)=Z (pT (Z h.next),h.alloc (.cells (xM p))):=rfl
def lK{p:Pr}(a:h.own w=Z (.cells (xM p))):aaC pG h 3 ⟨w,0,Y⟩=Z (.int .i64 p.1):=by rw[Fq underlying3 rfl a];rfl
def HY{p:Pr}(a:h.own w=Z (.cells (xM p))):aaC pG h 3 ⟨w,1,Y⟩=Z (.int .i64 p.2):=by rw[Fq underlying3 rfl a];rfl
def uM{p:Pr}(a:h.own w=Z (.cells (xM p))):aaC pG h 37 ⟨w,0,Y⟩=Z (UI p):=by rw[Wx underlying37 rfl WE a (by simp[xM])];rfl
theorem Ut(hw:WF h)(p:Pr):∃a h2,abO pG h 37=Z (pT (Z h.next),a)/\aaK pG a 37 (pT (Z h.next)) (UI p)=Z h2/\Le h h2/\WF h2/\h2.own h.next=Z (.cells (xM p)):=by
 have⟨a,d,l1,w1,b⟩:=Tt hw [.int .i64 0,.int .i64 0]
 have c:h.own h.next=Y:=(Le.refl h).next hw (qL0 _)
 exact⟨a,_,by grind[alloc42],aoN b,l1.put _ c,w1.put _ (w1.lt b),aai.Y3 _ _ _⟩
structure GM where
 n:Int
 es:List Pr
structure GR (h:aai) (v:vV) (G:GM):Prop where
 ex:∃ev,v=.agg #[G.n,ev]/\PR h ev G.es
theorem GR.le{h h':aai}{v:vV}{G:GM}(r:GR h v G)(e:Le h h'):GR h' v G:=by have⟨ev,a,b⟩:=r.ex;exact⟨ev,a,b.le e⟩
def Ii(a:Addr):aca pG 24 (pT (Z a)) 0=Z (pT (Z (Ip a 0))):=rfl
def Di(a:Addr):aca pG 24 (pT (Z a)) 1=Z (pT (Z (Ip a 1))):=rfl
def r8(c:WF h){n:Int}{es:List Pr}(r:PR h ev es):
  ∃a,zF h (.agg #[n,ev])=Z (pT (Z h.next),a)/\Le h a/\WF a/\a.own h.next=Z (.cells [n,ev])/\
   ∀g,Le a g->aaC pG g 24 ⟨h.next,0,Y⟩=Z (.agg #[n,ev])/\aaC pG g 3 ⟨h.next,0,Y⟩=Z (.int .i64 n)/\aaC pG g 22 ⟨h.next,1,Y⟩=Z ev:=by
 have⟨a,d,l1,w1,b⟩:=Tt c [n,ev];have h2:=r.sl.one;refine⟨a,?_,l1,w1,b,fun g e=>⟨?_,Fq underlying3 rfl (e.own _ _ b),Fq underlying22 rfl (e.own _ _ b)⟩⟩
 .rw[<-d];obtain⟨_,_,rfl,_⟩:=r.sl;rfl
 .rw[Wx underlying24 rfl (by kernel_rfl:UA pG 24=2) (e.own _ _ b) Ma];rfl
def xO.cells{v:vV}{n:Nat}(h:xO v n):v.cells=#[v]:=by obtain⟨a,c,rfl,_⟩:=h;rfl
theorem gh{W0:abw}{N:Nat}{fr:aam}{h:aai}{i:Nat}{ol:List Oper}{ks:List Kt}{R:Exit→aam→aai→Prop}(t:DT)(hd:KD Tryz.prog W0 N ol.toArray ks R t [] fr h)(hok:akk ol.toArray t=true:=by kernel_rfl):ZJ Tryz.prog W0 N i ol.toArray ks R fr h:=ZJ.intro mixed t hok hd
def RL.Uc{h:aai}{v:Value}{xs:List Int}(z:RL RP h v xs):=z.loadI (P:=Tryz.prog) Tryz.underlying3 rfl
def RL.DH{α:Type}{R:aai→Value→α→Prop}{h:aai}{v:Value}{xs:List α}(z:RL R h v xs):=z.addr (P:=Tryz.prog) Tryz.underlying47 Tryz.underlying3 (by kernel_rfl) (k:=.i64)
def RS.DH{h:aai}{v:Value}{xs:List Value}(z:RS h v xs):=z.addr (P:=Tryz.prog) Tryz.underlying47 Tryz.underlying3 (by kernel_rfl) (k:=.i64)
def RL.TA{α:Type}{R:aai→Value→α→Prop}{h:aai}{v:Value}{xs:List α}(z:RL R h v xs):=z.len (P:=Tryz.prog) Tryz.underlying47
def RS.TA{h:aai}{v:Value}{xs:List Value}(z:RS h v xs):=z.len (P:=Tryz.prog) Tryz.underlying47
def RL.NS{α:Type}{R:aai→Value→α→Prop}{h:aai}{v:Value}{xs:List α}(z:RL R h v xs):=z.addr (P:=Tryz.prog) Tryz.underlying45 Tryz.underlying47 (by kernel_rfl) (k:=.i64)
def RS.NS{h:aai}{v:Value}{xs:List Value}(z:RS h v xs):=z.addr (P:=Tryz.prog) Tryz.underlying45 Tryz.underlying47 (by kernel_rfl) (k:=.i64)
def RL.Wm{α:Type}{R:aai→Value→α→Prop}{h:aai}{v:Value}{xs:List α}(z:RL R h v xs):=z.load' (P:=Tryz.prog) Tryz.underlying47 rfl
def RL.qP5{α:Type}{R:aai→Value→α→Prop}{h:aai}{v:Value}{xs:List α}(z:RL R h v xs):=z.len (P:=Tryz.prog) Tryz.underlying45
def RS.qP5{h:aai}{v:Value}{xs:List Value}(z:RS h v xs):=z.len (P:=Tryz.prog) Tryz.underlying45
def Mb:=@Go.Proofs.Tryz.underlying47
def Ac:=@Go.Proofs.Tryz.underlying3
def AV:=@Go.Proofs.Tryz.underlying22
def eY:=@Go.Proofs.Tryz.underlying4
def Uh:=@Go.Proofs.Tryz.underlying94
def qS5:=@Go.Proofs.Tryz.underlying24
def qS6:=@Go.Proofs.Tryz.underlying45
def qS7:=@Go.Proofs.Tryz.underlying37
def qS8:=@Go.Proofs.Tryz.underlying65
def qS9:=@Go.Proofs.Tryz.underlying59
def UP:=@Go.Proofs.Tryz.func16
def KT:=@Go.Proofs.Tryz.underlying127
def sU:=@Go.Proofs.Tryz.underlying40
def afm:=@Go.Proofs.Tryz.underlying96
def alD:=@Go.Proofs.Tryz.func98
def qS15:=@Go.Proofs.Tryz.underlying89
def YW:=@Go.Proofs.Tryz.func10
def akP:=@Go.Proofs.Tryz.func11
def qS18:=@Go.Proofs.Tryz.underlying130
def aol:=@Go.Proofs.Tryz.func8
def akW:=@Go.Proofs.Tryz.func118
def apZ:=@Go.Proofs.Tryz.func19
def ap3:=@Go.Proofs.Tryz.func26
def ap6:=@Go.Proofs.Tryz.func66
def ap8:=@Go.Proofs.Tryz.func6
def qS25:=@Go.Proofs.Tryz.underlying123
def qS26:=@Go.Proofs.Tryz.underlying48
def qS27:=@Go.Proofs.Tryz.underlying95
def qS28:=@Go.Proofs.Tryz.func69
def qS29:=@Go.Proofs.Tryz.func51
def qS30:=@Go.Proofs.Tryz.func88
def qS31:=@Go.Proofs.Tryz.func89
def qS32:=@Go.Proofs.Tryz.func92
def qS33:=@Go.Proofs.Tryz.func17
def qS34:=@Go.Proofs.Tryz.func20
def qS35:=@Go.Proofs.Tryz.func4
def qS36:=@Go.Proofs.Tryz.func116
def qS37:=@Go.Proofs.Tryz.underlying63
def qS38:=@Go.Proofs.Tryz.underlying70
section
attribute [local irreducible] Kp MQ lU KO1 KO KN KX KE VK Kl ZJ TC aab
theorem Pd(b:abw)(a:Int)(h:aai):AC pG b 69 [a] h fun v h'=>v=.bool fF/\h'=h:=by refine AC.vF qS28 ntmps69 results69 fun c=>?_;simp only[HO,seval,bne,eq_self];grind
def iC(a b:Int):Int:=if a<b then-1 else if a>b then 1 else 0
def wS(d:abw)(a b:Int)(h:aai):AC pG d 51 [a,b] h fun v h'=>v=.int .i64 (iC a b)/\h'=h:=by
 refine AC.vF qS29 ntmps51 results51 fun e=>?_;refine Uy ?_;refine kCi qS28 (Pd d a h) ?_;rintro x f w1 ⟨rfl,rfl⟩;refine Uy ?_;refine kCi qS28 (Pd d b f) ?_;rintro x h2 w2 ⟨rfl,rfl⟩;unfold iC;by_cases c:a<b
 .simp only[HO,seval,c];exact⟨trivial,trivial⟩
 .by_cases c2:a>b
  .simp only[HO,seval,c,c2];exact⟨trivial,trivial⟩
  .simp only[HO,seval,c,c2];exact⟨trivial,trivial⟩
def orM:RZ->Int
 |[]=>0
 |x::r=>if x=0 then orM r else x
theorem Or_any(f:abw)(v:vV)(xs:RZ)(h:aai)(d:RL RP h v xs)(m:xs.length<=1000):AC pG f 50 [v] h fun x h'=>x=.int .i64 (orM xs)/\h'=h:=by
 refine AC.vF func50 ntmps50 results50 fun g=>?_;have j:=d.TA h;refine Sk j ?_;refine lIn (fun k fr hh=>∃i:Nat,k=xs.length-i/\i<=xs.length/\hh=h/\fr=mkF [(3,.int .i64 0),(6,v),(7,xs.length),(8,i)]/\orM xs=orM (xs.drop i)) ⟨0,rfl,Z6 _,rfl,rfl,rfl⟩ ?_;rintro k fr hh-⟨i,rfl,hi,rfl,rfl,b⟩;refine Uy ?_;refine Kl.intro (fun l=>?_) (fun hf=>?_)
 .have a:i<xs.length:=acb l;have ad:=d.DH i a;have ld:=d.Uc i a;rw[AQ a,orM]at b;by_cases c:xs[i]=0
  .rw[abe c]at b;simp only[HO,seval,ad,ld,bne,eq_true c,aaa i NH];exact lgA NH ⟨i+1,rfl,a,rfl,rfl,b⟩
  .rw[abE c]at b;simp only[HO,seval,ad,ld,bne,eq_false c];grind
 .have e:xs.length<=i:=vp hf;rw[ahH e,orM]at b;refine Uy ?_;grind
def Nz(p q:Pr):Int:=orM [iC p.1 q.1,iC p.2 q.2]
theorem Hv(p q:Pr):Nz p q<0↔p.1<q.1\/p.1=q.1/\p.2<q.2:=by grind[Nz,orM,iC]
theorem eK(p q:Pr):Nz p q=0↔p=q:=by grind[Nz,orM,iC]
def mk2(h:aai)(a b:Int):aas pG h 47 2 [(0,a),(1,b)]=Z (sL (Z h.next) 2 2,h.alloc (.cells [a,b])):=rfl
def DU(g:abw)(p q:Pr)(h:aai):AC pG g 33 [UI p,UI q] h fun v h'=>v=.int .i64 (Nz p q)/\Le h h':=by
 refine AC.vF func33 ntmps33 results33 fun i=>?_;have⟨j,k,l1,w1,l⟩:=Tt i (xM p);have⟨h2,m,l2,w2,f⟩:=Tt w1 (xM q);refine Sk (Yb @Ci k m) ?_;have c:=l2.own _ _ l
 generalize h.next=a at*
 generalize j.next=b at*
 refine gh (tA [0,1,2,3,5,6,7,8] (JQ 4 [1,3] (JQ 9 [4,6,8] (JQ 10 [4,9] (JQ 11 [9,10] (tA [12] .done)))))) ?_;refine CO (adG @Dh @Z0 @Ip.eq_1 @Gc (lK c) (HY c) (lK f) (HY f)) ?_;refine kGi qS29 (wS g p.1 q.1 h2) ?_;rintro x h3 t ⟨rfl,rfl⟩;refine CO (adG @Dh @Z0 @Ip.eq_1 @Gc (lK c) (HY c) (lK f) (HY f)) ?_;refine kGi qS29 (wS g p.2 q.2 h3) ?_;rintro x u n ⟨rfl,rfl⟩;have⟨o,r,l5,w,s⟩:=Tt n [.int .i64 (iC p.1 q.1),.int .i64 (iC p.2 q.2)];have d:=l5.own _ _ c;have e:=l5.own _ _ f;refine CO (Da @Dh @Z0 @Ip.eq_1 @Gc (lK c) (HY c) (lK f) (HY f) @mk2 r (lK d) (HY d) (lK e) (HY e)) ?_;refine kGi func50 (Or_any g _ [iC p.1 q.1,iC p.2 q.2] o (RL.Wh (RS.whole s rfl)) Ma) ?_;rintro x y z ⟨rfl,rfl⟩;refine CO (adG @Dh @Z0 @Ip.eq_1 @Gc (lK d) (HY d) (lK e) (HY e)) ?_;exact⟨rfl,(l1.trans l2).trans l5⟩
def yu(g:abw)(p q:Pr)(h:aai):AC pG g 129 [UI p,UI q] h fun v h'=>v=.int .i64 (Nz p q)/\Le h h':=by
 refine AC.vF func129 ntmps129 results129 fun i=>?_;have⟨j,k,l1,w1,l⟩:=Tt i (xM p);have⟨h2,m,l2,w2,f⟩:=Tt w1 (xM q);refine Sk (Yb @Ci k m) ?_;have c:=l2.own _ _ l
 generalize h.next=a at*
 generalize j.next=b at*
 refine gh (tA [0,1,2,3,5,6,7,8] (JQ 4 [1,3] (JQ 9 [4,6,8] (JQ 10 [4,9] (JQ 11 [9,10] (tA [12] .done)))))) ?_;refine CO (adG @Dh @Z0 @Ip.eq_1 @Gc (lK c) (HY c) (lK f) (HY f)) ?_;refine kGi qS29 (wS g p.1 q.1 h2) ?_;rintro x h3 t ⟨rfl,rfl⟩;refine CO (adG @Dh @Z0 @Ip.eq_1 @Gc (lK c) (HY c) (lK f) (HY f)) ?_;refine kGi qS29 (wS g p.2 q.2 h3) ?_;rintro x u n ⟨rfl,rfl⟩;have⟨o,r,l5,w,s⟩:=Tt n [.int .i64 (iC p.1 q.1),.int .i64 (iC p.2 q.2)];have d:=l5.own _ _ c;have e:=l5.own _ _ f;refine CO (Da @Dh @Z0 @Ip.eq_1 @Gc (lK c) (HY c) (lK f) (HY f) @mk2 r (lK d) (HY d) (lK e) (HY e)) ?_;refine kGi func50 (Or_any g _ [iC p.1 q.1,iC p.2 q.2] o (RL.Wh (RS.whole s rfl)) Ma) ?_;rintro x y z ⟨rfl,rfl⟩;refine CO (adG @Dh @Z0 @Ip.eq_1 @Gc (lK d) (HY d) (lK e) (HY e)) ?_;exact⟨rfl,(l1.trans l2).trans l5⟩
def YN(G:GM)(i:Nat):Prop:=∀p,G.es[i]?=Z p->(0<=p.1/\p.1<p.2/\p.2<G.n)/\∀q,0<i->G.es[i-1]?=Z q->Nz q p<0
structure bX (G:GM):Prop where
 n0:0<=G.n
 n1:G.n<=200
 len:G.es.length<=594
 ok:∀i,i<G.es.length->YN G i
theorem ak(U:abw)(v:vV)(G:GM)(h:aai)(hg:GR h v G):AC pG U 16 [v] h fun x h'=>adP (bX G) x/\Le h h':=by
 obtain⟨ev,rfl,C⟩:=hg.ex;refine AC.vF UP ntmps16 results16 fun Q=>?_;obtain⟨V,J,l,aa,-,R⟩:=r8 (n:=G.n) Q C
 generalize h.next=B at*
 have W:=fun g=>C.len g;have c:=R V (Le.refl _);by_cases K:G.n<0
 .refine Sk (bG J @Ii @Ip.eq_1 @Gc c.2.1 K) ?_;exact⟨.f fun q=>by have:=q.n0;omega,l⟩
 by_cases c1:G.n>200
 .refine Sk (rE J @Ii @Ip.eq_1 @Gc c.2.1 K c1) ?_;exact⟨.f fun q=>by have:=q.n1;omega,l⟩
 by_cases c2:(G.es.length:Int)>594
 .refine Sk (rk J @Ii @Di @Ip.eq_1 @Gc c.2.1 c.2.2 W K c1 c2) ?_;grind[adP.f,bX.len]
 refine Sk (rk J @Ii @Di @Ip.eq_1 @Gc c.2.1 c.2.2 W K c1 c2) ?_;refine lIn (fun k fr hh=>∃i:Nat,k=G.es.length-i/\i<=G.es.length/\fr=mkF [(1,pT (Z B)),(20,ev),(21,G.es.length),(22,i)]/\Le V hh/\∀j,j<i->YN G j) ⟨0,rfl,Z6 _,rfl,Le.refl _,NH⟩ ?_;rintro k fr hh S ⟨i,rfl,hi,rfl,a,D⟩;refine Uy ?_;refine Kl.intro (fun X=>?_) (fun hf=>?_)
 rotate_left
 .have ae:G.es.length<=i:=vp hf;refine Uy ?_;exact⟨.t ⟨NH,NH,NH,fun j hj=>D j NH⟩,l.trans a⟩
 have m:i<G.es.length:=acb X;clear X;have d:=CA m;generalize G.es[i]=p at d;have y:=C.le (l.trans a);have ad:=C.addr (k:=.i64) i m;have ld:=y.load d;have⟨h2,h3,L,e3,b,ag,M⟩:=Ut S p;have N:=lK M;have O:=HY M;have LP:=uM M;have fT:=R h3 (a.trans b);have bad:¬YN G i->¬bX G:=fun hn q=>hn (q.ok i m);have u:=(l.trans a).trans b
 generalize hh.next=E at*
 by_cases P:p.1<0
 .simp only[HO,seval,ad,ld,L,e3,Dh,Z0,Ip,Gc,N,O,P];exact⟨.f (bad fun q=>by have:=(q p d).1.1;omega),u⟩
 by_cases d1:p.1>=p.2
 .simp only[HO,seval,ad,ld,L,e3,Dh,Z0,Ip,Gc,N,O,P,d1];exact⟨.f (bad fun q=>by have:=(q p d).1.2.1;omega),u⟩
 by_cases d2:p.2>=G.n
 .simp only[HO,seval,ad,ld,L,e3,Dh,Z0,Ii,Ip,Gc,N,O,fT.2.1,P,d1,d2];exact⟨.f (bad fun q=>by have:=(q p d).1.2.2;omega),u⟩
 simp only[HO,seval,ad,ld,L,e3,Dh,Z0,Ii,Ip,Gc,N,O,fT.2.1,P,d1,d2];by_cases i0:i=0
 .subst i0;have z:((0:Int)<((0:Nat):Int))=False:=eq_false NH;refine gh (fRn 0 10 (JQ 10 [2,8,9] (tA [11,12] .done))) ?_;refine CO (Yb @gt_iff_lt.{0} z (aaa 0 NH)) ?_
  refine lgA NH ⟨0+1,rfl,m,rfl,a.trans b,fun j hj=>?_⟩;have:j=0:=NH;subst this;intro p' T;grind
 .have z:((0:Int)<(i:Int))=True:=eq_true NH;have w:=CA (show i-1<G.es.length by omega);generalize G.es[i-1]'(by omega)=q at w
  have o:aaY .i64 ((i:Int)-1)=((i-1:Nat):Int):=by grind[cT]
  have A:=C.addr (k:=.i64) (i-1) NH;have F:=(y.le b).load w;refine gh (fRn 0 10 (JQ 10 [2,8,9] (tA [11,12] .done))) ?_;simp only[HO,seval,Qg,gt_iff_lt,z,o,Di,Ip,Gc,fT.2.2,A,F,LP];refine kGi func33 (DU U q p h3) ?_;rintro x h4 ai ⟨rfl,r⟩;have H:=R h4 ((a.trans b).trans r);have s:=F;have I:=uM (r.own _ _ M);have s:=((y.le b).le r).load w;by_cases d3:Nz q p>=0
  .refine CO (Pj z o @Di @Ip.eq_1 @Gc H.2.2 A s I d3) ?_;exact⟨.f (bad fun k=>by have:=(k p d).2 q NH w;omega),u.trans r⟩
  .refine CO (rk z o @Di @Ip.eq_1 @Gc H.2.2 A s I d3 (aaa i NH)) ?_;refine lgA NH ⟨i+1,rfl,m,rfl,(a.trans b).trans r,fun j hj=>?_⟩;by_cases e:j=i
   .subst e;intro p' T;grind
   grind
def agd(J:abw)(v:vV)(G:GM)(h:aai)(hg:GR h v G):AC pG J 19 [v] h fun x h'=>adP (bX G) x/\Le h h':=by
 obtain⟨ev,rfl,y⟩:=hg.ex;refine AC.vF apZ ntmps19 results19 fun C=>?_;obtain⟨H,z,b,K,-,L⟩:=r8 (n:=G.n) C y
 generalize h.next=B at*
 have D:=fun g=>y.len g;have a:=L H (Le.refl _);have u:=y.le b;by_cases A:G.n<0
 .refine Sk (bG z @Ii @Ip.eq_1 @Gc a.2.1 A) ?_;exact⟨.f fun q=>by have:=q.n0;omega,b⟩
 by_cases c1:G.n>200
 .refine Sk (rE z @Ii @Ip.eq_1 @Gc a.2.1 A c1) ?_;exact⟨.f fun q=>by have:=q.n1;omega,b⟩
 by_cases c2:(G.es.length:Int)>594
 .refine Sk (rk z @Ii @Di @Ip.eq_1 @Gc a.2.1 a.2.2 D A c1 c2) ?_;exact⟨.f fun q=>by have:=q.len;omega,b⟩
 refine Sk (rk z @Ii @Di @Ip.eq_1 @Gc a.2.1 a.2.2 D A c1 c2) ?_;refine lIn (fun k fr hh=>∃(i:Nat)(last:Int),k=G.es.length-i/\i<=G.es.length/\hh=H/\fr=mkF [(1,pT (Z B)),(3,last),(4,i)]/\
   (∀j,j<i->YN G j)/\((i=0/\last=-1)\/∃q,0<i/\G.es[i-1]?=Z q/\last=q.1*200+q.2)) ⟨0,-1,rfl,Z6 _,rfl,rfl,NH,.inl ⟨rfl,rfl⟩⟩ ?_
 rintro k fr hh-⟨i,last,rfl,hi,rfl,rfl,d,l⟩;refine Sk (IX @Di @Ip.eq_1 @Gc a.2.2 D) ?_;refine Kl.intro (fun I=>?_) (fun hf=>?_)
 rotate_left
 .have M:G.es.length<=i:=vp hf;refine Uy ?_;exact⟨.t ⟨NH,NH,NH,fun j N=>d j NH⟩,b⟩
 have m:i<G.es.length:=acb I;clear I;have c:=CA m;generalize G.es[i]=p at c;have ad:=y.addr (k:=.i64) i m;have l0:=u.l0 c;have l1:=u.l1 c;simp only[Ip]at l0 l1;have bad:¬YN G i->¬bX G:=fun O q=>O (q.ok i m);refine Uy ?_;refine gh (fRn 0 14 .done) ?_;by_cases r:p.1<0
 .simp only[HO,seval,Qg,Di,Dh,Z0,Ip,Gc,a.2.2,ad,l0,l1,r];exact⟨.f (bad fun q=>by have:=(q p c).1.1;omega),b⟩
 by_cases d1:p.2<0
 .simp only[HO,seval,Qg,Di,Dh,Z0,Ip,Gc,a.2.2,ad,l0,l1,r,d1];exact⟨.f (bad fun q=>by have:=(q p c).1;omega),b⟩
 by_cases d2:p.1>=G.n
 .simp only[HO,seval,Qg,Ii,Di,Dh,Z0,Ip,Gc,a.2.1,a.2.2,ad,l0,l1,r,d1,d2];exact⟨.f (bad fun q=>by have:=(q p c).1;omega),b⟩
 by_cases d3:p.2>=G.n
 .simp only[HO,seval,Qg,Ii,Di,Dh,Z0,Ip,Gc,a.2.1,a.2.2,ad,l0,l1,r,d1,d2,d3];exact⟨.f (bad fun q=>by have:=(q p c).1;omega),b⟩
 by_cases d4:p.1>=p.2
 .simp only[HO,seval,Qg,Ii,Di,Dh,Z0,Ip,Gc,a.2.1,a.2.2,ad,l0,l1,r,d1,d2,d3,d4];exact⟨.f (bad fun q=>by have:=(q p c).1;omega),b⟩
 have w1:aaY .i64 (p.1*200)=p.1*200:=cT _ NH NH;have w2:aaY .i64 (p.1*200+p.2)=p.1*200+p.2:=cT _ NH NH;by_cases d5:p.1*200+p.2<=last
 .simp only[HO,seval,Qg,Ii,Di,Dh,Z0,Ip,Gc,a.2.1,a.2.2,ad,l0,l1,r,d1,d2,d3,d4,w1,w2,d5];refine⟨.f (bad fun k=>?_),b⟩;rcases l with⟨rfl,rfl⟩|⟨q,E,s,rfl⟩
  .omega
  .have:=(Hv q p).1 ((k p c).2 q E s);have F:=(d (i-1) NH q s).1;omega
 .simp only[HO,seval,Qg,Ii,Di,Dh,Z0,Ip,Gc,a.2.1,a.2.2,ad,l0,l1,r,d1,d2,d3,d4,w1,w2,d5,aaa i NH];refine lgA NH ⟨i+1,_,rfl,m,rfl,rfl,fun j N=>?_,.inr ⟨p,NH,by simpa using c,rfl⟩⟩;by_cases e:j=i
  .subst e;intro R o;rw[c]at o;injection o with o;subst o;refine⟨⟨NH,NH,NH⟩,fun q P s=>?_⟩;rcases l with⟨rfl,rfl⟩|⟨Q,_,w,rfl⟩
   .omega
   .rw[w]at s;injection s with s;subst s;have F:=(d (j-1) NH Q w).1;rw[Hv];omega
  .exact d j NH
variable {es l:List Pr} {j:Nat} {p:Pr}
def D3(es:xLP):Prop:=∀(i j:Nat) p q,i<j->es[i]?=Z p->es[j]?=Z q->Nz p q<0
theorem bX.q9{G:GM}(r:bX G):D3 G.es:=by
 have step:∀(d i:Nat) p q,G.es[i]?=Z p->G.es[i+(d+1)]?=Z q->Nz p q<0:=by
  intro d
  induction d with
  |zero=>intro i p q b a;have c:=(Ny.1 a).1;exact(r.ok (i+1) c q a).2 p NH hGr
  |succ d f=>intro i p q b a;have c:=(Ny.1 a).1;have e:=CA (show i+(d+1)<G.es.length by omega);have h:=f i p _ b e;have h2:=(r.ok (i+(d+1+1)) c q a).2 _ NH (by rw[show i+(d+1+1)-1=i+(d+1) by omega];exact e);rw[Hv]at*;omega
 intro i j p q g b a;have:=step (j-i-1) i p q b hGr;exact this
theorem D3.uniq(a:D3 es)(hi:es[i]?=Z p)(b:es[j]?=Z p):i=j:=by
 rcases anM i j with h|h|h
 .have:=a i j p p h hi b;grind[eK]
 .exact h
 .have:=a j i p p h b hi;grind[eK]
theorem aw_u64(n:Nat)(h:n<18446744073709551616):aaY .u64 (n:Int)=(n:Int):=by grind[aaY]
theorem Tq(n:Nat)(h:n<18446744073709551616):acV .shr .u64 (n:Int) 1=Z (.int .u64 ((n / 2:Nat):Int)):=by
 have e:((n:Int)).fdiv (2^min 1 IntKind.u64.bits)=((n / 2:Nat):Int):=by rw[show min 1 IntKind.u64.bits=1 from rfl,Int.fdiv_eq_ediv_of_nonneg _ WY];simp
 grind[acV]
def cv3u(h:aai)(x:Int):acX pG h 3 89 x=Z (.int .u64 (aaY .u64 x),h):=by simp[acX,qS15,Ac]
def cvu3(h:aai)(x:Int):acX pG h 89 3 (.int .u64 x)=Z (.int .i64 (aaY .i64 x),h):=by simp[acX,qS15,Ac]
theorem xm(G:abw)(F:FuncId)(fn:Func)(c:Code)(H:Good pG F fn c)(n:∀(p q:Pr)(h:aai),AC pG G F [UI p,UI q] h fun v h'=>v=.int .i64 (Nz p q)/\Le h h')(v:vV)(es:xLP)(p:Pr)(h:aai)(r:PR h v es)(W:es.length<=1000)(ha:D3 es):
  AC pG G 130 [v,UI p,.func (.func F) #[] #[]] h fun x h'=>(∃(i:Nat)(b:Bool),x=.tuple #[i,.bool b]/\(b=tT->es[i]?=Z p)/\(b=fF->p∉es))/\Le h h':=by
 refine AC.vF func130 ntmps130 results130 fun t=>?_;have⟨L,M,l1,w1,u⟩:=Tt t (xM p);have N:=fun g=>r.len g;refine Sk (Yb @Ci M N) ?_
 generalize h.next=B at*
 refine lIn (fun k fr hh=>∃lo hi:Nat,k=hi-lo/\lo<=hi/\hi<=es.length/\fr=mkF [(0,v),(2,.func (.func F) #[] #[]),(4,pT (Z B)),(8,es.length),(9,lo),(10,hi)]/\Le L hh/\
   (∀(k:Nat) q,k<lo->es[k]?=Z q->Nz q p<0)/\∀(k:Nat) q,hi<=k->es[k]?=Z q->¬Nz q p<0) ⟨0,es.length,rfl,Z6 _,qL0 _,rfl,Le.refl _,NH,fun k q s d=>by grind⟩ ?_
 rintro k fr hh O ⟨lo,hi,rfl,P,w,rfl,a,y,A⟩;have I:=uM (a.own _ _ u);have f:=r.le (l1.trans a);refine Uy ?_;refine Kl.intro (fun J=>?_) (fun hf=>?_)
 .have Q:lo<hi:=acb J;clear J;have a1:aaY .i64 ((lo:Int)+(hi:Int))=((lo+hi:Nat):Int):=by grind[cT]
  have a2:=aw_u64 (lo+hi) NH;have R:=Tq (lo+hi) NH;have S:aaY .i64 (((lo+hi) / 2:Nat):Int)=(((lo+hi) / 2:Nat):Int):=cT _ NH NH;have C:(lo+hi) / 2<hi:=NH;have D:lo<=(lo+hi) / 2:=NH;refine Sk (bG a1 @cv3u a2 R @cvu3 S) ?_;generalize (lo+hi) / 2=m at*;have d:=CA (show m<es.length by omega);generalize es[m]'(by omega)=q at d
  have ad:=r.addr (k:=.i64) m NH;have ld:=f.load d;refine gh (fRn 0 6 (JQ 6 [0,4,5] (tA [7] .done))) ?_;simp only[HO,seval,Qg,ad,ld,I];refine VA.intro PJ H (n q p hh) ?_;rintro x h3 T ⟨rfl,l3⟩;have j:=uM ((a.trans l3).own _ _ u);have l:=(f.le l3).load d;by_cases K:Nz q p<0
  .simp only[HO,seval,Qg,ad,l,j,K,aaa m NH];refine lgA NH ⟨m+1,hi,rfl,C,w,rfl,a.trans l3,fun k E s o=>?_,A⟩;by_cases e:k=m
   .grind
   .have:=ha k m E q NH o d;grind[Hv]
  .simp only[HO,seval,Qg,ad,l,j,K];refine lgA NH ⟨lo,m,rfl,D,NH,rfl,a.trans l3,y,fun k E s o=>?_⟩;by_cases e:k=m
   .grind
   .have:=ha m k q E NH d o;grind[Hv]
 have U:hi<=lo:=vp hf;obtain rfl:lo=hi:=NH;clear hf;by_cases c1:lo<es.length
 .have z:((lo:Int)<(es.length:Int))=True:=eq_true NH;have d:=CA c1;generalize es[lo]=q at d;have ad:=r.addr (k:=.i64) lo c1;have ld:=f.load d;refine Uy ?_;refine gh (fRn 0 11 (JQ 11 [4,5,9,10] (tA [12,13,14,15] .done))) ?_;simp only[HO,seval,Qg,z,ad,ld,I];refine VA.intro PJ H (n q p hh) ?_;rintro x h3 T ⟨rfl,l3⟩;have j:=uM ((a.trans l3).own _ _ u);have l:=(f.le l3).load d;simp only[HO,seval,Qg,z,ad,l,j];refine⟨⟨lo,decide (Nz q p=0),rfl,fun e=>?_,fun e=>?_⟩,(l1.trans a).trans l3⟩
  .grind[eK]
  .have V:=of_decide_eq_false e;intro C;have⟨k,s⟩:=vZ.1 C;have X:=(eK p p).2 rfl;rcases anM k lo with h|h|h
   .grind
   .grind
   .have:=ha lo k q p h d s;grind
 .have z:((lo:Int)<(es.length:Int))=False:=eq_false NH;refine Uy ?_;refine gh (fRn 0 11 (JQ 11 [4,5,9,10] (tA [12,13,14,15] .done))) ?_;refine CO z ?_;grind[Le.trans,mem_iff_getElem?,eK]
theorem D3.nodup(a:D3 l):l.Nodup:=by rw[iy,Lm];intro i j hi c b e;have:=a i j _ _ b (CA hi) (CA c);grind[eK]
end
end Go.Fw
