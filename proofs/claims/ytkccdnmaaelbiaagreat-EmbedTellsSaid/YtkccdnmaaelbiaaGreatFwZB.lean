/- A text. -/
import Derived.Test.YtkccdnmaaelbiaaGreatFwDraw
set_option linter.all false
set_option maxRecDepth 99999
set_option maxHeartbeats 9999999
namespace Go.Fw
def tA:List Nat→DT→DT
  |[],t=>t
  |i::l,t=>.fl i (tA l t)
def fRn:Nat→Nat→DT→DT
  |_,0,t=>t
  |a,k+1,t=>.fl a (fRn (a+1) k t)
def JQ(i:Nat)(p:List Nat)(t:DT):DT:=.ch i p t .no
section
variable{P:Program}{h h':aae}
theorem WF.alloc(hw:WF h)(o:fK):WF (h.alloc o):=by
 intro i hi
 by_cases e:i=h.next
 .subst e;exact FD _
 .rw[aae.Ve _ _ _ e]at hi;exact aeE (hw i hi)
theorem WF.put(hw:WF h){id:Nat}(o:fK)(a:id<h.next):WF (h.put id o):=by
 intro i hi;by_cases e:i=id
 .subst e;exact a
 .rw[aae.By _ _ _ _ e]at hi;exact hw i hi
theorem WF.kill(hw:WF h)(id:Nat):WF (h.kill id):=by
 intro i hi;by_cases e:i=id
 .grind[aae.Dg]
 .rw[aae.xJ _ _ _ e]at hi;exact hw i hi
theorem WF.lt(hw:WF h){i:Nat}{o:fK}(a:h.own i=some o):i<h.next:=hw i (by rw[a];simp)
def om(o:fK):(h.alloc o).next=h.next+1:=rfl
theorem Mh(j:Nat)(o:fK):(h.alloc o).own j=if j=h.next then some o else h.own j:=by grind[aae.zT,aae.Ve]
theorem own_put(i j:Nat)(o:fK):(h.put i o).own j=if j=i then some o else h.own j:=by grind[aae.Y3,aae.By]
theorem uU(i j:Nat):(h.kill i).own j=if j=i then none else h.own j:=by grind[aae.Dg,aae.xJ]
theorem YP{id off:Nat}{c:List Value}(a:h.own id=some (.cells c)):h.read ⟨id,off,none⟩=c[off]?:=by grind[aae.read]
structure Le (g h:aae):Prop where
 ext:h.ext=g.ext
 own:∀i o,g.own i=some o->h.own i=some o
theorem Le.refl(h:aae):Le h h:=⟨rfl,fun _ _ h=>h⟩
theorem Le.trans{c h2 h3:aae}(a:Le c h2)(b:Le h2 h3):Le c h3:=⟨b.ext.trans a.ext,fun i o h=>b.own i o (a.own i o h)⟩
theorem Le.put{g:aae}(a:Le g h){id:Nat}(o:fK)(b:g.own id=none):Le g (h.put id o):=⟨a.ext,fun i c hi=>by grind[own_put,Le.own]⟩
theorem Le.kill{g:aae}(a:Le g h){id:Nat}(b:g.own id=none):Le g (h.kill id):=⟨a.ext,fun i c hi=>by grind[uU,Le.own]⟩
theorem Le.next{g:aae}(a:Le g h)(hw:WF h){i:Nat}(hi:h.next<=i):g.own i=none:=by
 cases hg:g.own i with
 |none=>rfl
 |some o=>exact absurd (hw.lt (a.own i o hg)) NH
theorem Le.alloc{g:aae}(a:Le g h)(hw:WF h)(o:fK):Le g (h.alloc o):=⟨a.ext,fun i b hi=>by grind[Mh,Le.next,Le.own]⟩
theorem Le.Qz(h:aae)(id:Nat):Le (h.kill id) h:=⟨rfl,fun i a hi=>by grind[uU]⟩
theorem Le.none{g:aae}(a:Le g h){i:Nat}(hi:h.own i=none):g.own i=none:=by
 cases hg:g.own i<;>grind[Le.own]
theorem Le.read{g:aae}(a:Le g h){ad:Addr}{x:Value}(b:g.read ad=some x):h.read ad=some x:=by grind[aae.read,Le.own,Le.ext]
def abv(v:Value)(k:Nat):Addr:=match v with|.slice (some a) _ _=>Ip a k|_=>default
theorem fA(a:Addr)(n c k:Nat):abv (.slice (some a) n c) k=Ip a k:=rfl
def xO(v:Value)(n:Nat):Prop:=∃a c,v=.slice a n c/\(0<n->a.isSome=true)
structure RS (h:aae) (v:Value) (vs:List Value):Prop where
 sl:xO v vs.length
 get:∀i x,vs[i]?=some x->h.read (abv v i)=some x
theorem RS.le{v:Value}{vs:List Value}(a:RS h v vs)(e:Le h h'):RS h' v vs:=⟨a.sl,fun i x b=>e.read (a.get i x b)⟩
theorem RS.nil(h:aae):RS h (.slice none 0 0) []:=⟨⟨none,0,rfl,Ma⟩,fun i x a=>by simp at a⟩
theorem RS.own{id off n c:Nat}{cs:List Value}(b:h.own id=some (.cells cs))(d:off+n<=cs.length):RS h (.slice (some ⟨id,off,none⟩) n c) ((cs.drop off).take n):=by
 have a:((cs.drop off).take n).length=n:=by simp;omega
 refine⟨⟨_,c,by rw[a],Ma⟩,fun i x e=>?_⟩;grind[fA,Ip.eq_1,YP]
theorem RS.whole{id n c:Nat}{cs:List Value}(a:h.own id=some (.cells cs))(b:cs.length=n):RS h (.slice (some ⟨id,0,none⟩) n c) cs:=by have:=RS.own (c:=c) (off:=0) (n:=n) a NH;grind
theorem RS.len{v:Value}{vs:List Value}(b:RS h v vs){t e:TypeId}(d:P.underlying t=some (.slice e))(h':aae):ahz P h' t v=some (.int .i64 vs.length):=by obtain⟨a,c,rfl,_⟩:=b.sl;simp[ahz,d]
theorem RS.addr{v:Value}{vs:List Value}(b:RS h v vs){t e:TypeId}{d:TypeDesc}(f:P.underlying t=some (.slice e))(hd:P.underlying e=some d)(hs:UA P e=1){k:IntKind}(i:Nat)(hi:i<vs.length):
  abX P t v (.int k i)=some (.pointer (some (abv v i))):=by
 obtain⟨a,c,rfl,hs'⟩:=b.sl;obtain⟨a,rfl⟩:=EP.1 (hs' NH);have g:(i:Int)<(vs.length:Int):=NH;simp[abX,f,g,hd,abv,hs]
theorem Bj{e:TypeId}{d:TypeDesc}(b:P.underlying e=some d)(hd:agS d=false)(a:Addr):acd P h e a=h.read a:=by grind[acd]
theorem RS.load{v:Value}{vs:List Value}(a:RS h v vs){e:TypeId}{d:TypeDesc}(b:P.underlying e=some d)(hd:agS d=false)(i:Nat)(hi:i<vs.length):
  acd P h e (abv v i)=some vs[i]:=by grind[Bj,RS.get]
def RL{α:Type}(R:aae->Value->α->Prop)(h:aae)(v:Value)(xs:List α):Prop:=∃vs:List Value,RS h v vs/\vs.length=xs.length/\∀(i:Nat)(x:α)(u:Value),xs[i]?=some x->vs[i]?=some u->R h u x
def RP(_:aae)(v:Value)(n:Int):Prop:=v=.int .i64 n
def Nn{α:Type}(R:aae->Value->α->Prop):Prop:=∀h h' v x,R h v x->Le h h'->R h' v x
theorem Nn.RP:Nn Fw.RP:=fun _ _ _ _ r _=>r
theorem Nn.RL{α:Type}{R:aae->Value->α->Prop}(s:Nn R):Nn (Fw.RL R):=fun h h' v x ⟨vs,r,a,b⟩ e=>⟨vs,r.le e,a,fun i x u c d=>s h h' u x (b i x u c d) e⟩
section RL
variable{α:Type}{R:aae->Value->α->Prop}{v:Value}{xs:List α}
theorem RL.sl(a:RL R h v xs):xO v xs.length:=by obtain⟨vs,r,b,_⟩:=a;grind[RS.sl]
theorem RL.len(a:RL R h v xs){t e:TypeId}(b:P.underlying t=some (.slice e))(h':aae):ahz P h' t v=some (.int .i64 xs.length):=by obtain⟨vs,r,c,_⟩:=a;grind[RS.len]
theorem RL.addr(a:RL R h v xs){t e:TypeId}{d:TypeDesc}(b:P.underlying t=some (.slice e))(hd:P.underlying e=some d)(hs:UA P e=1){k:IntKind}(i:Nat)(hi:i<xs.length):
  abX P t v (.int k i)=some (.pointer (some (abv v i))):=by
 obtain⟨vs,r,c,_⟩:=a;grind[RS.addr]
theorem RL.load(a:RL R h v xs){e:TypeId}{d:TypeDesc}(b:P.underlying e=some d)(hd:agS d=false)(i:Nat)(hi:i<xs.length):
  ∃u,acd P h e (abv v i)=some u/\R h u xs[i]:=by
 obtain⟨vs,r,f,c⟩:=a;exact⟨_,r.load b hd i NH,c i _ _ (yY hi) (yY NH)⟩
def RL.loadI{xs:RZ}(a:RL RP h v xs){e:TypeId}{d:TypeDesc}(b:P.underlying e=some d)(hd:agS d=false)(i:Nat)(hi:i<xs.length):
  acd P h e (abv v i)=some (.int .i64 xs[i]):=by obtain⟨u,c,h2⟩:=a.load b hd i hi;rw[c,h2]
theorem RL.nil:RL R h (.slice none 0 0) []:=⟨[],RS.nil h,rfl,fun i x u a=>by simp at a⟩
end RL
def RL.Wh{v:Value}{xs:RZ}(r:RS h v (xs.map (Value.int .i64))):RL RP h v xs:=⟨_,r,Ma,fun i x u b a=>by rw[F3,b]at a;simp at a;exact a.symm⟩
theorem RL.cellsI{v:Value}{xs:RZ}(r:RL RP h v xs):RS h v (xs.map (Value.int .i64)):=by
 obtain⟨vs,r,a,b⟩:=r;have:vs=xs.map (Value.int .i64):=by
  apply qQ
  .simp[a]
  .intro i c h2;have d:i<xs.length:=NH;have:=b i xs[i] vs[i] (yY d) (yY c);grind[RP]
 grind
theorem Tw(k:Nat)(a:k<4611686018427387904):adA .i64 ((k:Int)+1)=((k+1:Nat):Int):=by grind[ie]
theorem qF{id:Nat}{c:List Value}(b:h.own id=some (.cells c)):∀(n off:Nat),off+n<=c.length->agK h ⟨id,off,none⟩ n=some ((c.drop off).take n)
 |0,off,_=>by simp[agK]
 |n+1,off,d=>by have a:off<c.length:=NH;have e:=qF b n (off+1) NH;simp only[agK,YP b,yY a,Ip];grind[List.drop_eq_getElem_cons]
theorem Wx{t:TypeId}{d:TypeDesc}{k id off:Nat}{c:List Value}(a:P.underlying t=some d)(hd:agS d=true)(hs:UA P t=k)(b:h.own id=some (.cells c))(e:off+k<=c.length):
  acd P h t ⟨id,off,none⟩=some (.agg ((c.drop off).take k).toArray):=by grind[acd,qF]
theorem Fq{t:TypeId}{d:TypeDesc}{id off:Nat}{c:List Value}(a:P.underlying t=some d)(hd:agS d=false)(b:h.own id=some (.cells c)):acd P h t ⟨id,off,none⟩=c[off]?:=by grind[Bj,YP]
def adQ(x:Int):adA .u8 x=x%256:=by rw[Qt];simp[IntKind.wrap,IntKind.bits,IntKind.signed]
theorem cT(x:Int)(a:0<=x)(h2:x<=4611686018427387904):adA .i64 x=x:=ie x NH NH
theorem xO.one{v:Value}{n:Nat}(b:xO v n):v.oneCell'=true:=by obtain⟨a,c,rfl,_⟩:=b;rfl
theorem RL.one{α:Type}{R:aae->Value->α->Prop}{v:Value}{xs:List α}(a:RL R h v xs):v.oneCell'=true:=a.sl.one
theorem RL.le{α:Type}{R:aae->Value->α->Prop}(s:Nn R){v:Value}{xs:List α}(a:RL R h v xs)(e:Le h h'):RL R h' v xs:=(Nn.RL s) _ _ _ _ a e
def aBox3{a b c:Value}(ha:a.oneCell'=true)(hb:b.oneCell'=true)(d:c.oneCell'=true):zF h (.agg #[a,b,c])=some (.pointer (some ⟨h.next,0,none⟩),h.alloc (.cells [a,b,c])):=by simp[zF,IF,Value.cells,ha,hb,d]
theorem QB{t:TypeId}{d:TypeDesc}{id off:Nat}{c:List Value}{x:Value}(b:P.underlying t=some d)(hs:UA P t=1)(e:h.own id=some (.cells c))(a:off<c.length)(f:x.cells=#[x])(g:x.oneCell'=true):
  acs P h t (.pointer (some ⟨id,off,none⟩)) x=some (h.put id (.cells (c.set off x))):=by grind[acs,putCells]
structure CS (k:Nat) (h:aae) (v:Value) (n:Nat) (cs:List Value):Prop where
 sl:xO v n
 len:cs.length=n*k
 get:∀i x,cs[i]?=some x->h.read (abv v i)=some x
theorem CS.le{k n:Nat}{v:Value}{cs:List Value}(c:CS k h v n cs)(e:Le h h'):CS k h' v n cs:=⟨c.sl,c.len,fun i x a=>e.read (c.get i x a)⟩
def RS.cs{v:Value}{vs:List Value}(r:RS h v vs):CS 1 h v vs.length vs:=⟨r.sl,Ma,r.get⟩
theorem CS.rs{v:Value}{n:Nat}{vs:List Value}(r:CS 1 h v n vs):RS h v vs:=by
 have:vs.length=n:=by grind[CS.len]
 subst this;exact⟨r.sl,r.get⟩
theorem CS.nil(k:Nat)(h:aae):CS k h (.slice none 0 0) 0 []:=⟨⟨none,0,rfl,Ma⟩,Ma,fun i x a=>by simp at a⟩
theorem ua:∀(cs:List Value)(a:Addr),(∀i x,cs[i]?=some x->h.read (Ip a i)=some x)->agK h a cs.length=some cs
 |[],_,_=>rfl
 |c::cs,a,hg=>by
  have b:=hg 0 c rfl;have d:=ua cs (Ip a 1) fun i x e=>by have:=hg (i+1) x pw;grind[Ip]
  grind[agK,aae.read,Ip]
theorem CS.agK{k n:Nat}{a:Addr}{cap:Nat}{cs:List Value}(c:CS k h (.slice (some a) n cap) n cs):agK h a (n*k)=some cs:=by rw[<-c.len];exact ua cs a fun i x b=>c.get i x b
theorem CS.src{k n:Nat}{v:Value}{cs:List Value}{e:TypeId}(b:UA P e=k)(c:CS k h v n cs):agM P h e v=some (n,cs):=by
 obtain⟨a,cap,rfl,hs⟩:=c.sl;cases a with
 |none=>
  have d:n=0:=by cases n<;>grind
  subst d;have:cs=[]:=by simpa using c.len
  grind[agM]
 |some a=>simp[agM,b,c.agK]
theorem CS.first{k n:Nat}{v:Value}{cs:List Value}(c:CS k h v n cs)(e:n≠0)(m:Nat)(b:m<=n):ai9 h k m v=some (cs.take (m*k)):=by
 obtain⟨a,cap,rfl,hs⟩:=c.sl;obtain⟨a,rfl⟩:=EP.1 (hs NH);have hle:m*k<=n*k:=vu _ b;have d:(cs.take (m*k)).length=m*k:=by grind[CS.len]
 simp only[ai9,b,if_true]
 conv=>lhs;rw[<-d]
 refine ua _ _ fun i x f=>c.get i x ?_;grind
def blk:Value->Option Nat
 |.slice (some ⟨b,_,none⟩) _ _=>some b
 |_=>none
def Z2(g:aae)(v:Value):Prop:=∀b,blk v=some b->g.own b=none
def GS(k:Nat)(h:aae)(v:Value)(n:Nat)(cs:List Value):Prop:=
 cs.length=n*k/\((v=.slice none 0 0/\n=0)\/
  ∃id c cap,v=.slice (some ⟨id,0,none⟩) n cap/\h.own id=some (.cells c)/\c.take (n*k)=cs/\(cap=UNK+k\/cap=n/\n<1000000000000))
theorem GS.nil(k:Nat)(h:aae):GS k h (.slice none 0 0) 0 []:=⟨Ma,.inl ⟨rfl,rfl⟩⟩
theorem GS.full{k n id:Nat}{c:List Value}(a:h.own id=some (.cells c))(b:c.length=n*k)(d:n<1000000000000):GS k h (.slice (some ⟨id,0,none⟩) n n) n c:=⟨b,.inr ⟨id,c,n,rfl,a,pw,.inr ⟨rfl,d⟩⟩⟩
theorem GS.le{k n:Nat}{v:Value}{cs:List Value}(g:GS k h v n cs)(e:Le h h'):GS k h' v n cs:=by
 obtain⟨a,g|⟨id,c,cap,rfl,b,r⟩⟩:=g
 .exact⟨a,.inl g⟩
 .exact⟨a,.inr ⟨id,c,cap,rfl,e.own _ _ b,r⟩⟩
theorem GS.cs{k n:Nat}{v:Value}{cs:List Value}(g:GS k h v n cs):CS k h v n cs:=by
 obtain⟨a,⟨rfl,rfl⟩|⟨id,c,cap,rfl,b,rfl,d⟩⟩:=g
 .grind[CS.nil]
 .refine⟨⟨_,cap,rfl,Ma⟩,a,fun i x e=>?_⟩;grind[fA,Ip.eq_1,YP]
def apT(P:Program)(t xt:TypeId)(k:Nat):Bool:=
  match P.underlying t,P.underlying xt with
  |some (.slice e),some dx=>match ag2 P e with
    |some z=>z.cells.size==UA P e&&z.cells.toList.all (·.oneCell')&&(P.underlying e).isSome&&ahf dx&&UA P e==k&&decide (P.bytesOf e<=100000)
    |none=>false
  |_,_=>false
theorem GS.append{t xt:TypeId}{k n n':Nat}{v x:Value}{cs news:List Value}(d:apT P t xt k=true)(g:GS k h v n cs)(hs:∀e,UA P e=k->agM P h e x=some (n',news))(F:cs.all (·.oneCell')=true)(G:news.all (·.oneCell')=true)(o:news.length=n'*k)(hb:n+n'<=1000000000):
  ∃v' h',adg P h t xt v x=some (v',h')/\GS k h' v' (n+n') (cs++news)/\(∀f,WF h->Le f h->Z2 f v->Le f h'/\Z2 f v'):=by
 unfold apT at d;split at d
 .rename_i e dx i j;split at d
  .rename_i z l;simp only[rY,beq_iff_eq,vg]at d;obtain⟨⟨⟨⟨⟨p,q⟩,hd⟩,r⟩,H⟩,s⟩:=d;have hs:=hs e H;have I:(n+n')*P.bytesOf e<=140737488355328:=Tn (aiD hb s) WY;have J:n+n'<=140737488355328:=NH;have m:z.cells.size=UA P e/\z.cells.toList.all (·.oneCell')/\(P.underlying e).isSome/\ahf dx/\news.all (·.oneCell')/\(n+n')*P.bytesOf e<=140737488355328/\n+n'<=140737488355328/\news.length=n'*UA P e:=
    ⟨p,q,hd,r,G,I,J,pw⟩
   have hlen:(cs++news).length=(n+n')*k:=by rw[eR,g.1,o,WS]
   by_cases K:n'=0
   .subst K;have u:news=[]:=pw;subst u;refine⟨v,h,?_,by simpa using g,fun f _ e a=>⟨e,a⟩⟩;obtain⟨L,⟨rfl,rfl⟩|⟨id,c,cap,rfl,C,d,D⟩⟩:=g
    .simp[adg,i,j,l,hs,m]
    .have:n<=cap:=by grind[UNK]
     simp only[adg,i,j,l,hs];grind
   .obtain⟨L,⟨rfl,rfl⟩|⟨id,c,cap,rfl,C,w,D⟩⟩:=g
    .have y:cs=[]:=pw;subst y
     refine⟨_,_,?_,⟨hlen,.inr ⟨h.next,news,UNK+k,by rfl,aae.zT _ _,pw,.inl rfl⟩⟩,fun f hw e a=>⟨e.alloc hw _,?_⟩⟩
     .have A:¬UNK<=0:=by decide
      have E:¬(0+n'<=0):=NH;simp only[adg,i,j,l,hs];grind[GB]
     .intro b hb;grind[blk,Le.next]
    .have M:Fw.agK h ⟨id,0,none⟩ (n*k)=some cs:=by
      have:n*k<=c.length:=pw;rw[qF C (n*k) 0 NH];simp[w]
     rcases D with rfl|⟨rfl,B⟩
     .refine⟨_,(h.kill id).alloc (.cells (cs++news)),?_,⟨hlen,.inr ⟨h.next,cs++news,UNK+k,by rfl,by exact aae.zT _ _,pw,.inl rfl⟩⟩,fun f hw e a=>⟨(e.kill (a _ rfl)).alloc (hw.kill _) _,?_⟩⟩
      .simp only[adg,i,j,l,hs];grind
      .intro b hb;grind[blk,Le.next]
     .have A:¬UNK<=cap:=M1.2 (V9 B WY)
      refine⟨_,_,?_,⟨hlen,.inr ⟨h.next,cs++news,UNK+k,by rfl,aae.zT _ _,pw,.inl rfl⟩⟩,fun f hw e a=>⟨e.alloc hw _,?_⟩⟩
      .simp only[adg,i,j,l,hs];grind[GB]
      .intro b hb;grind[blk,Le.next]
  .cases d
 .cases d
theorem all_rep{v:Value}(a:v.oneCell'=true)(n:Nat):(List.replicate n v).all (·.oneCell')=true:=pw
theorem Ye{t e:TypeId}{z:Value}{d:TypeDesc}(h:aae)(a:P.underlying t=some (.slice e))(b:ag2 P e=some z)(c:z.cells=#[z])(hf:flat z=true)(f:z.oneCell'=true)(hs:UA P e=1)(hd:P.underlying e=some d)(hb:(P.bytesOf e).ble 1000=true)(n:Nat)(g:n<=1000000):
  afD P h t (.int .i64 n) (.int .i64 n)=some (.slice (some ⟨h.next,0,none⟩) n n,h.alloc (.cells (List.replicate n z))):=by
 have i:(P.bytesOf e:Int)*n<=140737488355328:=by have:P.bytesOf e*n<=1000*1000000:=aiD (qL209 hb) g;grind
 have j:(n:Int)<=140737488355328:=NH;simp[afD,a,b,c,hf,hs,hd,i,j,IF,HW,f]
theorem IQ{t e:TypeId}{d:TypeDesc}{k n id off dl dc:Nat}{c cs:List Value}{v:Value}(i:P.underlying t=some (.slice e))(hd:P.underlying e=some d)(j:UA P e=k)(s:h.own id=some (.cells c))(g:CS k h v n cs)(l:cs.all (·.oneCell')=true)(m:Nat)(o:min n dl=m)(p:m≠0)(hb:off+m*k<=c.length):
  aiW P h t (.slice (some ⟨id,off,none⟩) dl dc) v=some (.int .i64 m,h.put id (.cells (c.take off++cs.take (m*k)++c.drop (off+m*k)))):=by
 have q:n≠0:=NH;have b:m<=n:=NH;have hlen:aiN v=some n:=by obtain⟨a,cap,rfl,_⟩:=g.sl;rfl
 have hf:=g.first q m b
 have hle:m*k<=n*k:=vu _ b;have u:(cs.take (m*k)).length=m*k:=by grind[CS.len]
 have r:(cs.take (m*k)).all (·.oneCell')=true:=pw;have f:off+(cs.take (m*k)).length<=c.length/\(cs.take (m*k)).all (·.oneCell')/\m≠0:=⟨pw,r,p⟩;simp only[aiW,i,hlen,hd,TN,if_true,o,j];grind[IW]
def zv{t e:TypeId}{d:TypeDesc}{dl dc n:Nat}{a:Option Addr}{v:Value}(b:P.underlying t=some (.slice e))(hd:P.underlying e=some d)(c:UA P e≠0)(f:xO v n)(g:min n dl=0):
  aiW P h t (.slice a dl dc) v=some (.int .i64 (0:Nat),h):=by
 obtain⟨a,cap,rfl,_⟩:=f;simp[aiW,b,aiN,hd,g,c]
def yj{t e:TypeId}{d:TypeDesc}{n cap:Nat}{a:Option Addr}(b:P.underlying t=some (.slice e))(hd:P.underlying e=some d)(c:UA P e=1){k:IntKind}(i:Nat)(hi:i<=n)(l:n<cap\/i<n)(f:n<=cap)(hs:cap<UNK):
  afp P t (.slice a n cap) (some (.int k i)) none none=some (.slice (a.map (fun a=>Ip a i)) (n-i) (cap-i)):=by
 have g:¬UNK<=cap:=NH;have h2:(0:Int)<=i:=NH;have h3:(i:Int)<=n:=NH;have j:¬(cap=i):=NH;simp[afp,b,g,f,hd,afB,af4,h2,h3,j,c]
def pn{t e:TypeId}{d:TypeDesc}{n cap:Nat}{a:Addr}(b:P.underlying t=some (.slice e))(hd:P.underlying e=some d){k:IntKind}(i:Nat)(hi:i<=cap)(c:n<=cap)(hs:cap<UNK):
  afp P t (.slice (some a) n cap) none (some (.int k i)) none=some (.slice (some a) i cap):=by
 have f:¬UNK<=cap:=NH;have h2:(0:Int)<=i:=NH;have h3:(i:Int)<=cap:=NH;simp[afp,b,f,c,hd,afB,af4,h2,h3,Ip]
theorem CS.own{k id off n cap:Nat}{c:List Value}(b:h.own id=some (.cells c))(d:off+n*k<=c.length):CS k h (.slice (some ⟨id,off,none⟩) n cap) n ((c.drop off).take (n*k)):=by
 have a:((c.drop off).take (n*k)).length=n*k:=by simp;omega
 refine⟨⟨_,cap,rfl,Ma⟩,a,fun i x e=>?_⟩;grind[fA,Ip.eq_1,YP]
def Wc{t e:TypeId}{d:TypeDesc}{a:Addr}{n cap:Nat}(b:P.underlying t=some (.slice e))(hd:P.underlying e=some d)(hs:UA P e=1){k:IntKind}(i:Nat)(hi:i<n):
  abX P t (.slice (some a) n cap) (.int k i)=some (.pointer (some (Ip a i))):=by
 have c:(i:Int)<(n:Int):=NH;simp[abX,b,c,hd,hs]
def Jg{t e:TypeId}{a:Option Addr}{n cap:Nat}(b:P.underlying t=some (.slice e))(h:aae):ahz P h t (.slice a n cap)=some (.int .i64 n):=by simp[ahz,b]
theorem aG{v v':Value}(hf:∀f,WF h->Le f h->Z2 f v->Le f h'/\Z2 f v')(hw:WF h){a:Nat}{o:fK}(g:h.own a=some o)(hb:blk v≠some a):h'.own a=some o/\blk v'≠some a:=by
 cases j:blk v with
 |none=>obtain⟨d,h2⟩:=hf h hw (Le.refl h) (fun b hb=>by grind);exact⟨d.own _ _ g,fun e=>by have:=h2 a e;grind⟩
 |some b=>
  have i:a≠b:=pw;obtain⟨d,h2⟩:=hf (h.kill b) hw (Le.Qz h b) (fun c k=>by grind[aae.Dg]);have:(h.kill b).own a=some o:=by grind[aae.xJ]
  exact⟨d.own _ _ this,fun e=>by have h3:=h2 a e;grind⟩
theorem GS.push{t:TypeId}{n id:Nat}{v x:Value}{cs:List Value}(b:apT P t t 1=true)(g:GS 1 h v n cs)(c:h.own id=some (.cells [x]))(a:cs.all (·.oneCell')=true)(d:x.oneCell'=true)(hb:n+1<=1000000000):
  ∃v' h',adg P h t t v (.slice (some ⟨id,0,none⟩) 1 1)=some (v',h')/\GS 1 h' v' (n+1) (cs++[x])/\(∀f,WF h->Le f h->Z2 f v->Le f h'/\Z2 f v'):=
 g.append b (fun e i=>(CS.own (k:=1) (off:=0) (n:=1) (cap:=1) c Ma).src i) a (by simp[d]) Ma hb
theorem RL.load'{α:Type}{R:aae->Value->α->Prop}{g:aae}{v:Value}{xs:List α}(a:RL R g v xs){e:TypeId}{d:TypeDesc}(b:P.underlying e=some d)(hd:agS d=false)(i:Nat)(hi:i<xs.length):
  ∃u,(∀h,Le g h->acd P h e (abv v i)=some u)/\R g u xs[i]:=by grind[RL.load,Bj,Le.read]
def rem(l:II)(h:aae):aae:=l.foldr (fun i g=>g.kill i) h
theorem vL(l:II):(rem l h).ext=h.ext:=by
 induction l with
 |nil=>rfl
 |cons a l b=>exact b
theorem DC(l:II)(i:Nat):(rem l h).own i=if i∈l then none else h.own i:=by
 induction l<;>grind[rem,uU]
theorem Th{l:II}{i:Nat}{o:fK}:(rem l h).own i=some o↔h.own i=some o/\i∉l:=by grind[DC]
theorem Sa(l:II)(h:aae):Le (rem l h) h:=⟨(vL l).symm,fun i o hi=>(Th.1 hi).1⟩
theorem Le.rem{l l':II}(a:h'.ext=h.ext)(b:∀i o,h.own i=some o->i∉l->h'.own i=some o/\i∉l'):Le (Fw.rem l h) (Fw.rem l' h'):=⟨by grind[vL],fun i o hi=>by grind[Th]⟩
theorem Le.iV{g:aae}{l:II}(e:Le g h)(a:∀i∈l,g.own i=Option.none):Le g (Fw.rem l h):=⟨by grind[vL,Le.ext],fun i o hi=>Th.2 ⟨e.own _ _ hi,fun b=>by grind⟩⟩
def Le.Xm{l:II}(e:Le h h'):Le (Fw.rem l h) (Fw.rem l h'):=Le.rem e.ext fun i o hi a=>⟨e.own _ _ hi,a⟩
def bl(v:Value):II:=(blk v).toList
theorem Zr{v:Value}{i:Nat}:i∈bl v↔blk v=some i:=by simp[bl]
def GS.Fi{k n:Nat}{v:Value}{cs:List Value}{l:II}(g:GS k h v n cs)(hb:∀b,blk v=some b->b∉l):GS k (rem l h) v n cs:=by
 obtain⟨a,g|⟨id,c,cap,rfl,d,r⟩⟩:=g
 .exact⟨a,.inl g⟩
 .exact⟨a,.inr ⟨id,c,cap,rfl,Th.2 ⟨d,hb id rfl⟩,r⟩⟩
theorem GS.Sy{k n:Nat}{v:Value}{cs:List Value}(g:GS k h v n cs){b:Nat}(hb:blk v=some b):h.own b≠none:=by
 obtain⟨a,⟨rfl,_⟩|⟨id,c,cap,rfl,d,r⟩⟩:=g
 .cases hb
 .injection hb with hb;grind
def cu(v:Value):Prop:=v=.slice none 0 0\/∃a n c,v=.slice a n c/\UNK<=c
theorem uZ{t xt:TypeId}{v x v':Value}(e:adg P h t xt v x=some (v',h'))(d:cu v):cu v':=by
 have key:∀base len cap,v=.slice base len cap->(v=.slice none 0 0\/UNK<=cap)->cu v':=by
  intro base len cap f g;subst f;unfold adg at e;split at e
  .rename_i heq;injection heq with i h2 h3;subst i h2 h3;split at e
   .split at e
    .split at e
     .grind
     .split at e
      .split at e
       .split at e
        .split at e
         .split at e
          .injection e with e;injection e with b j;subst b;exact .inr ⟨_,_,_,rfl,by assumption⟩
          .cases e
         .cases e
        .cases e
       .cases e
      .split at e
       .grind
       .split at e
        .split at e
         .injection e with e;injection e with b j;subst b;exact .inr ⟨_,_,_,rfl,aeF _ _⟩
         .cases e
        .cases e
    .cases e
   .cases e
  .cases e
 rcases d with rfl|⟨a,n,c,rfl,k⟩
 all_goals grind
theorem Ub(a:Addr)(i j:Nat):Ip (Ip a i) j=Ip a (i+j):=by grind[Ip]
theorem RS.part{a:Addr}{n cap cap' lo hi:Nat}{vs:List Value}(r:RS h (.slice (some a) n cap) vs)(d:lo<=hi)(h2:hi<=n)(e:vs.length=n):RS h (.slice (some (Ip a lo)) (hi-lo) cap') ((vs.drop lo).take (hi-lo)):=by
 have c:((vs.drop lo).take (hi-lo)).length=hi-lo:=by simp;omega
 refine⟨⟨_,cap',by rw[c],Ma⟩,fun i x b=>?_⟩;rw[fA,Ub];rw[mg]at b;split at b
 .rw[im]at b;have:=r.get (lo+i) x b;grind[fA]
 .cases b
def RS.none'{a:Option Addr}{n cap cap':Nat}{a':Option Addr}(b:n=0):RS h (.slice a' n cap') []:=by subst b;exact⟨⟨a',cap',rfl,Ma⟩,fun i x c=>by simp at c⟩
theorem Hx{n:Nat}{v:Value}{cs:List Value}{t e:TypeId}{d:TypeDesc}(i:P.underlying t=some (.slice e))(hd:P.underlying e=some d)(hs:UA P e=1)(g:GS 1 h v n cs)(p:n≠0)(lo hi:Nat)(l:lo<=hi)(h2:hi<=n):
  ∃v',afp P t v (some (.int .i64 lo)) (some (.int .i64 hi)) none=some v'/\RS h v' ((cs.drop lo).take (hi-lo)):=by
 have gc:=g.cs.rs;obtain⟨q,⟨rfl,rfl⟩|⟨id,c,cap,rfl,r,s,m⟩⟩:=g
 .grind
 .have n1:(0:Int)<=lo:=NH;have j:(lo:Int)<=hi:=NH;have n3:(hi:Int)<=n:=NH;have k:(0:Int)<=hi:=NH;have b:cs.length=n:=pw;rcases m with rfl|⟨rfl,o⟩
  .refine⟨.slice (some (Ip ⟨id,0,none⟩ lo)) (hi-lo) (UNK+1),?_,gc.part l h2 b⟩;simp[afp,i,hd,hs,afB,af4,n1,j,n3,k]
  .have f:¬UNK<=cap:=M1.2 (V9 o WY)
   refine⟨.slice (if cap=lo then some ⟨id,0,none⟩else some (Ip ⟨id,0,none⟩ lo)) (hi-lo) (cap-lo),?_,?_⟩
   .simp[afp,i,hd,hs,afB,af4,n1,j,n3,k,f]
   .split
    .have:hi-lo=0:=NH;rw[this];simp only[age];exact RS.none' (a:=none) (cap:=0) rfl
    grind[RS.part]
def GT(k:Nat)(h:aae)(v:Value)(n:Nat)(cs:List Value):Prop:=
 cs.length=n*k/\((v=.slice none 0 0/\n=0)\/
  ∃id c cap,v=.slice (some ⟨id,0,none⟩) n cap/\h.own id=some (.cells c)/\c.take (n*k)=cs/\(cap=UNK+k\/(n<=cap/\cap<1000000000000/\cap*k<=c.length)))
theorem GS.gt{k n:Nat}{v:Value}{cs:List Value}(g:GS k h v n cs):GT k h v n cs:=by
 obtain⟨a,g|⟨id,c,cap,rfl,b,d,r⟩⟩:=g
 .exact⟨a,.inl g⟩
 .refine⟨a,.inr ⟨id,c,cap,rfl,b,d,?_⟩⟩;grind
theorem GT.le{k n:Nat}{v:Value}{cs:List Value}(g:GT k h v n cs)(e:Le h h'):GT k h' v n cs:=by
 obtain⟨a,g|⟨id,c,cap,rfl,b,r⟩⟩:=g
 .exact⟨a,.inl g⟩
 .exact⟨a,.inr ⟨id,c,cap,rfl,e.own _ _ b,r⟩⟩
theorem GT.kept{k n:Nat}{v:Value}{cs:List Value}(g:GT k h v n cs)(d:∀b o,blk v=some b->h.own b=some o->h'.own b=some o):GT k h' v n cs:=by
 obtain⟨a,q|⟨i,c,cap,rfl,e,f⟩⟩:=g
 .exact⟨a,.inl q⟩
 .exact⟨a,.inr ⟨i,c,cap,rfl,d i _ rfl e,f⟩⟩
theorem GT.put{k n:Nat}{v:Value}{cs:List Value}(g:GT k h v n cs){id:Nat}(o:fK)(hb:blk v≠some id):GT k (h.put id o) v n cs:=g.kept fun b a c d=>by grind[aae.By]
theorem GT.cs{k n:Nat}{v:Value}{cs:List Value}(g:GT k h v n cs):CS k h v n cs:=by
 obtain⟨a,⟨rfl,rfl⟩|⟨id,c,cap,rfl,b,rfl,d⟩⟩:=g
 .grind[CS.nil]
 .refine⟨⟨_,cap,rfl,Ma⟩,a,fun i x e=>?_⟩;grind[fA,Ip.eq_1,YP]
theorem GT.Sy{k n:Nat}{v:Value}{cs:List Value}(g:GT k h v n cs){b:Nat}(hb:blk v=some b):∃c,h.own b=some (.cells c):=by
 obtain⟨a,⟨rfl,rfl⟩|⟨i,c,cap,rfl,d,e⟩⟩:=g
 .cases hb
 .injection hb with hb;grind
theorem GT.append{t xt:TypeId}{k n n':Nat}{v x:Value}{cs news:List Value}(m:apT P t xt k=true)(g:GT k h v n cs)(hs:∀e,UA P e=k->agM P h e x=some (n',news))(o:cs.all (·.oneCell')=true)(A:news.all (·.oneCell')=true)(d:news.length=n'*k)(hb:n+n'<=1000000000):
  ∃v' h',adg P h t xt v x=some (v',h')/\GT k h' v' (n+n') (cs++news)/\(∀f,WF h->Le f h->Z2 f v->Le f h'/\Z2 f v'):=by
 obtain⟨r,⟨rfl,rfl⟩|⟨id,c,cap,rfl,w,i,Q⟩⟩:=g
 .have B:cs=[]:=by simpa using r
  subst B;obtain⟨v',h',C,D,E⟩:=GS.append m (GS.nil k h) hs o A d hb;exact⟨v',h',C,D.gt,E⟩
 .rcases Q with rfl|⟨s,p,q⟩
  .obtain⟨v',h',C,D,E⟩:=GS.append m ⟨r,.inr ⟨id,c,_,rfl,w,i,.inl rfl⟩⟩ hs o A d hb;exact⟨v',h',C,D.gt,E⟩
  .unfold apT at m;split at m
   .rename_i e dx F G;split at m
    .rename_i z H;simp only[rY,beq_iff_eq,vg]at m;obtain⟨⟨⟨⟨⟨I,J⟩,hd⟩,K⟩,y⟩,L⟩:=m;have hs:=hs e y;have R:(n+n')*P.bytesOf e<=140737488355328:=Tn (aiD hb L) WY;have S:n+n'<=140737488355328:=NH;have j:z.cells.size=UA P e/\z.cells.toList.all (·.oneCell')/\(P.underlying e).isSome/\ahf dx/\news.all (·.oneCell')/\(n+n')*P.bytesOf e<=140737488355328/\n+n'<=140737488355328/\news.length=n'*UA P e:=
      ⟨I,J,hd,K,A,R,S,by rw[y];exact d⟩
     have hlen:(cs++news).length=(n+n')*k:=by rw[eR,r,d,WS]
     have u:¬UNK<=cap:=M1.2 (V9 p WY);have M:Fw.agK h ⟨id,0,none⟩ (n*k)=some cs:=by
      have:n*k<=c.length:=by have:=r;rw[<-i,iB]at this;omega
      rw[qF w (n*k) 0 NH];simp[i]
     by_cases N:n'=0
     .subst N;have O:news=[]:=by simpa using d
      subst O;refine⟨_,h,?_,⟨by simpa using r,.inr ⟨id,c,cap,rfl,w,by simpa using i,.inr ⟨s,p,q⟩⟩⟩,fun f _ e a=>⟨e,a⟩⟩;simp only[adg,F,G,H,hs];rw[AE j,AE trivial,AE s];rfl
     .by_cases hf:n+n'<=cap
      .have l:n*k+news.length<=c.length:=by rw[d,<-WS];exact Tn (vu _ hf) q
       refine⟨.slice (some ⟨id,0,none⟩) (n+n') cap,h.put id (.cells (putCells c (n*k) news)),?_,⟨hlen,.inr ⟨id,_,cap,rfl,aae.Y3 _ _ _,?_,.inr ⟨hf,p,by rw[aha];exact q⟩⟩⟩,fun f _ e a=>⟨e.put _ (a _ rfl),a⟩⟩
       .simp only[adg,F,G,H,hs];rw[AE j,aal N,aal u,AE hf];simp only[w,y,Gc,l,if_true]
       .rw[IW _ _ _ l];rw[Bc (by simp[d];rw[WS];omega)];rw[HV (by simp[d];rw[WS];omega),i]
      .refine⟨_,_,?_,⟨hlen,.inr ⟨h.next,cs++news,UNK+k,rfl,aae.zT _ _,by rw[<-hlen,Dl],.inl rfl⟩⟩,fun f hw e a=>⟨e.alloc hw _,?_⟩⟩
       .simp only[adg,F,G,H,hs];rw[AE j,aal N,aal u,aal hf];simp only[GB,y,M,o,if_true]
       .intro b hb;simp[blk]at hb;subst hb;exact e.next hw (qL0 _)
    .cases m
   .cases m
theorem GT.push{t:TypeId}{n id:Nat}{v x:Value}{cs:List Value}(b:apT P t t 1=true)(g:GT 1 h v n cs)(c:h.own id=some (.cells [x]))(a:cs.all (·.oneCell')=true)(i:x.oneCell'=true)(hb:n+1<=1000000000):
  ∃v' h',adg P h t t v (.slice (some ⟨id,0,none⟩) 1 1)=some (v',h')/\GT 1 h' v' (n+1) (cs++[x])/\(∀f,WF h->Le f h->Z2 f v->Le f h'/\Z2 f v'):=
 GT.append b g (fun e d=>CS.src d (CS.own (k:=1) (off:=0) (n:=1) (cap:=1) c Ma)) a pw Ma hb
theorem GT.cut{k n:Nat}{v:Value}{cs:List Value}{t e:TypeId}{d:TypeDesc}(i:P.underlying t=some (.slice e))(hd:P.underlying e=some d)(hs:UA P e=k)(g:GT k h v n cs)(m:Nat)(p:m<=n):
  ∃v',afp P t v none (some (.int .i64 m)) none=some v'/\GT k h v' m (cs.take (m*k))/\blk v'=blk v:=by
 obtain⟨u,⟨rfl,rfl⟩|⟨id,c,cap,rfl,o,w,q⟩⟩:=g
 .obtain rfl:m=0:=NH;refine⟨.slice none 0 0,?_,⟨Ma,.inl ⟨rfl,rfl⟩⟩,rfl⟩;have:¬UNK<=0:=by decide
  simp[afp,i,hd,this,afB,af4]
 .have h2:(0:Int)<=m:=NH;have r:m*k<=n*k:=vu _ p;have a:cs.take (m*k)=c.take (m*k):=pw;have b:(cs.take (m*k)).length=m*k:=pw;rcases q with rfl|⟨j,f,l⟩
  .have h3:(m:Int)<=n:=NH;refine⟨.slice (some ⟨id,0,none⟩) m (UNK+k),?_,⟨b,.inr ⟨id,c,_,rfl,o,a.symm,.inl rfl⟩⟩,rfl⟩;simp[afp,i,hd,hs,afB,af4,Ip,h2,h3]
  .have s:¬UNK<=cap:=M1.2 (V9 f WY);have h3:(m:Int)<=cap:=NH;refine⟨.slice (some ⟨id,0,none⟩) m cap,?_,⟨b,.inr ⟨id,c,_,rfl,o,a.symm,.inr ⟨NH,f,l⟩⟩⟩,rfl⟩;simp[afp,i,s,j,hd,afB,af4,h2,h3,Ip]
def Lj{α:Type}(R:aae->Value->α->Prop)(h:aae)(v:Value)(xs:List α):Prop:=∃us:List Value,GS 1 h v us.length us/\us.length=xs.length/\us.all (·.oneCell')=true/\∀(i:Nat) x u,xs[i]?=some x->us[i]?=some u->R (rem (bl v) h) u x
section
variable{α:Type}{R:aae->Value->α->Prop}{v:Value}{xs:List α}
theorem Lj.rl(s:Nn R)(g:Lj R h v xs):RL R h v xs:=by obtain⟨us,a,b,_,c⟩:=g;exact⟨us,a.cs.rs,b,fun i x u d e=>s _ _ _ _ (c i x u d e) (Sa _ _)⟩
theorem Lj.le(s:Nn R)(g:Lj R h v xs)(e:Le h h'):Lj R h' v xs:=by obtain⟨us,a,b,c,d⟩:=g;exact⟨us,a.le e,b,c,fun i x u f j=>s _ _ _ _ (d i x u f j) e.Xm⟩
theorem Lj.nil(R:aae->Value->α->Prop)(h:aae):Lj R h (.slice none 0 0) []:=⟨[],GS.nil 1 h,rfl,rfl,fun i x u a=>by simp at a⟩
theorem Lj.empty(R:aae->Value->α->Prop){id:Nat}(a:h.own id=some (.cells [])):Lj R h (.slice (some ⟨id,0,none⟩) 0 0) []:=⟨[],GS.full a rfl WY,rfl,rfl,fun i x u b=>by simp at b⟩
theorem Lj.push(s:Nn R){t:TypeId}(n:apT P t t 1=true)(g:Lj R h v xs)(c:WF h){u:Value}{x:α}(p:R (rem (bl v) h) u x)(u1:u.oneCell'=true)(F:xs.length<=100000000):
  ∃k v' a,h.alloc (.cells [u])=k/\adg P k t t v (.slice (some ⟨h.next,0,none⟩) 1 1)=some (v',a)/\Lj R a v' (xs++[x])/\Le h k/\WF k/\
   (∀f,Le f h->Z2 f v->Le f a/\Z2 f v')/\(∀b o,h.own b=some o->blk v≠some b->a.own b=some o/\blk v'≠some b):=by
 obtain⟨us,q,m,r,z⟩:=g;have l4:Le h (h.alloc (.cells [u])):=(Le.refl h).alloc c _;have l:WF (h.alloc (.cells [u])):=c.alloc _
 have A:(h.alloc (.cells [u])).own h.next=some (.cells [u]):=aae.zT _ _
 obtain⟨v',a,B,G,hf⟩:=GS.push (P:=P) n (q.le l4) A r u1 NH;refine⟨_,v',a,rfl,B,⟨us++[u],?_,by simp[m],pw,fun i y w d hw=>?_⟩,l4,l,fun f C af=>hf f l (C.trans l4) af,fun b o D hb=>aG hf l (l4.own _ _ D) hb⟩
 .grind
 .have j:Z2 (rem (bl v) h) v:=fun b hb=>by grind[DC,Zr]
  obtain⟨l5,E⟩:=hf _ l ((Sa (bl v) h).trans l4) j;have le:Le (rem (bl v) h) (rem (bl v') a):=l5.iV fun i hi=>E i (Zr.1 hi);by_cases hi:i<us.length
  .rw[kc hi]at hw;rw[kc NH]at d;exact s _ _ _ _ (z i y w d hw) le
  .have e:i=us.length:=pw;subst e;rw[Og NH]at hw;rw[Og NH,m]at d;simp at hw d;subst hw d;exact s _ _ _ _ p le
def RMR(l:II)(R:aae->Value->α->Prop):aae->Value->α->Prop:=fun h u x=>R (rem l h) u x
def RMR.stays(s:Nn R)(l:II):Nn (RMR l R):=fun _ _ _ _ r e=>s _ _ _ _ r e.Xm
theorem xk(l l':II)(h:aae):Le (rem l (rem l' h)) (rem l' (rem l h)):=⟨by simp[vL],fun i o hi=>by grind[Th]⟩
def Lj.remI(s:Nn R){l:II}(g:Lj R (rem l h) v xs):Lj (RMR l R) h v xs:=by obtain⟨us,a,b,c,d⟩:=g;exact⟨us,a.le (Sa _ _),b,c,fun i x u e f=>s _ _ _ _ (d i x u e f) (xk _ _ _)⟩
def Lj.remE(s:Nn R){l:II}(g:Lj (RMR l R) h v xs)(hb:∀b,blk v=some b->b∉l):Lj R (rem l h) v xs:=by obtain⟨us,a,c,d,e⟩:=g;exact⟨us,a.Fi hb,c,d,fun i x u f j=>s _ _ _ _ (e i x u f j) (xk _ _ _)⟩
theorem Lj.mG(s:Nn R){l:II}{t:TypeId}(e:apT P t t 1=true)(g:Lj R (rem l h) v xs)(d:WF h){u:Value}{x:α}(i:R (rem l (rem (bl v) h)) u x)(u1:u.oneCell'=true)(j:xs.length<=100000000)(hb:∀b,blk v=some b->b∉l)(w:∀b∈l,h.own b≠none):
  ∃a v' c,h.alloc (.cells [u])=a/\adg P a t t v (.slice (some ⟨h.next,0,none⟩) 1 1)=some (v',c)/\Lj R (rem l c) v' (xs++[x])/\Le h a/\WF a/\
   (∀f,Le f h->Z2 f v->Le f c/\Z2 f v')/\(∀b o,h.own b=some o->blk v≠some b->c.own b=some o/\blk v'≠some b):=by
 obtain⟨a,v',c,k,m,n,l4,p,q,r⟩:=Lj.push (RMR.stays s l) e (g.remI s) d (u:=u) (x:=x) i u1 j;refine⟨a,v',c,k,m,n.remE s fun b sZ y=>?_,l4,p,q,r⟩;cases z:h.own b<;>grind
end
end
def kA:=@cond_true
def kB:=@cond_false
def kC:=@Trie.YO
def kD:=@Dk
def kE:=@List.append_eq
def kF:=@WZ
def kG:=@Ah
def kH:=@aa3
def kI:=@Bn
def kJ:=@LN
def kK:=@beq_self_eq_true
def kL:=@List.filter_nil
def kM:=@Tj
def kN:=@List.contains_cons
def kO:=@List.contains_nil
def kS1:=XC @ahI (XC @fst_mk (XC @snd_mk (XC @Mc (XC @VK_ret (XC @aeN (XC @VK_seq (XC @SC (XC @qS (XC @aeO (XC @L5 (XC @Fe (XC @Wi (XC @T4 (XC @KN_nil (XC @KN_seq (XC @KN_blk (XC @sn (XC @Vy (XC @Y6 (XC @Kw (XC @zz (XC @ach (XC @J1 (XC @KE_ret (XC @mK (XC @KO_nil (XC @cj (XC @bE (XC @Q2 (XC @HA (XC @RW (XC @Px (XC @re (XC @akp (XC @EV (XC @NA (XC @xz (XC @afx (XC @Nat.zero_ne_one (XC @Bool.not_true (XC @ams (XC @adQ (XC @Bool.true_beq (XC @Bool.false_beq (XC @beq_true (XC @beq_false (XC @decide_true (XC @decide_false (XC @Bool.not_not (XC @sD (XC @Bool.true_and (XC @Bool.and_false (@Bool.false_and)))))))))))))))))))))))))))))))))))))))))))))))))))))
def kJ1:=XC @ahI (XC @fst_mk (XC @snd_mk (XC @Mc (XC @VK_ret (XC @aeN (XC @VK_seq (XC @SC (XC @qS (XC @aeO (XC @L5 (XC @Fe (XC @Wi (XC @T4 (XC @KN_nil (XC @KN_blk (XC @sn (XC @Vy (XC @Y6 (XC @Kw (XC @zz (XC @ach (XC @J1 (XC @KE_ret (XC @mK (XC @KO_nil (XC @cj (XC @bE (XC @Q2 (XC @HA (XC @RW (XC @Px (XC @re (XC @akp (XC @EV (XC @NA (XC @xz (XC @afx (XC @Nat.zero_ne_one (XC @Bool.not_true (XC @ams (XC @adQ (XC @Bool.true_beq (XC @Bool.false_beq (XC @beq_true (XC @beq_false (XC @decide_true (XC @decide_false (XC @Bool.not_not (XC @sD (XC @Bool.true_and (XC @Bool.and_false (@Bool.false_and))))))))))))))))))))))))))))))))))))))))))))))))))))
def kD1:=XC @fRn.eq_1 (XC @fRn.eq_2 (XC @tA.eq_1 (XC @tA.eq_2 (XC @JQ.eq_1 (XC @Bool.or_self (XC @akd (XC @KD_done (XC @KD_no (XC @KD_fl (XC @KF1_some (XC @KF2_true (XC @T7 (XC @KF3_some (XC @KF4_some (XC @KD_ch (XC @KG1_some (XC @KG2_true (XC @YY (XC @KG3_true (XC @fw (XC @KG4_some (XC @KG5_some (XC @Holds_eq (XC @H1_some (XC @H2_true (XC @H2_false (XC @H3_some (XC @HD_some (XC @HD_none (XC @Bool.or_false (XC @Bool.false_or (XC @Bool.true_or (XC @Bool.or_true (XC @true_and (@and_true)))))))))))))))))))))))))))))))))))
def kS2:=XC @cond_true.{1} (XC @cond_false.{1} (XC @Trie.YO (XC @Dk.{0} (XC @List.append_eq.{0} (XC @WZ.{0} (XC @Ah.{0} (XC @aa3.{0} (XC @Bn.{0} (XC @LN.{0,0} (XC @beq_self_eq_true.{0} (XC @aif.eq_1 (XC @aih.eq_1 (XC @agU.eq_1 (XC @Zm.eq_1 (XC @afN.eq_1 (XC @aeA.eq_1 (XC @aeA.eq_2 (XC @aeA.eq_3 (XC @aeA.eq_4 (XC @ahv.eq_1 (XC @ahv.eq_2 (XC @ahR.eq_1 (XC @ahR.eq_2 (XC @ahS.eq_1 (XC @ahS.eq_2 (XC @putDst.eq_1 (XC @putDst.eq_2 (XC @flat.eq_1 (XC @flat.eq_2 (XC @flat.eq_3 (XC @flat.eq_4 (XC @flat.eq_5 (XC @flat.eq_6 (XC @flat.eq_7 (XC @flat.eq_8 (XC @flat.eq_9 (XC @agT.eq_1 (XC @agT.eq_2 (XC @agT.eq_3 (XC @agT.eq_4 (XC @agT.eq_5 (XC @agT.eq_6 (XC @agT.eq_7 (XC @agT.eq_8 (XC @mM.eq_1 (XC @ahb.eq_1 (XC @ahb.eq_2 (XC @aix.eq_1 (XC @aix.eq_2 (XC @aix.eq_3 (XC @aix.eq_4 (XC @aix.eq_5 (XC @aix.eq_6 (XC @aix.eq_7 (XC @ahG.eq_1 (XC @ahG.eq_2 (XC @ahG.eq_3 (XC @ahG.eq_4 (XC @ahG.eq_5 (XC @ahG.eq_6 (XC @ahG.eq_7 (XC @ahG.eq_8 (XC @ahG.eq_9 (XC @ahG.eq_10 (XC @ahG.eq_11 (XC @ahG.eq_12 (XC @ahG.eq_13 (XC @ahG.eq_14 (XC @ahG.eq_15 (XC @ahG.eq_16 (XC @aUn.eq_1 (XC @aUn.eq_2 (XC @aUn.eq_3 (XC @ahk.eq_1 (XC @ahk.eq_2 (XC @ahk.eq_3 (XC @akV.eq_1 (XC @akV.eq_2 (XC @akV.eq_3 (XC @G8.eq_1 (XC @aht.eq_1 (XC @ag9.eq_1 (XC @ag9.eq_2 (XC @ahY.eq_1 (XC @ahY.eq_2 (XC @mkF.eq_1 (XC @mkF.eq_2 (XC @Yx.eq_1 (XC @ahy.eq_1 (XC @ahy.eq_2 (@agG.eq_1)))))))))))))))))))))))))))))))))))))))))))))))))))))))))))))))))))))))))))))))))))))))))))
def HO:=XC @kS1 @kS2
def Qg:=XC @kD1 (XC @afI.eq_1 (XC @afI.eq_2 (XC @List.filter_nil.{0} (XC @Tj.{0} (XC @List.contains_cons.{0} @List.contains_nil.{0})))))
def qj:=XC @kJ1 @kS2
theorem hAs{p:Prop}(h:p:=by simp only[Fj,HO,Nat.reduceLT,↓reduceIte,Nat.reduceEqDiff,reduceCtorEq];simp):p:=h
theorem PJ{p:Prop}(h:p:=by simp only[HO,Nat.reduceLT,↓reduceIte,Nat.reduceEqDiff,reduceCtorEq]<;>rfl):p:=h
theorem sbL{fr:aap}:Sub .leaf fr:=fun k v h=>by simp[Trie.get]at h
theorem sbS{t fr:aap}{k:Nat}{v:Value}(h:Sub t fr)(e:fr.get k=some v):Sub (t.set k v) fr:=fun k' v' h'=>by
  rw[Trie.YO]at h'
  by_cases hk:k'=k
  ·subst hk;rw[if_pos rfl]at h';injection h' with h';subst h';exact e
  ·rw[if_neg hk]at h';exact h k' v' h'
theorem lgA{I:Nat→aap→aae→Prop}{k k':Nat}{Q:Exit→aap→aae→Prop}{fr fr':aap}{h:aae}(hk:k'<k)(hi:I k' fr' h)(hl:Sub fr' fr:=by(repeat refine sbS ?_ (by simp only[HO,Nat.reduceLT,↓reduceIte,Nat.reduceEqDiff,reduceCtorEq]<;>simp));exact sbL):adP I k Q .normal fr h:=⟨k',hk,_,hl,hi⟩
theorem lIn{P:Program}{W0:LA}{N:Nat}{fr fr':aap}{h:aae}{c:Code}{ks:List Kt}{R:Exit→aap→aae→Prop}(I:Nat→aap→aae→Prop){k0:Nat}(h0:I k0 fr' h)(hr:∀k fr h,WF h→I k fr h→VK P W0 N c [] (adP I k (KE P W0 N R ks)) fr h)(hl:Sub fr' fr:=by(repeat refine sbS ?_ (by simp only[HO,Nat.reduceLT,↓reduceIte,Nat.reduceEqDiff,reduceCtorEq]<;>simp));exact sbL):aab P W0 N c ks R fr h:=.loop I k0 _ hl h0 fun k fr h hi=>ud.wf fun hw=>VC.sound (hr k fr h hw hi)
theorem Uy{p q:Prop}(x:q)(e:p=q:=by simp only[HO,Nat.reduceLT,↓reduceIte,Nat.reduceEqDiff,reduceCtorEq];rfl):p:=e.mpr x
theorem Sk{f p q:Prop}(F:f)(x:q)(e:f→p=q:=by intro k;simp only[HO,Nat.reduceLT,↓reduceIte,Nat.reduceEqDiff,reduceCtorEq,k];rfl):p:=(e F).mpr x
theorem CO{f p q:Prop}(F:f)(x:q)(e:f→p=q:=by intro k;simp only[HO,Nat.reduceLT,↓reduceIte,Nat.reduceEqDiff,reduceCtorEq,Nat.reduceBEq,Nat.reduceAdd,Qg,k];rfl):p:=(e F).mpr x
theorem kCi {P:Program} {W0:LA} {N:Nat} {ops:Array Oper} {fr:aap} {h:aae} {ks:List Kt} {R:Exit→aap→aae→Prop} {o:Oper} {l:List Oper} {g:FuncId} {args:List Value} {fn:Func} {Rc:Value→aae→Prop} (hg:P.funcs[g]?=some fn) (ha:AC P W0 g args h Rc)
    (hk:∀v h',WF h'→Rc v h'→Kp P W0 N ops ks R l h' (putDst N fr o.dst v)) (hc:agG fr o=some (g,args):=by simp only[HO,Nat.reduceLT,↓reduceIte,Nat.reduceEqDiff,reduceCtorEq]<;>rfl) (h2:fn.body.isSome=true:=by rfl) (h3:(fn.name== "runtime.NumGoroutine")=false:=by decide):TC P W0 N ops ks R o l fr h:=
  .intro hc ⟨hg,(Option.some_get h2).symm,h3⟩ ha hk
theorem kGi {P:Program} {W0:LA} {N:Nat} {ops:Array Oper} {fr:aap} {h:aae} {ks:List Kt} {R:Exit→aap→aae→Prop} {o:Oper} {t:DT} {pend:List Nat} {g:FuncId} {args:List Value} {fn:Func} {Rc:Value→aae→Prop} (hg:P.funcs[g]?=some fn) (ha:AC P W0 g args h Rc)
    (hk:∀v h',WF h'→Rc v h'→KG5 P W0 N ops ks R t pend h' (putDst N fr o.dst v)) (hc:agG fr o=some (g,args):=by simp only[HO,Nat.reduceLT,↓reduceIte,Nat.reduceEqDiff,reduceCtorEq]<;>rfl) (h2:fn.body.isSome=true:=by rfl) (h3:(fn.name== "runtime.NumGoroutine")=false:=by decide):VA P W0 N ops ks R t pend fr h o:=
  .intro hc ⟨hg,(Option.some_get h2).symm,h3⟩ ha hk
def Br:=XC @me.eq_1 (XC @ahZ.eq_1 @ahZ.eq_2)
theorem AC.vE{P:Program}{W0:LA}{h:aae}{f:FuncId}{args:List Value}{fn:Func}{c:Code}{R:Value→aae→Prop}(hg:Good P f fn c){n:Nat}(hn:fn.ntmps=n){rs:Array ResultVar}(hrs:fn.results=rs)(hc:WF h→VK P W0 n c [] (akV P rs.toList R) (me args) h)(hlen:args.length≤n:=by simp):AC P W0 f args h R:=AC.vc hg hn hrs hlen hc
end Go.Fw
