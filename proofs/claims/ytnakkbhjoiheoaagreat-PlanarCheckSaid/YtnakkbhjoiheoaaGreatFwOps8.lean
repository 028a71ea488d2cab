/- A text. -/
import Derived.Test.YtnakkbhjoiheoaaGreatFwOps6
set_option linter.all false
set_option maxRecDepth 99999
set_option maxHeartbeats 9999999
open Option renaming some→Z,none→Y
open Bool renaming true→tT,false→fF
open Go.Value renaming slice→sL,pointer→pT
open Go renaming Value→vV
namespace Go.Fw
section
variable{W0:LA}{m:abd}{h:aai}{w:World}
def ac4(P:Program)(a:TypeId)(x:vV):Bool:=
  match P.underlying a,x with
  |some (.array len e),.agg xs=>match P.underlying e,aa9 xs.toList with
    |some (.int _),Z _=>UA P e==1&&xs.size==len
    |_,_=>fF
  |_,_=>fF
def adC(P:Program)(a:TypeId)(key:vV):List (vV×vV)->Nat->Option (Option (Nat×vV))
  |[],_=>Z Y
  |(k,v)::r,i=>match aEq P a key k with
    |some tT=>Z (Z (i,v))
    |some fF=>adC P a key r (i+1)
    |none=>Y
def adH(P:Program)(h:aai)(t:TypeId)(x i:vV)(ok:Bool):Option vV:=
 match P.underlying t,x with
 |some (.map b c),.map (Z r)=>
  if ac4 P b i then
   match h.own r,acd P c with
   |some (.map es),Z a=>
    match adC P b i es 0 with
    |some (Z (_,v))=>Z (bif ok then .tuple #[v,.bool tT]else v)
    |some Y=>if flat a then Z (bif ok then .tuple #[a,.bool fF]else a)else Y
    |none=>Y
   |_,_=>Y
  else Y
 |_,_=>Y
def aea(P:Program)(h:aai)(t:TypeId)(x i v:vV):Option aai:=
 match P.underlying t,x with
 |some (.map a _),.map (Z r)=>
  if ac4 P a i then
   match h.own r with
   |some (.map es)=>
    match adC P a i es 0 with
    |some (Z (j,_))=>Z (h.put r (.map (es.set j (i,v))))
    |some Y=>Z (h.put r (.map (es++[(i,v)])))
    |none=>Y
   |_=>Y
  else Y
 |_,_=>Y
theorem DM{n:Nat}{m:abd}:∀{l l':xLV}{a:List (IntKind×Int)},AK n m l l'->aa9 l=Z a->l'=l
 |[],l',a,h,_=>by have:l'=[]:=Yi (by rw[<-h.1];rfl);rw[this]
 |v::l,[],a,h,ha=>by grind[AK]
 |v::l,v'::l',a,h,ha=>by
  have b:VR n m v v':=h.2 0 v v' rfl rfl;have c:AK n m l l':=by simpa using h.drop 1
  cases v<;>simp only[aa9]at ha<;>try cases ha
  split at ha
  .rename_i r d;have:=b.Ja;subst this;rw[DM c d]
  .cases ha
theorem SX{P:Program}{b:TypeId}{x:vV}(c:ac4 P b x=tT):
  ∃len e k xs a,P.underlying b=Z (.array len e)/\x=.agg xs/\P.underlying e=Z (.int k)/\aa9 xs.toList=Z a/\UA P e=1/\xs.size=len:=by
 unfold ac4 at c;grind
theorem VR.agg_inv'{n:Nat}{m:abd}{xs:Array vV}{v':vV}(h:VR n m (.agg xs) v'):∃a,v'=.agg a/\AK n m xs.toList a.toList:=by
 cases h with
 |flat hf=>simp[Fw.flat]at hf
 |agg ha h=>exact⟨_,rfl,hGr,fun i v v' e e'=>h i v v' (by simpa using e) hGr⟩
theorem CW{P:Program}{a:TypeId}{x x':vV}{n:Nat}{m:abd}(b:ac4 P a x=tT)(c:VR n m x x'):x'=x:=by grind[SX,VR.agg_inv',DM,Array.toList_inj]
def z7{P:Program}(f:Nat->Sem (ForInStep PUnit)):∀(n s:Nat)(w:World),(∀i w,s<=i->i<s+n->(f i).run P w=.ok (.yield PUnit.unit) w)->(forIn (m:=Sem) (List.range' s n) PUnit.unit fun i _=>f i).run P w=.ok PUnit.unit w
 |0,s,w,_=>by simp
 |n+1,s,w,hf=>by rw[qL208];simp only[List.forIn_cons,Sem.run_bind,hf s w (qL0 _) NH,Result.andThen_ok];exact z7 f n (s+1) w fun i w a h2=>hf i w NH NH
theorem pD:∀{l:xLV}{a:List (IntKind×Int)},aa9 l=Z a->∀i,i<l.length->∃k z,l[i]?=Z (.int k z)
 |[],_,_,i,hi=>absurd hi Ma
 |v::l,a,ha,i,hi=>by
  cases v<;>simp only[aa9]at ha<;>try cases ha
  split at ha
  .rename_i k z _ r b;cases i with
   |zero=>grind
   |succ i=>simpa using pD b i hGr
  .cases ha
theorem mo{P:Program}{g:TypeId}{x:vV}(l:ac4 P g x=tT)(b:Bool)(n:Nat)(w:World):(Instr.checkKey b (n+2) g x).run P w=.ok () w:=by
 obtain⟨len,e,k,xs,a,o,rfl,c,ha,hs,p⟩:=SX l;unfold Instr.checkKey;rw[Sem.run_bind,run_underlying o];simp only[Result.andThen_ok,qL167,Std.Legacy.Range.size];rw[Sem.run_bind,z7 (P:=P) _ _ 0 w fun i w q h2=>?_]
 .simp
 .have d:i<xs.toList.length:=by simp;omega
  obtain⟨j,z,hi⟩:=pD ha i d;have f:∀w,(part e xs i).run P w=.ok (.int j z) w:=fun w=>by have:xs[i]?=Z (.int j z):=hGr;simp[part,Rk c,ab8,this]
  simp only[Sem.run_bind,IT c,hs,zd,f,BD c,Result.andThen_ok,Sem.run_pure]
theorem aa0{P:Program}{n:Nat}{m:abd}{c:TypeId}{key:vV}(b:VR n m key key):∀(es:List (vV×vV))(E:List MapEntry)(i:Nat)(w:World),AK n m (es.map (·.1)) (E.map (·.key))->AK n m (es.map (·.2)) (E.map (·.val))->∀r,adC P c key es i=Z r->
  (r=Y/\(Instr.findAsking c key E i).run P w=.ok Y w)\/∃j v v',r=Z (j,v)/\(Instr.findAsking c key E i).run P w=.ok (Z (j,v')) w/\VR n m v v'/\i<=j/\∃f k2,(es[j-i]?).map (·.1)=Z f/\(E[j-i]?).map (·.key)=Z k2/\VR n m f k2/\aEq P c key f=Z tT
 |[],E,i,w,g,k,r,e=>by
  have:E=[]:=by have:=g.1;grind
  subst this;simp[adC]at e;subst e;exact .inl ⟨rfl,by simp[Instr.findAsking]⟩
 |(a,v)::es,[],i,w,g,k,r,e=>by grind[AK]
 |(a,v)::es,d::E,i,w,g,k,r,e=>by
  have l:VR n m a d.key:=g.2 0 _ _ rfl rfl;have h2:VR n m v d.val:=k.2 0 _ _ rfl rfl;have o:AK n m (es.map (·.1)) (E.map (·.key)):=by simpa using g.drop 1
  have p:AK n m (es.map (·.2)) (E.map (·.val)):=by simpa using k.drop 1
  simp only[adC]at e;split at e
  .rename_i ha;injection e with e;subst e;have:=jN P c key d.key (Et b l ha) w;refine .inr ⟨i,v,d.val,rfl,?_,h2,qL0 _,a,d.key,Ma,Ma,l,ha⟩;unfold Instr.findAsking;grind[Go.Sem.run_bind,Go.Result.andThen_ok,Go.Sem.run_pure]
  .rename_i ha;have:=jN P c key d.key (Et b l ha) w;have hs:(Instr.findAsking c key (d::E) i).run P w=(Instr.findAsking c key E (i+1)).run P w:=by
    conv=>lhs;unfold Instr.findAsking
    grind[Go.Sem.run_bind,Go.Result.andThen_ok]
   rcases aa0 b es E (i+1) w o p r e with⟨q,s⟩|⟨j,u,u',q,s,t,y,f,k2,z,A,x⟩
   .grind
   .refine .inr ⟨j,u,u',q,hs.trans s,t,NH,f,k2,?_,?_,x⟩
    all_goals grind
  .cases e
theorem aa2{P:Program}{b:TypeId}{key:vV}(c:ac4 P b key=tT)(E:List MapEntry)(w:World):(Instr.findKey b key E).run P w=(Instr.findAsking b key E).run P w:=by
 obtain⟨len,e,k,xs,a,d,rfl,f,ha,hs,g⟩:=SX c;unfold Instr.findKey;rw[Sem.run_bind,run_underlying d];simp only[Result.andThen_ok];cases E with
 |nil=>simp[Instr.findNow,Instr.findAsking]
 |cons i E=>simp[Instr.findNow,Instr.sameNow]
theorem qK{n:Nat}{m:abd}:∀{l:xLV}{a:List (IntKind×Int)},aa9 l=Z a->AK n m l l
 |[],_,_=>.nil _ _
 |v::l,a,ha=>by
  cases v<;>simp only[aa9]at ha<;>try cases ha
  split at ha
  .rename_i r b;exact .cons (.flat rfl) (qK b)
  .cases ha
theorem Wd{P:Program}{a:TypeId}{x:vV}{n:Nat}{m:abd}(b:ac4 P a x=tT):VR n m x x:=by grind[SX,VR.uk,qK]
theorem agi{P:Program}(R:Rel W0 m h w){t:TypeId}{x i x' f v:vV}{ok:Bool}(l:VR h.next m x x')(hi:VR h.next m i f)(e:adH P h t x i ok=Z v):
  ∃v',(Instr.lookup t x' f ok).run P w=.ok v' w/\VR h.next m v v':=by
 unfold adH at e;split at e
 .rename_i n p r s;split at e
  .rename_i a;split at e
   .rename_i es g y z;have:=CW a hi;subst this;cases l with
    |flat hf=>grind[flat]
    |map C=>
     obtain⟨E,clock,_,A,h2,h3⟩:=R.mD (P:=P) y
     have c:(Instr.lookup t (.map (Z (m r).blk)) f ok).run P w=((do
       let(v,o) <-match<-Instr.findAsking n f E.toList with
        |some (_,v)=>pure (v,tT)
        |none=>pure (<-zeroValue p,fF)
       pure (if ok then .tuple #[v,.bool o]else v):Sem vV)).run P w:=by
      unfold Instr.lookup;simp only[Sem.run_bind,run_underlying s,Result.andThen_ok,A,Sem.run_pure];grind[mo,Go.Result.andThen_ok,aa2]
     split at e
     .rename_i j u hf;injection e with e;subst e;rcases aa0 (Wd a) es E.toList 0 w h2 h3 _ hf with⟨q,_⟩|⟨B,u1,u',b,D,k,_⟩
      .cases q
      .injection b with b;simp only[si]at b;obtain⟨rfl,rfl⟩:=b
       refine⟨if ok then .tuple #[u',.bool tT]else u',?_,?_⟩
       .grind[Go.Sem.run_bind,Go.Result.andThen_ok,Go.Sem.run_pure]
       .cases ok
        .exact k
        .exact .qY (.cons k (.cons (.flat rfl) (.nil _ _)))
     .rename_i hf;split at e
      .rename_i d;injection e with e;subst e;rcases aa0 (Wd a) es E.toList 0 w h2 h3 _ hf with⟨_,q⟩|⟨B,u1,u',b,_⟩
       .refine⟨if ok then .tuple #[g,.bool fF]else g,?_,?_⟩
        .rw[c];simp only[Sem.run_bind,q,Result.andThen_ok,Sem.run_pure,rn z]
        .cases ok
         .exact .flat d
         .exact .qY (.cons (.flat d) (.cons (.flat rfl) (.nil _ _)))
       .cases b
      .cases e
     .cases e
   .cases e
  .cases e
 .cases e
theorem wN:∀{l l':xLV}{a:List (IntKind×Int)},aa9 l=Z a->aa9 l'=Z a->l=l'
 |[],[],_,_,_=>rfl
 |[],v::l',a,h,h'=>by
  simp only[aa9,aex]at h;subst h
  cases v<;>simp only[aa9]at h'<;>try cases h'
  grind
 |v::l,[],a,h,h'=>by
  simp only[aa9,aex]at h';subst h'
  cases v<;>simp only[aa9]at h<;>try cases h
  grind
 |v::l,v'::l',a,h,h'=>by
  cases v<;>simp only[aa9]at h<;>try cases h
  cases v'<;>simp only[aa9]at h'<;>try cases h'
  split at h
  .rename_i r c;split at h'
   .rename_i f b;injection h with h;injection h' with h';subst h;injection h' with d h2;injection d with h3 e;subst h2 h3 e;rw[wN c b]
   .cases h'
  .cases h
theorem fI{P:Program}{c:TypeId}{key b:vV}(d:ac4 P c key=tT)(e:aEq P c key b=Z tT):b=key:=by
 obtain⟨len,el,k,xs,a,f,rfl,g,ha,hs,i⟩:=SX d
 cases b<;>simp only[aEq,f]at e<;>try cases e
 grind[wN,Array.toList_inj]
theorem tK:∀{l:xLV}{a:List (IntKind×Int)},aa9 l=Z a->∀n,((l.zip l).all fun(x,y)=>Instr.sameBits n x y)=tT
 |[],_,_,_=>rfl
 |v::l,a,ha,n=>by
  cases v<;>simp only[aa9]at ha<;>try cases ha
  split at ha
  .rename_i k z _ r b;have:=tK b n;have c:Instr.sameBits n (.int k z) (.int k z)=tT:=by cases n<;>simp[Instr.sameBits]
   grind[List.zip_cons_cons]
  .cases ha
theorem uG{P:Program}{b:TypeId}{key:vV}(c:ac4 P b key=tT)(w:World):(Instr.keyThatStays key key).run P w=.ok key w:=by
 obtain⟨len,el,k,xs,a,d,rfl,e,ha,hs,f⟩:=SX c;have:Instr.sameBits 10000 (.agg xs) (.agg xs)=tT:=by have:=tK ha 9999;show(xs.size==xs.size&&_)=tT;grind
 unfold Instr.keyThatStays;rw[IE this];simp
theorem jy{P:Program}(R:Rel W0 m h w){t:TypeId}{x i v x' f v':vV}{h':aai}(l:VR h.next m x x')(hi:VR h.next m i f)(n:VR h.next m v v')(e:aea P h t x i v=Z h'):
  ∃w',(Instr.mapUpdate t x' f v').run P w=.ok () w'/\Rel W0 m h' w'/\h'.next=h.next:=by
 unfold aea at e;split at e
 .rename_i G H r g;split at e
  .rename_i a;split at e
   .rename_i es c;have:=CW a hi;subst this;cases l with
    |flat hf=>grind[flat]
    |map I=>
     obtain⟨E,clock,hb,k,h2,h3⟩:=R.mD (P:=P) c;split at e
     .rename_i j u hf;injection e with e;subst e;rcases aa0 (Wd a) es E.toList 0 w h2 h3 _ hf with⟨q,_⟩|⟨o,u1,u',b,J,K,_,L,k2,p,s,y,z⟩
      .cases q
      .injection b with b;simp only[si]at b;obtain⟨rfl,rfl⟩:=b;rw[qL238]at p s;obtain rfl:=fI a z;obtain rfl:=CW a y;have A:j<es.length:=by
        cases M:es[j]?<;>grind
       have hlen:E.toList.length=es.length:=by have:=h2.1;grind
       have B:j<E.size:=hGr;have C:((E[j]?).map (·.key)).getD k2=k2:=hGr;refine⟨_,?_,R.HF (E':=E.modify j fun d=>{d with key:=k2,val:=v'}) (clock':=clock) c hb ?_ ?_ ((R.born c hb).modify _ _ fun _=>rfl),rfl⟩
       .unfold Instr.mapUpdate;simp only[Sem.run_bind,run_underlying g,Result.andThen_ok,k];grind[mo,Go.Result.andThen_ok,aa2,Go.Sem.run_bind,uG,run_setObj_map]
       .have:=h2.set j (x:=k2) (x':=k2) (Wd a);refine(?_:AK _ _ _ _);have D:(es.set j (k2,v)).map (·.1)=(es.map (·.1)).set j k2:=by rw[C4]
        have F:((E.modify j fun d=>{d with key:=k2,val:=v'}).toList.map (·.key))=(E.toList.map (·.key)).set j k2:=by apply wI;grind
        grind
       .have:=h3.set j (x:=v) (x':=v') n;have D:(es.set j (k2,v)).map (·.2)=(es.map (·.2)).set j v:=by rw[C4]
        have F:((E.modify j fun d=>{d with key:=k2,val:=v'}).toList.map (·.val))=(E.toList.map (·.val)).set j v':=by apply wI;grind
        grind
     .rename_i hf;injection e with e;subst e;rcases aa0 (Wd a) es E.toList 0 w h2 h3 _ hf with⟨_,q⟩|⟨o,u1,u',b,_⟩
      .refine⟨_,?_,R.HF (E':=E.push {key:=f,val:=v',born:=clock}) (clock':=clock+1) c hb ?_ ?_ ((R.born c hb).push _ _),rfl⟩
       .unfold Instr.mapUpdate;simp only[Sem.run_bind,run_underlying g,Result.andThen_ok,k];grind[mo,Go.Result.andThen_ok,aa2,run_setObj_map]
       all_goals grind[AK.append,AK.cons,AK.nil]
      .cases b
     .cases e
   .cases e
  .cases e
 .cases e
def aer(P:Program)(h:aai)(t:TypeId)(x i:vV)(ok:Bool):Option vV:=
 match abB P h t x i ok with
 |some v=>Z v
 |none=>adH P h t x i ok
def aet(P:Program)(h:aai)(t:TypeId)(x i v:vV):Option aai:=
 match acM P h t x i v with
 |some v=>Z v
 |none=>aea P h t x i v
theorem AJ{P:Program}(R:Rel W0 m h w){t:TypeId}{x i x' a v:vV}{ok:Bool}(b:VR h.next m x x')(hi:VR h.next m i a)(e:aer P h t x i ok=Z v):
  ∃v',(Instr.lookup t x' a ok).run P w=.ok v' w/\VR h.next m v v':=by grind[aer,agp,agi]
theorem DZ{P:Program}(R:Rel W0 m h w){t:TypeId}{x i v x' a v':vV}{h':aai}(b:VR h.next m x x')(hi:VR h.next m i a)(c:VR h.next m v v')(e:aet P h t x i v=Z h'):
  ∃w',(Instr.mapUpdate t x' a v').run P w=.ok () w'/\Rel W0 m h' w'/\h'.next=h.next:=by grind[aet,Um,jy]
def aDelete(_:Program)(_:aai)(_:TypeId)(_ _:vV):Option (vV×aai):=Y
def ad9(P:Program)(h:aai)(t:TypeId)(x i:vV):Option (vV×aai):=
 match P.underlying t,x with
 |some (.map b c),.map (Z r)=>
  if ac4 P b i then
   match h.own r,acd P c with
   |some (.map es),Z a=>
    match adC P b i es 0 with
    |some (Z (j,v))=>Z (.tuple #[v,j],h.put r (.map es))
    |some Y=>if flat a then Z (.tuple #[a,es.length],h.put r (.map (es++[(i,a)])))else Y
    |none=>Y
   |_,_=>Y
  else Y
 |_,_=>Y
def acT(h:aai)(x s v:vV):Option aai:=
 match x,s with
 |.map (Z r),.int .i64 j=>
  match h.own r with
  |some (.map es)=>
   if 0<=j then
    match es[j.toNat]? with
    |some p=>Z (h.put r (.map (es.set j.toNat (p.1,v))))
    |none=>Y
   else Y
  |_=>Y
 |_,_=>Y
theorem ael{P:Program}(R:Rel W0 m h w){t:TypeId}{x i x' k v:vV}{h':aai}(A:VR h.next m x x')(hi:VR h.next m i k)(e:ad9 P h t x i=Z (v,h')):
  OK P W0 m h w (Instr.mapEntry t x' k) v h':=by
 unfold ad9 at e;split at e
 .rename_i L M r y;split at e
  .rename_i a;split at e
   .rename_i es f g B;have:=CW a hi;subst this;cases A with
    |flat hf=>grind[flat]
    |map N=>
     obtain⟨E,clock,hb,z,h2,h3⟩:=R.mD (P:=P) g;have hB:=R.born g hb;split at e
     .rename_i j u hf;injection e with e;simp only[si]at e;obtain⟨rfl,rfl⟩:=e;rcases aa0 (Wd a) es E.toList 0 w h2 h3 _ hf with⟨q,_⟩|⟨C,u1,u',c,D,F,_,O,k2,G,H,I,J⟩
      .cases q
      .injection c with c;simp only[si]at c;obtain⟨rfl,rfl⟩:=c;rw[qL238]at G H;obtain rfl:=fI a J;obtain rfl:=CW a I;have l:((E[j]?).map (·.key)).getD k2=k2:=hGr;have n:((E[j]?).map fun x=>(x.born:Int)).getD 0=(j:Int):=by
        cases K:E[j]? with
        |none=>grind
        |some b=>have:=hB.2 j b K;simp[this]
       have o:((E.modify j fun b=>{b with key:=k2}).toList.map (·.key))=E.toList.map (·.key):=by apply wI;grind
       have p:((E.modify j fun b=>{b with key:=k2}).toList.map (·.val))=E.toList.map (·.val):=by apply wI;grind
       refine⟨m,.tuple #[u',j],_,?_,R.HF (E':=E.modify j fun b=>{b with key:=k2}) (clock':=clock) g hb (by rw[o];exact h2) (by rw[p];exact h3) (hB.modify _ _ fun _=>rfl),.refl _ _,qL0 _,.qY (.cons F (.cons (.flat rfl) (.nil _ _)))⟩;unfold Instr.mapEntry;simp only[Sem.run_bind,run_underlying y,Result.andThen_ok,z];rw[mo a];simp only[Result.andThen_ok,aa2 a,Sem.run_bind,D,l,uG a,run_setObj_map _ hb,Sem.run_pure,n,goInt]
     .rename_i hf;split at e
      .rename_i d;injection e with e;simp only[si]at e;obtain⟨rfl,rfl⟩:=e;rcases aa0 (Wd a) es E.toList 0 w h2 h3 _ hf with⟨_,q⟩|⟨C,u1,u',c,_⟩
       .have hlen:E.size=es.length:=by have:=h2.1;grind
        have s:clock=es.length:=hB.1.trans hlen;refine⟨m,.tuple #[f,es.length],_,?_,R.HF (E':=E.push {key:=k,val:=f,born:=clock}) (clock':=clock+1) g hb ?_ ?_ (hB.push _ _),.refl _ _,qL0 _,.qY (.cons (.flat d) (.cons (.flat rfl) (.nil _ _)))⟩
        .unfold Instr.mapEntry;simp only[Sem.run_bind,run_underlying y,Result.andThen_ok,z];rw[mo a];simp only[Result.andThen_ok,aa2 a,Sem.run_bind,q,rn B,run_setObj_map _ hb,Sem.run_pure,s,goInt]
        .grind[AK.append,AK.cons,AK.nil]
        .have:VR h.next m f f:=.flat d
         grind[AK.append,AK.cons,AK.nil]
       .cases c
      .cases e
     .cases e
   .cases e
  .cases e
 .cases e
theorem ac6{P:Program}(R:Rel W0 m h w){t:TypeId}{x s v x' k v':vV}{h':aai}(n:VR h.next m x x')(hs:VR h.next m s k)(o:VR h.next m v v')(e:acT h x s v=Z h'):
  ∃w',(Instr.entryStore t x' k v').run P w=.ok () w'/\Rel W0 m h' w'/\h'.next=h.next:=by
 unfold acT at e;split at e
 .rename_i r j;split at e
  .rename_i es c;split at e
   .rename_i q;split at e
    .rename_i p l;injection e with e;subst e;have:=hs.Ja;subst this;cases n with
     |flat hf=>grind[flat]
     |map y=>
      obtain⟨E,clock,hb,u,h2,h3⟩:=R.mD (P:=P) c;have hB:=R.born c hb;obtain⟨j,rfl⟩:=Sb q;rw[Z6]at l ⊢;have hlen:E.size=es.length:=by have:=h2.1;grind
      have b:j<E.size:=by rw[hlen];exact(Ny.1 l).1
      have d:E.findIdx? (fun a=>((a.born:Int)==(j:Int)))=Z j:=by
       rw[Array.findIdx?_eq_some_iff_getElem];refine⟨b,?_,fun i hi=>?_⟩
       .have:=hB.2 j E[j] (ac9 b);simp[this]
       .have:=hB.2 i E[i] (ac9 NH);simp[this];omega
      refine⟨_,?_,R.HF (E':=E.modify j fun a=>{a with val:=v'}) (clock':=clock) c hb ?_ ?_ (hB.modify _ _ fun _=>rfl),rfl⟩
      .unfold Instr.entryStore;simp only[Sem.run_bind,u,Result.andThen_ok,asInt,asIntOf,Sem.run_pure,d];exact run_setObj_map _ hb
      .have f:(es.set j (p.1,v)).map (·.1)=es.map (·.1):=by
        rw[C4];refine wI fun i=>?_;grind
       have g:((E.modify j fun a=>{a with val:=v'}).toList.map (·.key))=E.toList.map (·.key):=by apply wI;grind
       rw[f,g];exact h2
      .have:=h3.set j (x:=v) (x':=v') o;have f:(es.set j (p.1,v)).map (·.2)=(es.map (·.2)).set j v:=by rw[C4]
       have g:((E.modify j fun a=>{a with val:=v'}).toList.map (·.val))=(E.toList.map (·.val)).set j v':=by apply wI;grind
       rw[f,g];exact this
    .cases e
   .cases e
  .cases e
 .cases e
def ae9(P:Program)(h:aai)(t:TypeId)(x:vV):Option (vV×aai):=
 match P.underlying t,x with
 |some (.slice e),.slice a n _=>
  bif n==0 then Z (.tuple #[],h)else
  match a,acd P e with
  |some ⟨id,off,Y⟩,Z z=>
   match h.own id with
   |some (.cells c)=>bif z.cells.toList.all flat&&decide (off+n*z.cells.size<=c.length)then Z (.tuple #[],h.put id (.cells (putCells c off (acY z.cells.toList n))))else Y
   |_=>Y
  |_,_=>Y
 |_,_=>Y
theorem aClear_ok{P:Program}(R:Rel W0 m h w){t:TypeId}{ats:Array TypeId}(b:ats[0]?=Z t){ty:TypeId}{x x' v:vV}{h':aai}(p:VR h.next m x x')(e:ae9 P h t x=Z (v,h')):
  OK P W0 m h w (Builtin.clear_ ats ty #[x']) v h':=by
 unfold ae9 at e;split at e
 .rename_i el a n cap q;by_cases s:n=0
  .subst s;simp only[beq_self_eq_true,cond_true]at e;injection e with e;simp only[si]at e;obtain⟨rfl,rfl⟩:=e;obtain⟨u,c',rfl,f⟩:=p.YC;refine⟨m,.tuple #[],w,?_,R,.refl _ _,qL0 _,.qY (.nil _ _)⟩;unfold Builtin.clear_;cases u<;>simp[b,run_underlying q]
  .have g:(n==0)=fF:=hGr;rw[g,cond_false]at e;split at e
   .rename_i id off z y;split at e
    .rename_i c A;cases i:(z.cells.toList.all Fw.flat&&decide (off+n*z.cells.size<=c.length))with
     |false=>grind
     |true=>
      rw[i,cond_true]at e;injection e with e;simp only[si]at e;obtain⟨rfl,rfl⟩:=e;rw[zx,uV]at i;obtain⟨j,r⟩:=i;have d:=Ew Fw.flat _ j n;obtain⟨w',hw,R'⟩:=Rel.jW P (acY z.cells.toList n) (acY z.cells.toList n) 0 R (off:=off) A (by grind[jY]) (AK.flat d) (fun v B=>DF.1 (OO d) v B);obtain⟨k,rfl⟩:∃k,n=k+1:=⟨n-1,NH⟩;have l:(Builtin.zeroCells z.cells (k+1)).toList=acY z.cells.toList (k+1):=MI _ _ _ rfl;refine⟨m,.tuple #[],w',?_,hGr,.refl _ _,qL0 _,.qY (.nil _ _)⟩;have o:∃c',x'=sL (Z ⟨(m id).blk,(m id).base+off,Y⟩) (k+1) c':=by
       cases p with
       |flat hf=>grind[flat]
       |slice _ _=>grind
       |buf _ C ha=>
        rcases ha with⟨rfl,_⟩|D
        all_goals grind
      obtain⟨c',rfl⟩:=o;unfold Builtin.clear_;simp only[b,ah1,Bn,Sem.run_bind,run_underlying q,Result.andThen_ok,rn y,l,hw];rfl
    .cases e
   .cases e
 .cases e
abbrev aam:=Trie vV
def aa6(fr:aam):Operand->Option vV
 |.tmp t=>fr.get t
 |.const v=>bif flat v then Z v else Y
 |.func f=>Z (.func (.func f) #[] #[])
 |.global _=>Y
def FR(n:Nat)(m:abd)(fr:aam)(tmps:Array vV):Prop:=∀k v,fr.get k=Z v->∃v',tmps[k]?=Z v'/\VR n m v v'
theorem FR.mono{n n':Nat}{m a:abd}{fr:aam}{t:Array vV}(F:FR n m fr t)(b:n<=n')(c:ZK n m a):FR n' a fr t:=fun k v e=>let⟨v',d,h2⟩:=F k v e;⟨v',d,h2.mono b c⟩
theorem Ns{n:Nat}{m:abd}{fr:aam}{a:Act}(F:FR n m fr a.tmps){o:Operand}{v:vV}(e:aa6 fr o=Z v):VR n m v (a.eval o):=by
 cases o with
 |tmp t=>
  obtain⟨v',b,h2⟩:=F t v e;have:a.eval (.tmp t)=v':=by simp[Act.eval,Cj,b]
  grind
 |const c=>
  simp only[aa6]at e;cases hf:flat c with
  |true=>rw[hf]at e;simp at e;subst e;exact .flat hf
  |false=>grind
 |global g=>grind[aa6]
 |func f=>simp only[aa6]at e;injection e with e;subst e;exact .func rfl rfl (fun i v v' h=>by simp at h) (fun i v v' h=>by simp at h)
def acZ(fr:aam):List Operand->Option xLV
  |[]=>Z []
  |o::r=>match aa6 fr o with
    |some v=>match acZ fr r with|some l=>Z (v::l)|none=>Y
    |none=>Y
theorem PZ{n:Nat}{m:abd}{fr:aam}{a:Act}(F:FR n m fr a.tmps):∀{l:List Operand}{vs:xLV},acZ fr l=Z vs->AK n m vs (l.map a.eval)
 |[],vs,e=>by grind[acZ,AK.nil]
 |o::r,vs,e=>by
  simp only[acZ]at e;split at e
  .rename_i v b;split at e
   .rename_i l c;injection e with e;subst e;exact .cons (Ns F b) (PZ F c)
   .cases e
  .cases e
def aeb(fr:aam):List (Nat×Operand)->Option (List (Nat×vV))
  |[]=>Z []
  |(i,o)::r=>match aa6 fr o with
    |some v=>match aeb fr r with|some l=>Z ((i,v)::l)|none=>Y
    |none=>Y
def He{n:Nat}{m:abd}{fr:aam}{a:Act}(F:FR n m fr a.tmps):∀{l:List (Nat×Operand)}{vs:List (Nat×vV)},aeb fr l=Z vs->PRs n m vs (l.map fun p=>(p.1,a.eval p.2))
 |[],vs,e=>by simp[aeb]at e;subst e;exact .nil
 |(i,o)::r,vs,e=>by
  simp only[aeb]at e;split at e
  .rename_i v b;split at e
   .rename_i l c;injection e with e;subst e;exact .cons (Ns F b) (He F c)
   .cases e
  .cases e
def aec(fr:aam):Option Operand->Option (Option vV)
 |none=>Z Y
 |some o=>match aa6 fr o with|some v=>Z (Z v)|none=>Y
def Oh{n:Nat}{m:abd}{fr:aam}{a:Act}(F:FR n m fr a.tmps){o:Option Operand}{v:Option vV}(e:aec fr o=Z v):VRo n m v (o.map a.eval):=by
 cases o with
 |none=>simp[aec]at e;subst e;exact .none
 |some o=>
  simp only[aec]at e;split at e
  .rename_i u b;injection e with e;subst e;exact .some (Ns F b)
  .cases e
def Yx:vV:=.tuple #[]
def acy(x:vV):Option vV:=
 match x with
 |.pointer (Z a)=>Z (pT (Z a))
 |.func (.func f) a b=>Z (.func (.func f) a b)
 |_=>Y
def aIface(P:Program)(t:TypeId)(x:vV):Option vV:=
 match P.underlying t with
 |some (.interface _)=>Y
 |some _=>Z (.iface t x)
 |none=>Y
def ab0(P:Program)(h:aai)(b:Builtin)(ats:List TypeId)(args:xLV):Option (vV×aai):=
 match b,ats,args with
 |.append,[t,xt],[s,x]=>aaR P h t xt s x
 |.len,t::_,[x]=>match aeh P h t x with|some v=>Z (v,h)|none=>Y
 |.copy,t::_,[d,s]=>afo P h t d s
 |.delete,t::_,[d,s]=>aDelete P h t d s
 |.clear,t::_,[s]=>ae9 P h t s
 |.min,_,x::r=>match agw x r with|some v=>Z (v,h)|none=>Y
 |.max,_,x::r=>match LZ x r with|some v=>Z (v,h)|none=>Y
 |_,_,_=>Y
def abr(P:Program)(fr:aam)(h:aai)(o:Oper):Option (vV×aai):=
  match o.op with
  |.move x|.assign x=>match aa6 fr x with|some v=>Z (v,h)|none=>Y
  |.pick c a b=>match aa6 fr c with
    |some (.bool t)=>match aa6 fr (bif t then a else b)with|some v=>Z (v,h)|none=>Y
    |_=>Y
  |.alloc t=>abO P h t
  |.box _ x=>match aa6 fr x with|some v=>zF h v|none=>Y
  |.build t ps=>match aeb fr ps.toList with
    |some l=>match acB P t l with|some v=>Z (v,h)|none=>Y
    |none=>Y
  |.buildSlice t len ps=>match aeb fr ps.toList with|some l=>aas P h t len l|none=>Y
  |.load t a=>match aa6 fr a with
    |some (pT (Z ad))=>match aaC P h t ad with|some v=>Z (v,h)|none=>Y
    |_=>Y
  |.store t a x=>match aa6 fr a,aa6 fr x with
    |some e,Z g=>match aaK P h t e g with|some h'=>Z (Yx,h')|none=>Y
    |_,_=>Y
  |.nilCheck x=>match aa6 fr x with
    |some v=>match acy v with|some v=>Z (v,h)|none=>Y
    |none=>Y
  |.binOp op t x y _=>match aa6 fr x,aa6 fr y with
    |some a,Z b=>match mM P op t a b with|some v=>Z (v,h)|none=>Y
    |_,_=>Y
  |.unOp op _ x=>match aa6 fr x with
    |some a=>match aUn op a with|some v=>Z (v,h)|none=>Y
    |none=>Y
  |.convert s d x=>match aa6 fr x with|some a=>acX P h s d a|none=>Y
  |.makeInterface t x=>match aa6 fr x with
    |some a=>match aIface P t a with|some v=>Z (v,h)|none=>Y
    |none=>Y
  |.makeFunc fn first cap=>match acZ fr first.toList,acZ fr cap.toList with
    |some a,Z b=>Z (.func fn a.toArray b.toArray,h)
    |_,_=>Y
  |.makeMap t r=>match r with
    |none=>Z (.map (Z h.next),h.alloc (.map []))
    |some o=>match aa6 fr o,P.underlying t with
      |some (.int _ _),Z (.map _ _)=>Z (.map (Z h.next),h.alloc (.map []))
      |_,_=>Y
  |.makeSlice t l c=>match aa6 fr l,aa6 fr c with
    |some a,Z b=>abl P h t a b
    |_,_=>Y
  |.slice t x lo hi j=>match aa6 fr x,aec fr lo,aec fr hi,aec fr j with
    |some a,Z l,Z r,Z k=>match abf P t a l r k with|some v=>Z (v,h)|none=>Y
    |_,_,_,_=>Y
  |.fieldAddr s x f=>match aa6 fr x with
    |some a=>match aca P s a f with|some v=>Z (v,h)|none=>Y
    |none=>Y
  |.field s x f=>match aa6 fr x with
    |some a=>match agc P s a f with|some v=>Z (v,h)|none=>Y
    |none=>Y
  |.indexAddr t x i=>match aa6 fr x,aa6 fr i with
    |some a,Z b=>match aao P t a b with|some v=>Z (v,h)|none=>Y
    |_,_=>Y
  |.index t x i=>match aa6 fr x,aa6 fr i with
    |some a,Z b=>match afh P t a b with|some v=>Z (v,h)|none=>Y
    |_,_=>Y
  |.extract x i=>match aa6 fr x with
    |some a=>match acW a i with|some v=>Z (v,h)|none=>Y
    |none=>Y
  |.lookup t x i ok=>match aa6 fr x,aa6 fr i with
    |some a,Z b=>match aer P h t a b ok with|some v=>Z (v,h)|none=>Y
    |_,_=>Y
  |.mapUpdate t x k y=>match aa6 fr x,aa6 fr k,aa6 fr y with
    |some a,Z b,Z c=>match aet P h t a b c with|some h'=>Z (Yx,h')|none=>Y
    |_,_,_=>Y
  |.call {callee:=.builtin b,args,argTypes}=>match acZ fr args.toList with
    |some vs=>ab0 P h b argTypes.toList vs
    |none=>Y
  |.mapEntry t x k=>match aa6 fr x,aa6 fr k with
    |some a,Z b=>ad9 P h t a b
    |_,_=>Y
  |.entryStore _ x s y=>match aa6 fr x,aa6 fr s,aa6 fr y with
    |some a,Z b,Z c=>match acT h a b c with|some h'=>Z (Yx,h')|none=>Y
    |_,_,_=>Y
  |_=>Y
def Ot(P:Program)(W0:LA)(m:abd)(h:aai)(w:World)(s:Sem Next)(v:vV)(h':aai):Prop:=∃a v' w',(s.run P w=.ok (.value v') w'\/(s.run P w=.ok .skip w'/\v'=undef))/\Rel W0 a h' w'/\ZK h.next m a/\h.next<=h'.next/\VR h'.next a v v'
theorem Ot.TJ{P:Program}{s:Sem vV}{v:vV}{h':aai}(e:OK P W0 m h w s v h'):Ot P W0 m h w (do pure (.value (<-s))) v h':=by obtain⟨a,v',w',b,h2,h3,c,d⟩:=e;exact⟨a,v',w',.inl (by simp[b]),h2,h3,c,d⟩
def Ot.J0{P:Program}{s:Sem vV}{v:vV}(R:Rel W0 m h w)(e:∃v',s.run P w=.ok v' w/\VR h.next m v v'):Ot P W0 m h w (do pure (.value (<-s))) v h:=
 .TJ (OK.pure R e)
theorem Ot.val{P:Program}{v v':vV}(R:Rel W0 m h w)(e:VR h.next m v v'):Ot P W0 m h w (pure (.value v')) v h:=⟨m,v',w,.inl Ma,R,.refl _ _,qL0 _,e⟩
theorem Dm{P:Program}(R:Rel W0 m h w){b:Builtin}{ats:Array TypeId}{ty:TypeId}{cs:Array Bool}{args a:xLV}{v:vV}{h':aai}(ha:AK h.next m args a)(e:ab0 P h b ats.toList args=Z (v,h')):Ot P W0 m h w (builtin b ats ty cs a.toArray) v h':=by
 unfold ab0 at e;split at e
 .rename_i t xt s x c;have g:ats=#[t,xt]:=hGr;subst g
  match a,ha with
  |[i,x'],ha=>exact .TJ (Uk R (ha.2 0 s i rfl rfl) (ha.2 1 x x' rfl rfl) e)
  |[],ha|[_],ha|_::_::_::_,ha=>grind[AK]
 .rename_i t r x c;have f:ats[0]?=Z t:=by rw[<-aeC,c];rfl
  match a,ha with
  |[x'],ha=>
   split at e
   .rename_i n j;injection e with e;simp only[si]at e;obtain⟨rfl,rfl⟩:=e;exact .J0 R (aLen_rel R f (ha.2 0 x x' rfl rfl) j)
   .cases e
  |[],ha|_::_::_,ha=>grind[AK]
 .rename_i t r d s c;have f:ats[0]?=Z t:=by rw[<-aeC,c];rfl
  match a,ha with
  |[o,i],ha=>exact .TJ (aCopy_ok R f (ha.2 0 d o rfl rfl) (ha.2 1 s i rfl rfl) e)
  |[],ha|[_],ha|_::_::_::_,ha=>grind[AK]
 .rename_i t r d s c;have f:ats[0]?=Z t:=by rw[<-aeC,c];rfl
  match a,ha with
  |[o,i],ha=>cases e
  |[],ha|[_],ha|_::_::_::_,ha=>grind[AK]
 .rename_i t r s c;have f:ats[0]?=Z t:=by rw[<-aeC,c];rfl
  match a,ha with
  |[i],ha=>exact .TJ (aClear_ok R f (ha.2 0 s i rfl rfl) e)
  |[],ha|_::_::_,ha=>grind[AK]
 .rename_i x r
  match a,ha with
  |x'::k,ha=>
   split at e
   .rename_i n j;injection e with e;simp only[si]at e;obtain⟨rfl,rfl⟩:=e;obtain⟨v',l,h2⟩:=TZ (P:=P) r k (ha.2 0 x x' rfl rfl) (by simpa using ha.drop 1) j w;exact .J0 R ⟨v',by simpa[Builtin.min_]using l,h2⟩
   .cases e
  |[],ha=>grind[AK]
 .rename_i x r
  match a,ha with
  |x'::k,ha=>
   split at e
   .rename_i n j;injection e with e;simp only[si]at e;obtain⟨rfl,rfl⟩:=e;obtain⟨v',l,h2⟩:=td (P:=P) r k (ha.2 0 x x' rfl rfl) (by simpa using ha.drop 1) j w;exact .J0 R ⟨v',by simpa[Builtin.max_]using l,h2⟩
   .cases e
  |[],ha=>grind[AK]
 .cases e
theorem aEq_agg{P:Program}{t:TypeId}{xs ys:Array vV}{r:Bool}(e:aEq P t (.agg xs) (.agg ys)=Z r):P.eqGuardType P.depth t=fF:=by unfold aEq at e;grind[acN,Je]
theorem V1{P:Program}(R:Rel W0 m h w){op:BinOp}{t:TypeId}{x y:Operand}{a b a' c v:vV}(ha:VR h.next m a a')(hb:VR h.next m b c)(e:mM P op t a b=Z v):
  Ot P W0 m h w (do pure (.value (<-(do eqGuard op t x y a' c;binOp op t a' c)))) v h:=by
 unfold mM at e;cases hg:aci a with
 |false=>grind
 |true=>
  rw[hg]at e;simp only[cond_true]at e;obtain⟨hf,d⟩:=abin_rel ha hb e;refine .J0 R ⟨v,?_,.flat hf⟩;have f:(eqGuard op t x y a' c).run P w=.ok () w:=by
   refine agn P op t x y a' c w ?_ ?_
   .rintro⟨rfl,_⟩;cases ha<;>grind[aci]
   .rintro g i rfl rfl;cases ha with
    |flat hh=>grind[flat]
    |agg _ _=>
     cases hb with
     |flat hh=>grind[flat]
     |agg _ _=>
      rename_i xs ys _ _ _ _
      cases op<;>simp only[ae3]at e<;>(try cases e)
      all_goals grind[aEq_agg]
  rw[Sem.run_bind,f];exact d w
theorem ae4{P:Program}{a:Act}{fr:aam}{o:Oper}{v:vV}{h':aai}(R:Rel W0 m h w)(F:FR h.next m fr a.tmps)(e:abr P fr h o=Z (v,h')):
  Ot P W0 m h w (execOp a.eval o) v h':=by
 unfold abr at e;unfold execOp;split at e
 .grind[Ot.val,Ns]
 .grind[Ot.val,Ns]
 .rename_i c x y g;simp only[g];split at e
  .rename_i t V;split at e
   .rename_i u j;injection e with e;simp only[si]at e;obtain⟨rfl,rfl⟩:=e;have G:=(Ns F V).YE;have B:=Ns F j
    refine⟨m,a.eval (bif t then x else y),w,.inl ?_,R,.refl _ _,qL0 _,B⟩
    simp only[G,asBool,Sem.run_bind,Sem.run_pure,Result.andThen_ok];grind
   .cases e
  .cases e
 .grind[Ot.TJ,aAlloc_ok]
 .rename_i t x g;simp only[g];split at e
  .rename_i u j;exact .TJ (aBox_ok R (Ns F j) e)
  .cases e
 .rename_i t ps g;simp only[g];split at e
  .rename_i l H;split at e
   .rename_i u j;injection e with e;simp only[si]at e;obtain⟨rfl,rfl⟩:=e;have:=WX (P:=P) (He F H) j w;refine .J0 R ?_
    have K:(ps.map fun x=>match x with|(i,x)=>(i,a.eval x))=(ps.toList.map fun p=>(p.1,a.eval p.2)).toArray:=hGr
    grind
   .cases e
  .cases e
 .rename_i t len ps g;simp only[g];split at e
  .rename_i l H;have:=Mg (P:=P) R (He F H) e
   have K:(ps.map fun x=>match x with|(i,x)=>(i,a.eval x))=(ps.toList.map fun p=>(p.1,a.eval p.2)).toArray:=hGr
   grind[Ot.TJ]
  .cases e
 .rename_i t x g;simp only[g];split at e
  .rename_i ad L;split at e
   .rename_i u j;injection e with e;simp only[si]at e;obtain⟨rfl,rfl⟩:=e;obtain⟨a',mi,M⟩:=(Ns F L).AP;obtain⟨v',D,h2⟩:=R.loadVar (P:=P) M j;exact .J0 R ⟨v',by rw[mi];simp[Instr.loadAt,Instr.sureAddr,D],h2⟩
   .cases e
  .cases e
 .rename_i t x y g;simp only[g];split at e
  .rename_i av xv N O;split at e
   .rename_i h2 E;injection e with e;simp only[si]at e;obtain⟨rfl,rfl⟩:=e;obtain⟨w',D,R',U⟩:=aStore_ok (P:=P) R (Ns F N) (Ns F O) E;exact⟨m,undef,w',.inr ⟨by simp[D],rfl⟩,R',.refl _ _,NH,.tuple rfl (fun i v v' h=>by simp at h)⟩
   .cases e
  .cases e
 .rename_i x g;simp only[g];split at e
  .rename_i u j;split at e
   .rename_i u' B;injection e with e;simp only[si]at e;obtain⟨rfl,rfl⟩:=e;have I:=Ns F j;unfold acy at B;split at B
    .grind[VR.AP,Ot.val]
    .injection B with B;subst B;generalize a.eval x=x' at I ⊢;cases I with
     |flat hf=>grind[flat]
     |func D h2 h3 W=>exact .val R (.func D h2 h3 W)
    .cases B
   .cases e
  .cases e
 .rename_i op t x y yt g;simp only[g];split at e
  .rename_i p q A C;split at e
   .rename_i u j;injection e with e;simp only[si]at e;obtain⟨rfl,rfl⟩:=e;exact V1 R (Ns F A) (Ns F C) j
   .cases e
  .cases e
 .rename_i op t x g;simp only[g];split at e
  .rename_i p A;split at e
   .rename_i u j;injection e with e;simp only[si]at e;obtain⟨rfl,rfl⟩:=e;obtain⟨D,h2⟩:=aUn_rel P (Ns F A) j;exact .J0 R ⟨u,h2 w,.flat D⟩
   .cases e
  .cases e
 .rename_i s d x g;simp only[g];split at e
  .rename_i p A;exact .TJ (Mu R (Ns F A) e)
  .cases e
 .rename_i t x g;simp only[g];split at e
  .rename_i p A;split at e
   .rename_i u j;injection e with e;simp only[si]at e;obtain⟨rfl,rfl⟩:=e;unfold aIface at j;split at j
    .cases j
    .rename_i d Q hd;injection j with j;subst j;refine .J0 R ⟨.iface t (a.eval x),?_,.iface (Ns F A)⟩;simp only[Instr.makeInterface,Sem.run_bind,run_underlying hd,Result.andThen_ok]
     cases d<;>first|(exact absurd rfl (Q _))|rfl
    .cases j
   .cases e
  .cases e
 .rename_i fn first cap g;simp only[g]
  split at e
  .rename_i p q A C;injection e with e;simp only[si]at e;obtain⟨rfl,rfl⟩:=e;have D:=PZ F A;have h2:=PZ F C
   refine .J0 R ⟨.func fn (first.map a.eval) (cap.map a.eval),by simp[Instr.makeFunc],.func ?_ ?_ (fun i v v' e e'=>D.2 i v v' (by simpa using e) hGr) (fun i v v' e e'=>h2.2 i v v' (by simpa using e) hGr)⟩
   .have:=D.1;grind
   .have:=h2.1;grind
  .cases e
 .rename_i t r g;simp only[g];split at e
  .injection e with e;simp only[si]at e;obtain⟨rfl,rfl⟩:=e;refine .TJ ⟨_,.map (Z w.heap.size),_,by simp[Instr.makeMap],R.allocMap,Qq _ _ _,afJ _,?_⟩
   have:=VR.map (n:=h.next+1) (m:=upd m h.next ⟨w.heap.size,0,0⟩) (id:=h.next) (afC _)
   rw[zf]at this;exact this
  .split at e
   .rename_i r x y k i dk de A j;injection e with e;simp only[si]at e;obtain⟨rfl,rfl⟩:=e;have I:=Ns F A;have S:a.eval r=.int k i:=by
     generalize a.eval r=z at I;cases I;rfl
    refine .TJ ⟨_,.map (Z w.heap.size),_,?_,R.allocMap,Qq _ _ _,afJ _,?_⟩
    .rw[uu,S];simp[Instr.makeMap,Sem.run_bind,run_underlying j,asInt,asIntOf]
    .have:=VR.map (n:=h.next+1) (m:=upd m h.next ⟨w.heap.size,0,0⟩) (id:=h.next) (afC _)
     rw[zf]at this;exact this
   .cases e
 .rename_i t l c g;simp only[g];split at e
  .rename_i p q A C;exact .TJ (ZU R (Ns F A) (Ns F C) e)
  .cases e
 .rename_i t x lo hi mx g;simp only[g];split at e
  .rename_i p l r k A H X hk;split at e
   .rename_i u j;injection e with e;simp only[si]at e;obtain⟨rfl,rfl⟩:=e;exact .J0 R (jw (Ns F A) (Oh F H) (Oh F X) (Oh F hk) j w)
   .cases e
  .cases e
 .rename_i s x f g;simp only[g];split at e
  .rename_i p A;split at e
   .rename_i u j;injection e with e;simp only[si]at e;obtain⟨rfl,rfl⟩:=e;exact .J0 R (afO (Ns F A) j w)
   .cases e
  .cases e
 .rename_i s x f g;simp only[g];split at e
  .rename_i p A;split at e
   .rename_i u j;injection e with e;simp only[si]at e;obtain⟨rfl,rfl⟩:=e;exact .J0 R (aeL (Ns F A) j w)
   .cases e
  .cases e
 .rename_i t x i g;simp only[g];split at e
  .rename_i p q A C;split at e
   .rename_i u j;injection e with e;simp only[si]at e;obtain⟨rfl,rfl⟩:=e;exact .J0 R (Bb (Ns F A) (Ns F C) j w)
   .cases e
  .cases e
 .rename_i t x i g;simp only[g];split at e
  .rename_i p q A C;split at e
   .rename_i u j;injection e with e;simp only[si]at e;obtain⟨rfl,rfl⟩:=e;exact .J0 R (kg (Ns F A) (Ns F C) j w)
   .cases e
  .cases e
 .rename_i x i g;simp only[g];split at e
  .rename_i p A;split at e
   .rename_i u j;injection e with e;simp only[si]at e;obtain⟨rfl,rfl⟩:=e;exact .J0 R (VI (Ns F A) j w)
   .cases e
  .cases e
 .rename_i t x i ok g;simp only[g];split at e
  .rename_i p q A C;split at e
   .rename_i u j;injection e with e;simp only[si]at e;obtain⟨rfl,rfl⟩:=e;exact .J0 R (AJ R (Ns F A) (Ns F C) j)
   .cases e
  .cases e
 .rename_i t x k y g;simp only[g];split at e
  .rename_i p q c A C G;split at e
   .rename_i h2 E;injection e with e;simp only[si]at e;obtain⟨rfl,rfl⟩:=e;obtain⟨w',D,R',U⟩:=DZ (P:=P) R (Ns F A) (Ns F C) (Ns F G) E;exact⟨m,undef,w',.inr ⟨by simp[D],rfl⟩,R',.refl _ _,NH,.tuple rfl (fun i v v' h=>by simp at h)⟩
   .cases e
  .cases e
 .rename_i b args ats g;simp only[g];split at e
  .rename_i vs T;have J:=PZ F T;have:=Dm (P:=P) R (ats:=ats) (ty:=o.type) (cs:=args.map fun|.const _=>tT|_=>fF) J e;have K:(args.toList.map a.eval).toArray=args.map a.eval:=hGr;rw[K]at this;exact this
  .cases e
 .rename_i t x k g;simp only[g];split at e
  .rename_i p q A C;exact .TJ (ael R (Ns F A) (Ns F C) e)
  .cases e
 .rename_i t x s y g;simp only[g];split at e
  .rename_i p q c A C G;split at e
   .rename_i h2 E;injection e with e;simp only[si]at e;obtain⟨rfl,rfl⟩:=e;obtain⟨w',D,R',U⟩:=ac6 (P:=P) (t:=t) R (Ns F A) (Ns F C) (Ns F G) E;exact⟨m,undef,w',.inr ⟨by simp[D],rfl⟩,R',.refl _ _,NH,.tuple rfl (fun i v v' h=>by simp at h)⟩
   .cases e
  .cases e
 .cases e
end
end Go.Fw
