/- A text. -/
import Derived.Maps.RangeRun
import Derived.TacticsIn
import Derived.RangeFuncRecord
import Derived.Test.YtigllaheamfhaaaGreatFwOps4
set_option linter.all false
set_option maxRecDepth 99999
set_option maxHeartbeats 9999999
open Option renaming some→Z,none→Y
open Bool renaming true→tT,false→fF
open Go.Value renaming slice→sL,pointer→pT
open Go renaming Value→vV
open List
namespace Go.Fw
section
variable{W0:abw}{m:abd}{h:aai}{w:World}
def ac4(P:Program)(a:TypeId)(x:vV):Bool:=
  match P.underlying a,x with
  |some (.array len e),.agg xs=>match P.underlying e,aa9 xs.toList with
    |some (.int _),Z _=>UA P e==1&&xs.size==len
    |_,_=>fF
  |_,_=>fF
def adC(P:Program)(a:TypeId)(key:vV):List (vV×vV)->Nat->Option (Option (Nat×vV))
  |[],_=>Z Y
  |(k,v)::r,i=>match aEq P a key k with
    |some tT=>Z (Z (i,v))
    |some fF=>adC P a key r (i+1)
    |none=>Y
def adH(P:Program)(h:aai)(t:TypeId)(x i:vV)(ok:Bool):Option vV:=
 match P.underlying t,x with
 |some (.map b c),.map (Z r)=>
  if ac4 P b i then
   match h.own r,acd P c with
   |some (.map es),Z a=>
    match adC P b i es 0 with
    |some (Z (_,v))=>Z (bif ok then .tuple #[v,.bool tT]else v)
    |some Y=>if flat a then Z (bif ok then .tuple #[a,.bool fF]else a)else Y
    |none=>Y
   |_,_=>Y
  else Y
 |_,_=>Y
def aea(P:Program)(h:aai)(t:TypeId)(x i v:vV):Option aai:=
 match P.underlying t,x with
 |some (.map a _),.map (Z r)=>
  if ac4 P a i then
   match h.own r with
   |some (.map es)=>
    match adC P a i es 0 with
    |some (Z (j,_))=>Z (h.put r (.map (es.set j (i,v))))
    |some Y=>Z (h.put r (.map (es++[(i,v)])))
    |none=>Y
   |_=>Y
  else Y
 |_,_=>Y
theorem DM{n:Nat}{m:abd}:∀{l l':xLV}{a:List (IntKind×Int)},AK n m l l'->aa9 l=Z a->l'=l
 |[],l',a,h,_=>by have:l'=[]:=Bn (by rw[<-h.1];rfl);rw[this]
 |v::l,[],a,h,ha=>by grind[AK]
 |v::l,v'::l',a,h,ha=>by
  have b:VR n m v v':=h.2 0 v v' rfl rfl;have c:AK n m l l':=by simpa using h.drop 1
  cases v<;>simp only[aa9]at ha<;>try cases ha
  split at ha
  .rename_i r d;have:=b.Ja;subst this;rw[DM c d]
  .cases ha
theorem SX{P:Program}{b:TypeId}{x:vV}(c:ac4 P b x=tT):
  ∃len e k xs a,P.underlying b=Z (.array len e)/\x=.agg xs/\P.underlying e=Z (.int k)/\aa9 xs.toList=Z a/\UA P e=1/\xs.size=len:=by
 unfold ac4 at c;grind
theorem VR.agg_inv'{n:Nat}{m:abd}{xs:Array vV}{v':vV}(h:VR n m (.agg xs) v'):∃a,v'=.agg a/\AK n m xs.toList a.toList:=by
 cases h with
 |flat hf=>simp[Fw.flat]at hf
 |agg ha h=>exact⟨_,rfl,hGr,fun i v v' e e'=>h i v v' (by simpa using e) hGr⟩
theorem CW{P:Program}{a:TypeId}{x x':vV}{n:Nat}{m:abd}(b:ac4 P a x=tT)(c:VR n m x x'):x'=x:=by grind[SX,VR.agg_inv',DM,Array.toList_inj]
def z7{P:Program}(f:Nat->Sem (ForInStep PUnit)):∀(n s:Nat)(w:World),(∀i w,s<=i->i<s+n->(f i).run P w=.ok (.yield PUnit.unit) w)->(forIn (m:=Sem) (List.range' s n) PUnit.unit fun i _=>f i).run P w=.ok PUnit.unit w
 |0,s,w,_=>by simp
 |n+1,s,w,hf=>by rw[qL211];simp only[forIn_cons,Sem.run_bind,hf s w (qL0 _) NH,Result.andThen_ok];exact z7 f n (s+1) w fun i w a h2=>hf i w NH NH
theorem pD:∀{l:xLV}{a:List (IntKind×Int)},aa9 l=Z a->∀i,i<l.length->∃k z,l[i]?=Z (.int k z)
 |[],_,_,i,hi=>absurd hi Ma
 |v::l,a,ha,i,hi=>by
  cases v<;>simp only[aa9]at ha<;>try cases ha
  split at ha
  .rename_i k z _ r b;cases i with
   |zero=>grind
   |succ i=>simpa using pD b i hGr
  .cases ha
theorem mo{P:Program}{g:TypeId}{x:vV}(l:ac4 P g x=tT)(b:Bool)(n:Nat)(w:World):(Instr.checkKey b (n+2) g x).run P w=.ok () w:=by
 obtain⟨len,e,k,xs,a,o,rfl,c,ha,hs,p⟩:=SX l;unfold Instr.checkKey;rw[Sem.run_bind,run_underlying o];simp only[Result.andThen_ok,qL164,Std.Legacy.Range.size];rw[Sem.run_bind,z7 (P:=P) _ _ 0 w fun i w q h2=>?_]
 .simp
 .have d:i<xs.toList.length:=by simp;omega
  have⟨j,z,hi⟩:=pD ha i d;have f:∀w,(part e xs i).run P w=.ok (.int j z) w:=fun w=>by have:xs[i]?=Z (.int j z):=hGr;simp[part,Rk c,ab8,this]
  simp only[Sem.run_bind,IT c,hs,anN,f,BD c,Result.andThen_ok,Sem.run_pure]
theorem aa0{P:Program}{n:Nat}{m:abd}{c:TypeId}{key:vV}(b:VR n m key key):∀(es:List (vV×vV))(E:List MapEntry)(i:Nat)(w:World),AK n m (es.map (·.1)) (E.map (·.key))->AK n m (es.map (·.2)) (E.map (·.val))->∀r,adC P c key es i=Z r->
  (r=Y/\(Instr.findAsking c key E i).run P w=.ok Y w)\/∃j v v',r=Z (j,v)/\(Instr.findAsking c key E i).run P w=.ok (Z (j,v')) w/\VR n m v v'/\i<=j/\∃f k2,(es[j-i]?).map (·.1)=Z f/\(E[j-i]?).map (·.key)=Z k2/\VR n m f k2/\aEq P c key f=Z tT
 |[],E,i,w,g,k,r,e=>by
  have:E=[]:=by have:=g.1;grind
  subst this;simp[adC]at e;subst e;exact .inl ⟨rfl,by simp[Instr.findAsking]⟩
 |(a,v)::es,[],i,w,g,k,r,e=>by grind[AK]
 |(a,v)::es,d::E,i,w,g,k,r,e=>by
  have l:VR n m a d.key:=g.2 0 _ _ rfl rfl;have h2:VR n m v d.val:=k.2 0 _ _ rfl rfl;have o:AK n m (es.map (·.1)) (E.map (·.key)):=by simpa using g.drop 1
  have p:AK n m (es.map (·.2)) (E.map (·.val)):=by simpa using k.drop 1
  simp only[adC]at e;split at e
  .rename_i ha;injection e with e;subst e;have:=jN P c key d.key (Et b l ha) w;refine .inr ⟨i,v,d.val,rfl,?_,h2,qL0 _,a,d.key,Ma,Ma,l,ha⟩;unfold Instr.findAsking;grind[Go.Sem.run_bind,Go.Result.andThen_ok,Go.Sem.run_pure]
  .rename_i ha;have:=jN P c key d.key (Et b l ha) w;have hs:(Instr.findAsking c key (d::E) i).run P w=(Instr.findAsking c key E (i+1)).run P w:=by
    conv=>lhs;unfold Instr.findAsking
    grind[Go.Sem.run_bind,Go.Result.andThen_ok]
   rcases aa0 b es E (i+1) w o p r e with⟨q,s⟩|⟨j,u,u',q,s,t,y,f,k2,z,A,x⟩
   .grind
   .refine .inr ⟨j,u,u',q,hs.trans s,t,NH,f,k2,?_,?_,x⟩
    all_goals grind
  .cases e
theorem aa2{P:Program}{b:TypeId}{key:vV}(c:ac4 P b key=tT)(E:List MapEntry)(w:World):(Instr.findKey b key E).run P w=(Instr.findAsking b key E).run P w:=by
 obtain⟨len,e,k,xs,a,d,rfl,f,ha,hs,g⟩:=SX c;unfold Instr.findKey;rw[Sem.run_bind,run_underlying d];simp only[Result.andThen_ok];cases E with
 |nil=>simp[Instr.findNow,Instr.findAsking]
 |cons i E=>simp[Instr.findNow,Instr.sameNow]
theorem qK{n:Nat}{m:abd}:∀{l:xLV}{a:List (IntKind×Int)},aa9 l=Z a->AK n m l l
 |[],_,_=>.nil _ _
 |v::l,a,ha=>by
  cases v<;>simp only[aa9]at ha<;>try cases ha
  split at ha
  .rename_i r b;exact .cons (.flat rfl) (qK b)
  .cases ha
theorem Wd{P:Program}{a:TypeId}{x:vV}{n:Nat}{m:abd}(b:ac4 P a x=tT):VR n m x x:=by grind[SX,VR.uk,qK]
theorem agi{P:Program}(R:Rel W0 m h w){t:TypeId}{x i x' f v:vV}{ok:Bool}(l:VR h.next m x x')(hi:VR h.next m i f)(e:adH P h t x i ok=Z v):
  ∃v',(Instr.lookup t x' f ok).run P w=.ok v' w/\VR h.next m v v':=by
 unfold adH at e;split at e
 .rename_i n p r s;split at e
  .rename_i a;split at e
   .rename_i es g y z;have:=CW a hi;subst this;cases l with
    |flat hf=>grind[flat]
    |map C=>
     have⟨E,clock,_,A,h2,h3⟩:=R.mD (P:=P) y
     have c:(Instr.lookup t (.map (Z (m r).blk)) f ok).run P w=((do
       let(v,o) <-match<-Instr.findAsking n f E.toList with
        |some (_,v)=>pure (v,tT)
        |none=>pure (<-zeroValue p,fF)
       pure (if ok then .tuple #[v,.bool o]else v):Sem vV)).run P w:=by
      unfold Instr.lookup;simp only[Sem.run_bind,run_underlying s,Result.andThen_ok,A,Sem.run_pure];grind[mo,Go.Result.andThen_ok,aa2]
     split at e
     .rename_i j u hf;injection e with e;subst e;rcases aa0 (Wd a) es E.toList 0 w h2 h3 _ hf with⟨q,_⟩|⟨B,u1,u',b,D,k,_⟩
      .cases q
      .injection b with b;simp only[jf]at b;obtain⟨rfl,rfl⟩:=b
       refine⟨if ok then .tuple #[u',.bool tT]else u',?_,?_⟩
       .grind[Go.Sem.run_bind,Go.Result.andThen_ok,Go.Sem.run_pure]
       .cases ok
        .exact k
        .exact .qY (.cons k (.cons (.flat rfl) (.nil _ _)))
     .rename_i hf;split at e
      .rename_i d;injection e with e;subst e;rcases aa0 (Wd a) es E.toList 0 w h2 h3 _ hf with⟨_,q⟩|⟨B,u1,u',b,_⟩
       .refine⟨if ok then .tuple #[g,.bool fF]else g,?_,?_⟩
        .rw[c];simp only[Sem.run_bind,q,Result.andThen_ok,Sem.run_pure,rn z]
        .cases ok
         .exact .flat d
         .exact .qY (.cons (.flat d) (.cons (.flat rfl) (.nil _ _)))
       .cases b
      .cases e
     .cases e
   .cases e
  .cases e
 .cases e
theorem wN:∀{l l':xLV}{a:List (IntKind×Int)},aa9 l=Z a->aa9 l'=Z a->l=l'
 |[],[],_,_,_=>rfl
 |[],v::l',a,h,h'=>by
  simp only[aa9,ag4]at h;subst h
  cases v<;>simp only[aa9]at h'<;>try cases h'
  grind
 |v::l,[],a,h,h'=>by
  simp only[aa9,ag4]at h';subst h'
  cases v<;>simp only[aa9]at h<;>try cases h
  grind
 |v::l,v'::l',a,h,h'=>by
  cases v<;>simp only[aa9]at h<;>try cases h
  cases v'<;>simp only[aa9]at h'<;>try cases h'
  split at h
  .rename_i r c;split at h'
   .rename_i f b;injection h with h;injection h' with h';subst h;injection h' with d h2;injection d with h3 e;subst h2 h3 e;rw[wN c b]
   .cases h'
  .cases h
theorem fI{P:Program}{c:TypeId}{key b:vV}(d:ac4 P c key=tT)(e:aEq P c key b=Z tT):b=key:=by
 obtain⟨len,el,k,xs,a,f,rfl,g,ha,hs,i⟩:=SX d
 cases b<;>simp only[aEq,f]at e<;>try cases e
 grind[wN,Array.toList_inj]
theorem tK:∀{l:xLV}{a:List (IntKind×Int)},aa9 l=Z a->∀n,((l.zip l).all fun(x,y)=>Instr.sameBits n x y)=tT
 |[],_,_,_=>rfl
 |v::l,a,ha,n=>by
  cases v<;>simp only[aa9]at ha<;>try cases ha
  split at ha
  .rename_i k z _ r b;have:=tK b n;have c:Instr.sameBits n (.int k z) (.int k z)=tT:=by cases n<;>simp[Instr.sameBits]
   grind[zip_cons_cons]
  .cases ha
theorem uG{P:Program}{b:TypeId}{key:vV}(c:ac4 P b key=tT)(w:World):(Instr.keyThatStays key key).run P w=.ok key w:=by
 obtain⟨len,el,k,xs,a,d,rfl,e,ha,hs,f⟩:=SX c;have:Instr.sameBits 10000 (.agg xs) (.agg xs)=tT:=by have:=tK ha 9999;show(xs.size==xs.size&&_)=tT;grind
 unfold Instr.keyThatStays;rw[abe this];simp
theorem jy{P:Program}(R:Rel W0 m h w){t:TypeId}{x i v x' f v':vV}{h':aai}(l:VR h.next m x x')(hi:VR h.next m i f)(n:VR h.next m v v')(e:aea P h t x i v=Z h'):
  ∃w',(Instr.mapUpdate t x' f v').run P w=.ok () w'/\Rel W0 m h' w'/\h'.next=h.next:=by
 unfold aea at e;split at e
 .rename_i G H r g;split at e
  .rename_i a;split at e
   .rename_i es c;have:=CW a hi;subst this;cases l with
    |flat hf=>grind[flat]
    |map I=>
     have⟨E,clock,hb,k,h2,h3⟩:=R.mD (P:=P) c;split at e
     .rename_i j u hf;injection e with e;subst e;rcases aa0 (Wd a) es E.toList 0 w h2 h3 _ hf with⟨q,_⟩|⟨o,u1,u',b,J,K,_,L,k2,p,s,y,z⟩
      .cases q
      .injection b with b;simp only[jf]at b;obtain⟨rfl,rfl⟩:=b;rw[qL243]at p s;obtain rfl:=fI a z;obtain rfl:=CW a y;have A:j<es.length:=by
        cases M:es[j]?<;>grind
       have hlen:E.toList.length=es.length:=by have:=h2.1;grind
       have B:j<E.size:=hGr;have C:((E[j]?).map (·.key)).getD k2=k2:=hGr;refine⟨_,?_,R.HF (E':=E.modify j fun d=>{d with key:=k2,val:=v'}) (clock':=clock) c hb ?_ ?_ ((R.born c hb).modify _ _ fun _=>rfl),rfl⟩
       .unfold Instr.mapUpdate;simp only[Sem.run_bind,run_underlying g,Result.andThen_ok,k];grind[mo,Go.Result.andThen_ok,aa2,Go.Sem.run_bind,uG,run_setObj_map]
       .have:=h2.set j (x:=k2) (x':=k2) (Wd a);refine(?_:AK _ _ _ _);have D:(es.set j (k2,v)).map (·.1)=(es.map (·.1)).set j k2:=by rw[agK]
        have F:((E.modify j fun d=>{d with key:=k2,val:=v'}).toList.map (·.key))=(E.toList.map (·.key)).set j k2:=by apply mJ;grind
        grind
       .have:=h3.set j (x:=v) (x':=v') n;have D:(es.set j (k2,v)).map (·.2)=(es.map (·.2)).set j v:=by rw[agK]
        have F:((E.modify j fun d=>{d with key:=k2,val:=v'}).toList.map (·.val))=(E.toList.map (·.val)).set j v':=by apply mJ;grind
        grind
     .rename_i hf;injection e with e;subst e;rcases aa0 (Wd a) es E.toList 0 w h2 h3 _ hf with⟨_,q⟩|⟨o,u1,u',b,_⟩
      .refine⟨_,?_,R.HF (E':=E.push {key:=f,val:=v',born:=clock}) (clock':=clock+1) c hb ?_ ?_ ((R.born c hb).push _ _),rfl⟩
       .unfold Instr.mapUpdate;simp only[Sem.run_bind,run_underlying g,Result.andThen_ok,k];grind[mo,Go.Result.andThen_ok,aa2,run_setObj_map]
       all_goals grind[AK.append,AK.cons,AK.nil]
      .cases b
     .cases e
   .cases e
  .cases e
 .cases e
def aer(P:Program)(h:aai)(t:TypeId)(x i:vV)(ok:Bool):Option vV:=
 match acR P h t x i ok with
 |some v=>Z v
 |none=>adH P h t x i ok
def aet(P:Program)(h:aai)(t:TypeId)(x i v:vV):Option aai:=
 match acM P h t x i v with
 |some v=>Z v
 |none=>aea P h t x i v
theorem AJ{P:Program}(R:Rel W0 m h w){t:TypeId}{x i x' a v:vV}{ok:Bool}(b:VR h.next m x x')(hi:VR h.next m i a)(e:aer P h t x i ok=Z v):
  ∃v',(Instr.lookup t x' a ok).run P w=.ok v' w/\VR h.next m v v':=by grind[aer,agp,agi]
theorem DZ{P:Program}(R:Rel W0 m h w){t:TypeId}{x i v x' a v':vV}{h':aai}(b:VR h.next m x x')(hi:VR h.next m i a)(c:VR h.next m v v')(e:aet P h t x i v=Z h'):
  ∃w',(Instr.mapUpdate t x' a v').run P w=.ok () w'/\Rel W0 m h' w'/\h'.next=h.next:=by grind[aet,Um,jy]
def ad9(P:Program)(h:aai)(t:TypeId)(x i:vV):Option (vV×aai):=
 match P.underlying t,x with
 |some (.map b c),.map (Z r)=>
  if ac4 P b i then
   match h.own r,acd P c with
   |some (.map es),Z a=>
    match adC P b i es 0 with
    |some (Z (j,v))=>Z (.tuple #[v,j],h.put r (.map es))
    |some Y=>if flat a then Z (.tuple #[a,es.length],h.put r (.map (es++[(i,a)])))else Y
    |none=>Y
   |_,_=>Y
  else Y
 |_,_=>Y
def acT(h:aai)(x s v:vV):Option aai:=
 match x,s with
 |.map (Z r),.int .i64 j=>
  match h.own r with
  |some (.map es)=>
   if 0<=j then
    match es[j.toNat]? with
    |some p=>Z (h.put r (.map (es.set j.toNat (p.1,v))))
    |none=>Y
   else Y
  |_=>Y
 |_,_=>Y
theorem ael{P:Program}(R:Rel W0 m h w){t:TypeId}{x i x' k v:vV}{h':aai}(A:VR h.next m x x')(hi:VR h.next m i k)(e:ad9 P h t x i=Z (v,h')):
  OK P W0 m h w (Instr.mapEntry t x' k) v h':=by
 unfold ad9 at e;split at e
 .rename_i L M r y;split at e
  .rename_i a;split at e
   .rename_i es f g B;have:=CW a hi;subst this;cases A with
    |flat hf=>grind[flat]
    |map N=>
     have⟨E,clock,hb,z,h2,h3⟩:=R.mD (P:=P) g;have hB:=R.born g hb;split at e
     .rename_i j u hf;injection e with e;simp only[jf]at e;obtain⟨rfl,rfl⟩:=e;rcases aa0 (Wd a) es E.toList 0 w h2 h3 _ hf with⟨q,_⟩|⟨C,u1,u',c,D,F,_,O,k2,G,H,I,J⟩
      .cases q
      .injection c with c;simp only[jf]at c;obtain⟨rfl,rfl⟩:=c;rw[qL243]at G H;obtain rfl:=fI a J;obtain rfl:=CW a I;have l:((E[j]?).map (·.key)).getD k2=k2:=hGr;have n:((E[j]?).map fun x=>(x.born:Int)).getD 0=(j:Int):=by
        cases K:E[j]? with
        |none=>grind
        |some b=>have:=hB.2 j b K;simp[this]
       have o:((E.modify j fun b=>{b with key:=k2}).toList.map (·.key))=E.toList.map (·.key):=by apply mJ;grind
       have p:((E.modify j fun b=>{b with key:=k2}).toList.map (·.val))=E.toList.map (·.val):=by apply mJ;grind
       refine⟨m,.tuple #[u',j],_,?_,R.HF (E':=E.modify j fun b=>{b with key:=k2}) (clock':=clock) g hb (by rw[o];exact h2) (by rw[p];exact h3) (hB.modify _ _ fun _=>rfl),.refl _ _,qL0 _,.qY (.cons F (.cons (.flat rfl) (.nil _ _)))⟩;unfold Instr.mapEntry;simp only[Sem.run_bind,run_underlying y,Result.andThen_ok,z];rw[mo a];simp only[Result.andThen_ok,aa2 a,Sem.run_bind,D,l,uG a,run_setObj_map _ hb,Sem.run_pure,n,goInt]
     .rename_i hf;split at e
      .rename_i d;injection e with e;simp only[jf]at e;obtain⟨rfl,rfl⟩:=e;rcases aa0 (Wd a) es E.toList 0 w h2 h3 _ hf with⟨_,q⟩|⟨C,u1,u',c,_⟩
       .have hlen:E.size=es.length:=by have:=h2.1;grind
        have s:clock=es.length:=hB.1.trans hlen;refine⟨m,.tuple #[f,es.length],_,?_,R.HF (E':=E.push {key:=k,val:=f,born:=clock}) (clock':=clock+1) g hb ?_ ?_ (hB.push _ _),.refl _ _,qL0 _,.qY (.cons (.flat d) (.cons (.flat rfl) (.nil _ _)))⟩
        .unfold Instr.mapEntry;simp only[Sem.run_bind,run_underlying y,Result.andThen_ok,z];rw[mo a];simp only[Result.andThen_ok,aa2 a,Sem.run_bind,q,rn B,run_setObj_map _ hb,Sem.run_pure,s,goInt]
        .grind[AK.append,AK.cons,AK.nil]
        .have:VR h.next m f f:=.flat d
         grind[AK.append,AK.cons,AK.nil]
       .cases c
      .cases e
     .cases e
   .cases e
  .cases e
 .cases e
theorem ac6{P:Program}(R:Rel W0 m h w){t:TypeId}{x s v x' s' v':vV}{h':aai}(l:VR h.next m x x')(hs:VR h.next m s s')(n:VR h.next m v v')(e:acT h x s v=Z h'):
  ∃w',(Instr.entryStore t x' s' v').run P w=.ok () w'/\Rel W0 m h' w'/\h'.next=h.next:=by
 unfold acT at e;split at e
 .rename_i r j;split at e
  .rename_i es c;split at e
   .rename_i o;split at e
    .rename_i p k;injection e with e;subst e;have:=hs.Ja;subst this;cases l with
     |flat hf=>grind[flat]
     |map u=>
      have⟨E,clock,hb,q,h2,h3⟩:=R.mD (P:=P) c;have hB:=R.born c hb;obtain⟨j,rfl⟩:=WA o;rw[yM]at k ⊢;have hlen:E.size=es.length:=by have:=h2.1;grind
      have b:j<E.size:=by rw[hlen];exact(Ny.1 k).1
      have d:E.findIdx? (fun a=>((a.born:Int)==(j:Int)))=Z j:=by
       rw[Array.findIdx?_eq_some_iff_getElem];refine⟨b,?_,fun i hi=>?_⟩
       .have:=hB.2 j E[j] (ahD b);simp[this]
       .have:=hB.2 i E[i] (ahD NH);simp[this];omega
      refine⟨_,?_,R.HF (E':=E.modify j fun a=>{a with val:=v'}) (clock':=clock) c hb ?_ ?_ (hB.modify _ _ fun _=>rfl),rfl⟩
      .unfold Instr.entryStore;simp only[Sem.run_bind,q,Result.andThen_ok,asInt,asIntOf,Sem.run_pure,d];exact run_setObj_map _ hb
      .have f:(es.set j (p.1,v)).map (·.1)=es.map (·.1):=by
        rw[agK];refine mJ fun i=>?_;grind
       have g:((E.modify j fun a=>{a with val:=v'}).toList.map (·.key))=E.toList.map (·.key):=by apply mJ;grind
       rw[f,g];exact h2
      .have:=h3.set j (x:=v) (x':=v') n;have f:(es.set j (p.1,v)).map (·.2)=(es.map (·.2)).set j v:=by rw[agK]
       have g:((E.modify j fun a=>{a with val:=v'}).toList.map (·.val))=(E.toList.map (·.val)).set j v':=by apply mJ;grind
       rw[f,g];exact this
    .cases e
   .cases e
  .cases e
 .cases e
def ae9(P:Program)(h:aai)(t:TypeId)(x:vV):Option (vV×aai):=
 match P.underlying t,x with
 |some (.slice e),.slice a n _=>
  bif n==0 then Z (.tuple #[],h)else
  match a,acd P e with
  |some ⟨id,off,Y⟩,Z z=>
   match h.own id with
   |some (.cells c)=>bif z.cells.toList.all flat&&decide (off+n*z.cells.size<=c.length)then Z (.tuple #[],h.put id (.cells (putCells c off (acY z.cells.toList n))))else Y
   |_=>Y
  |_,_=>Y
 |_,_=>Y
theorem apL{P:Program}(R:Rel W0 m h w){t:TypeId}{ats:Array TypeId}(b:ats[0]?=Z t){ty:TypeId}{x x' v:vV}{h':aai}(p:VR h.next m x x')(e:ae9 P h t x=Z (v,h')):
  OK P W0 m h w (Builtin.clear_ ats ty #[x']) v h':=by
 unfold ae9 at e;split at e
 .rename_i el a n cap q;by_cases s:n=0
  .subst s;simp only[beq_self_eq_true,cond_true]at e;injection e with e;simp only[jf]at e;obtain⟨rfl,rfl⟩:=e;obtain⟨u,c',rfl,f⟩:=p.YC;refine⟨m,.tuple #[],w,?_,R,.refl _ _,qL0 _,.qY (.nil _ _)⟩;unfold Builtin.clear_;cases u<;>simp[b,run_underlying q]
  .have g:(n==0)=fF:=hGr;rw[g,cond_false]at e;split at e
   .rename_i id off z y;split at e
    .rename_i c A;cases i:(z.cells.toList.all Fw.flat&&decide (off+n*z.cells.size<=c.length))with
     |false=>grind
     |true=>
      rw[i,cond_true]at e;injection e with e;simp only[jf]at e;obtain⟨rfl,rfl⟩:=e;rw[rY,vg]at i;have⟨j,r⟩:=i;have d:=Ew Fw.flat _ j n;have⟨w',hw,R'⟩:=Rel.jW P (acY z.cells.toList n) (acY z.cells.toList n) 0 R (off:=off) A (by grind[jY]) (AK.flat d) (fun v B=>fj.1 (apG d) v B);obtain⟨k,rfl⟩:∃k,n=k+1:=⟨n-1,NH⟩;have l:(Builtin.zeroCells z.cells (k+1)).toList=acY z.cells.toList (k+1):=MI _ _ _ rfl;refine⟨m,.tuple #[],w',?_,hGr,.refl _ _,qL0 _,.qY (.nil _ _)⟩;have o:∃c',x'=sL (Z ⟨(m id).blk,(m id).base+off,Y⟩) (k+1) c':=by
       cases p with
       |flat hf=>grind[flat]
       |slice _ _=>grind
       |buf _ C ha=>
        rcases ha with⟨rfl,_⟩|D
        all_goals grind
      obtain⟨c',rfl⟩:=o;unfold Builtin.clear_;simp only[b,agh,MY,Sem.run_bind,run_underlying q,Result.andThen_ok,rn y,l,hw];rfl
    .cases e
   .cases e
 .cases e
open Go.ChangeMaps (setBlock)
def aoj(P:Program)(h:aai)(t:TypeId)(x:vV):Option (vV×aai):=
  match P.underlying t,x with
  |some (.map _ _),.map (Z r)=>match h.own r with
    |some (.map es)=>Z (pT (Z h.next),h.alloc (.iter r es.length [] es.length))
    |_=>Y
  |_,_=>Y
theorem apM{P:Program}(R:Rel W0 m h w){t:TypeId}{x x' v:vV}{h':aai}(c:VR h.next m x x')(e:aoj P h t x=Z (v,h')):OK P W0 m h w (Instr.range t x') v h':=by
 unfold aoj at e;split at e
 .rename_i l o r f;split at e
  .rename_i es d;injection e with e;simp only[jf]at e;obtain⟨rfl,rfl⟩:=e
   have a:x'=.map (Z (m r).blk)/\r<h.next:=by
    cases c with
    |flat hf=>grind[flat]
    |map g=>exact⟨rfl,g⟩
   obtain⟨rfl,b⟩:=a;obtain⟨E,clock,hb,hg,j,-⟩:=R.mD (P:=P) d;have hB:=R.born d hb;have hlen:E.size=es.length:=by have:=j.1;simpa using this.symm
   have k:clock=es.length:=by rw[hB.1,hlen]
   refine⟨_,pT (Z w.heap.size),w.alloc (.mapIter (Z (m r).blk) clock #[] clock),?_,R.add ⟨w.heap.size,0,0⟩ (.iter r es.length [] es.length) Ma (by grind[Go.heap_alloc_old]) R.size (fun i hi c=>?_) ?_ rfl rfl ⟨rfl,qL0 _⟩,Qq _ _ _,alu _,?_⟩
   .simp only[Instr.range,Sem.run_bind,run_underlying f,Result.andThen_ok,hg,run_newObj,Sem.run_pure];rfl
   .grind[Rel.Hc]
   .refine⟨?_,rfl,b⟩;rw[k];exact heap_alloc_new w _
   .have:=VR.ptr (n:=h.next+1) (m:=upd m h.next ⟨w.heap.size,0,0⟩) (id:=h.next) (off:=0) (afC h.next)
    rw[zf]at this;exact this
  .cases e
 .cases e
theorem Rel.setIter(R:Rel W0 m h w){b r k l l':Nat}{s s':II}(v:h.own b=Z (.iter r k s l)):
  Rel W0 m (h.put b (.iter r k s' l')) (setBlock w (m b).blk (.mapIter (Z (m r).blk) k s'.toArray l')):=by
 have p:h.own b≠Y:=by rw[v];simp
 have⟨hb,x,q⟩:=R.own b _ v;have a:∀i,(h.put b (.iter r k s' l')).own i≠Y->h.own i≠Y:=by grind[aai.By]
 have y:(m b).blk<w.heap.size:=(ah7.1 hb).1;have g:∀c,c≠(m b).blk->(w.heap.setIfInBounds (m b).blk (.mapIter (Z (m r).blk) k s'.toArray l'))[c]?=w.heap[c]?:=fun c t=>by grind
 refine⟨by simpa[setBlock]using R.size,fun c t=>?_,R.ext,fun i f=>R.lt i (a i f),fun i f=>R.new i (a i f),fun i o d=>?_,fun i j f u=>R.inj i j (a i f) (a j u),R.os,R.output,R.tape,R.aah.put a (fun c _ t=>g c (fun e=>t b p e.symm))⟩
 .show(w.heap.setIfInBounds _ _)[c]?=_;grind[Rel.new,Rel.qi]
 .by_cases n:i=b
  .subst n;rw[aai.Y3]at d;injection d with d;subst d;exact⟨by show(w.heap.setIfInBounds _ _)[_]?=_;grind,x,q⟩
  .rw[aai.By _ _ _ _ n]at d;exact Rel.JP (R.own i o d) (qL0 _) (ZK.refl _ _) (g _ (fun e=>n (R.inj i b hGr p e)))
def next_ok{P:Program}(R:Rel W0 m h w){b r k l:Nat}{s:II}{es:List (vV×vV)}(hb:h.own b=Z (.iter r k s l))(G:h.own r=Z (.map es))(S:es.length<=k)(H:k<=l){v':vV}(I:VR h.next m (pT (Z b)) v')(ty:TypeId):
  (∃i key val,es[i]?=Z (key,val)/\i∉s/\OK P W0 m h w (Instr.next v' fF ty) (.tuple #[.bool tT,key,val]) (h.put b (.iter r k (s++[i]) es.length)))\/
  ((∀i,i<es.length->i∈s)/\OK P W0 m h w (Instr.next v' fF ty) (.tuple #[.bool fF]) h):=by
 have⟨t,J,K⟩:=R.own b _ hb;have⟨E,clock,u,o,x,hB⟩:=R.own r _ G;have hlen:E.size=es.length:=by have:=o.1;simpa using this.symm
 obtain⟨a',rfl,y⟩:=I.akS;have ha:a'=⟨(m b).blk,0,Y⟩:=by
  cases y with
  |own L=>rw[J]
 subst ha;have born:∀e∈E.toList,∃i:Nat,E[i]?=Z e/\e.born=i/\i<es.length:=fun e f=>by
  have⟨i,hi⟩:=vZ.1 f;have g:E[i]?=Z e:=by rw[<-ah6];exact hi
  exact⟨i,g,hB.2 i e g,by rw[<-hlen];exact(ah7.1 g).1⟩
 have hold:∀e∈E.toList,e.born<k:=fun e f=>by obtain⟨i,-,L,h2⟩:=born e f;omega
 rcases run_next_at (P:=P) w ty (m b).blk (m r).blk k l s.toArray E clock t u hold H with⟨M,a⟩|⟨e,f,w1,z,a⟩
 .right;refine⟨fun i hi=>?_,OK.pure R ⟨_,a,.tuple rfl ?_⟩⟩
  .have p:i<E.size:=NH;refine ZT fun N=>?_;have F:E[i]∈(leftOf E s.toArray).toList:=by
    unfold leftOf;rw[qL233,Array.mem_filter];refine⟨Array.getElem_mem p,?_⟩;have sZ:=hB.2 i E[i] (ahD p);rw[sZ];simpa using N
   rw[Array.eq_empty_of_size_eq_zero M]at F;simp at F
  .intro i v v' c d;cases i with
   |zero=>simp at c d;subst c d;exact .flat rfl
   |succ i=>simp at c
 .left;unfold leftOf at f;rw[qL233,Array.mem_filter]at f;have⟨A,B⟩:=f;have⟨i,hi,q,n⟩:=born e (by simpa using A);have C:=o.2 i es[i].1 e.key (by simp[n]) (by rw[aiq,ah6,hi];rfl);have D:=x.2 i es[i].2 e.val (by simp[n]) (by rw[aiq,ah6,hi];rfl);have O:clock=es.length:=by rw[hB.1,hlen]
  refine⟨i,es[i].1,es[i].2,qL7 n,by rw[<-q];simpa using B,m,.tuple #[.bool tT,e.key,e.val],_,a,?_,.refl _ _,qL0 _,.tuple rfl ?_⟩
  .have Q:Rel W0 m h w1:=by rcases z with rfl|rfl;exact R;exact R.drew
   have:=Q.setIter (l':=es.length) (s':=s++[i]) hb;rw[q,O];have d:s.toArray.push i=(s++[i]).toArray:=by simp
   rw[d];exact this
  .intro j v v' c d;rcases j with _|_|_|j
   .simp at c d;subst c d;exact .flat rfl
   .simp at c d;subst c d;exact C
   .simp at c d;subst c d;exact D
   .simp at c
end
section
variable{W0:abw}{m:abd}{h:aai}{w:World}
abbrev aam:=Trie vV
def aa6(fr:aam):Operand->Option vV
 |.tmp t=>fr.get t
 |.const v=>bif flat v then Z v else Y
 |.func f=>Z (.func (.func f) #[] #[])
 |.global _=>Y
def FR(n:Nat)(m:abd)(fr:aam)(tmps:Array vV):Prop:=∀k v,fr.get k=Z v->∃v',tmps[k]?=Z v'/\VR n m v v'
theorem FR.mono{n a:Nat}{m b:abd}{fr:aam}{t:Array vV}(F:FR n m fr t)(c:n<=a)(d:ZK n m b):FR a b fr t:=fun k v e=>let⟨v',f,h2⟩:=F k v e;⟨v',f,h2.mono c d⟩
theorem Ns{n:Nat}{m:abd}{fr:aam}{a:Act}(F:FR n m fr a.tmps){o:Operand}{v:vV}(e:aa6 fr o=Z v):VR n m v (a.eval o):=by
 cases o with
 |tmp t=>
  have⟨v',b,h2⟩:=F t v e;have:a.eval (.tmp t)=v':=by simp[Act.eval,kS,b]
  grind
 |const c=>
  simp only[aa6]at e;cases hf:flat c with
  |true=>rw[hf]at e;simp at e;subst e;exact .flat hf
  |false=>grind
 |global g=>grind[aa6]
 |func f=>simp only[aa6]at e;injection e with e;subst e;exact .func rfl rfl (fun i v v' h=>by simp at h) (fun i v v' h=>by simp at h)
def acZ(fr:aam):List Operand->Option xLV
  |[]=>Z []
  |o::r=>match aa6 fr o with
    |some v=>match acZ fr r with|some l=>Z (v::l)|none=>Y
    |none=>Y
theorem PZ{n:Nat}{m:abd}{fr:aam}{a:Act}(F:FR n m fr a.tmps):∀{l:List Operand}{vs:xLV},acZ fr l=Z vs->AK n m vs (l.map a.eval)
 |[],vs,e=>by grind[acZ,AK.nil]
 |o::r,vs,e=>by
  simp only[acZ]at e;split at e
  .rename_i v b;split at e
   .rename_i l c;injection e with e;subst e;exact .cons (Ns F b) (PZ F c)
   .cases e
  .cases e
def aeb(fr:aam):List (Nat×Operand)->Option (List (Nat×vV))
  |[]=>Z []
  |(i,o)::r=>match aa6 fr o with
    |some v=>match aeb fr r with|some l=>Z ((i,v)::l)|none=>Y
    |none=>Y
def He{n:Nat}{m:abd}{fr:aam}{a:Act}(F:FR n m fr a.tmps):∀{l:List (Nat×Operand)}{vs:List (Nat×vV)},aeb fr l=Z vs->PRs n m vs (l.map fun p=>(p.1,a.eval p.2))
 |[],vs,e=>by simp[aeb]at e;subst e;exact .nil
 |(i,o)::r,vs,e=>by
  simp only[aeb]at e;split at e
  .rename_i v b;split at e
   .rename_i l c;injection e with e;subst e;exact .cons (Ns F b) (He F c)
   .cases e
  .cases e
def aec(fr:aam):Option Operand->Option (Option vV)
 |none=>Z Y
 |some o=>match aa6 fr o with|some v=>Z (Z v)|none=>Y
def Oh{n:Nat}{m:abd}{fr:aam}{a:Act}(F:FR n m fr a.tmps){o:Option Operand}{v:Option vV}(e:aec fr o=Z v):VRo n m v (o.map a.eval):=by
 cases o with
 |none=>simp[aec]at e;subst e;exact .none
 |some o=>
  simp only[aec]at e;split at e
  .rename_i u b;injection e with e;subst e;exact .some (Ns F b)
  .cases e
def Yx:vV:=.tuple #[]
def acy(x:vV):Option vV:=
 match x with
 |.pointer (Z a)=>Z (pT (Z a))
 |.func (.func f) a b=>Z (.func (.func f) a b)
 |_=>Y
def aeZ(P:Program)(h:aai)(b:Builtin)(ats:List TypeId)(args:xLV):Option (vV×aai):=
 match b,ats,args with
 |.append,[t,xt],[s,x]=>aaR P h t xt s x
 |.len,t::_,[x]=>match aeh P h t x with|some v=>Z (v,h)|none=>Y
 |.copy,t::_,[d,s]=>afo P h t d s
 |.clear,t::_,[s]=>ae9 P h t s
 |.min,_,x::r=>match agw x r with|some v=>Z (v,h)|none=>Y
 |.max,_,x::r=>match LZ x r with|some v=>Z (v,h)|none=>Y
 |_,_,_=>Y
def abr(P:Program)(fr:aam)(h:aai)(o:Oper):Option (vV×aai):=
  match o.op with
  |.move x|.assign x=>match aa6 fr x with|some v=>Z (v,h)|none=>Y
  |.pick c a b=>match aa6 fr c with
    |some (.bool t)=>match aa6 fr (bif t then a else b)with|some v=>Z (v,h)|none=>Y
    |_=>Y
  |.alloc t=>abO P h t
  |.box _ x=>match aa6 fr x with|some v=>zF h v|none=>Y
  |.build t ps=>match aeb fr ps.toList with
    |some l=>match acB P t l with|some v=>Z (v,h)|none=>Y
    |none=>Y
  |.buildSlice t len ps=>match aeb fr ps.toList with|some l=>aas P h t len l|none=>Y
  |.load t a=>match aa6 fr a with
    |some (pT (Z ad))=>match aaC P h t ad with|some v=>Z (v,h)|none=>Y
    |_=>Y
  |.store t a x=>match aa6 fr a,aa6 fr x with
    |some e,Z g=>match aaK P h t e g with|some h'=>Z (Yx,h')|none=>Y
    |_,_=>Y
  |.nilCheck x=>match aa6 fr x with
    |some v=>match acy v with|some v=>Z (v,h)|none=>Y
    |none=>Y
  |.binOp op t x y _=>match aa6 fr x,aa6 fr y with
    |some a,Z b=>match mM P op t a b with|some v=>Z (v,h)|none=>Y
    |_,_=>Y
  |.unOp op _ x=>match aa6 fr x with
    |some a=>match aUn op a with|some v=>Z (v,h)|none=>Y
    |none=>Y
  |.convert s d x=>match aa6 fr x with|some a=>acX P h s d a|none=>Y
  |.makeFunc fn first cap=>match acZ fr first.toList,acZ fr cap.toList with
    |some a,Z b=>Z (.func fn a.toArray b.toArray,h)
    |_,_=>Y
  |.makeMap t r=>match r with
    |none=>Z (.map (Z h.next),h.alloc (.map []))
    |some o=>match aa6 fr o,P.underlying t with
      |some (.int _ _),Z (.map _ _)=>Z (.map (Z h.next),h.alloc (.map []))
      |_,_=>Y
  |.makeSlice t l c=>match aa6 fr l,aa6 fr c with
    |some a,Z b=>abl P h t a b
    |_,_=>Y
  |.slice t x lo hi j=>match aa6 fr x,aec fr lo,aec fr hi,aec fr j with
    |some a,Z l,Z r,Z k=>match abf P t a l r k with|some v=>Z (v,h)|none=>Y
    |_,_,_,_=>Y
  |.fieldAddr s x f=>match aa6 fr x with
    |some a=>match aca P s a f with|some v=>Z (v,h)|none=>Y
    |none=>Y
  |.indexAddr t x i=>match aa6 fr x,aa6 fr i with
    |some a,Z b=>match aao P t a b with|some v=>Z (v,h)|none=>Y
    |_,_=>Y
  |.index t x i=>match aa6 fr x,aa6 fr i with
    |some a,Z b=>match afh P t a b with|some v=>Z (v,h)|none=>Y
    |_,_=>Y
  |.extract x i=>match aa6 fr x with
    |some a=>match acW a i with|some v=>Z (v,h)|none=>Y
    |none=>Y
  |.lookup t x i ok=>match aa6 fr x,aa6 fr i with
    |some a,Z b=>match aer P h t a b ok with|some v=>Z (v,h)|none=>Y
    |_,_=>Y
  |.mapUpdate t x k y=>match aa6 fr x,aa6 fr k,aa6 fr y with
    |some a,Z b,Z c=>match aet P h t a b c with|some h'=>Z (Yx,h')|none=>Y
    |_,_,_=>Y
  |.call {callee:=.builtin b,args,argTypes}=>match acZ fr args.toList with
    |some vs=>aeZ P h b argTypes.toList vs
    |none=>Y
  |.mapEntry t x k=>match aa6 fr x,aa6 fr k with
    |some a,Z b=>ad9 P h t a b
    |_,_=>Y
  |.entryStore _ x s y=>match aa6 fr x,aa6 fr s,aa6 fr y with
    |some a,Z b,Z c=>match acT h a b c with|some h'=>Z (Yx,h')|none=>Y
    |_,_,_=>Y
  |.range t x=>match aa6 fr x with|some a=>aoj P h t a|none=>Y
  |_=>Y
def Ot(P:Program)(W0:abw)(m:abd)(h:aai)(w:World)(s:Sem Next)(v:vV)(h':aai):Prop:=∃a v' w',(s.run P w=.ok (.value v') w'\/(s.run P w=.ok .skip w'/\v'=undef))/\Rel W0 a h' w'/\ZK h.next m a/\h.next<=h'.next/\VR h'.next a v v'
theorem Ot.TJ{P:Program}{s:Sem vV}{v:vV}{h':aai}(e:OK P W0 m h w s v h'):Ot P W0 m h w (do pure (.value (<-s))) v h':=by have⟨a,v',w',b,h2,h3,c,d⟩:=e;exact⟨a,v',w',.inl (by simp[b]),h2,h3,c,d⟩
def Ot.J0{P:Program}{s:Sem vV}{v:vV}(R:Rel W0 m h w)(e:∃v',s.run P w=.ok v' w/\VR h.next m v v'):Ot P W0 m h w (do pure (.value (<-s))) v h:=
 .TJ (OK.pure R e)
theorem Ot.val{P:Program}{v v':vV}(R:Rel W0 m h w)(e:VR h.next m v v'):Ot P W0 m h w (pure (.value v')) v h:=⟨m,v',w,.inl Ma,R,.refl _ _,qL0 _,e⟩
theorem Dm{P:Program}(R:Rel W0 m h w){b:Builtin}{ats:Array TypeId}{ty:TypeId}{cs:Array Bool}{args a:xLV}{v:vV}{h':aai}(ha:AK h.next m args a)(e:aeZ P h b ats.toList args=Z (v,h')):Ot P W0 m h w (builtin b ats ty cs a.toArray) v h':=by
 unfold aeZ at e;split at e
 .rename_i t xt s x c;have g:ats=#[t,xt]:=hGr;subst g
  match a,ha with
  |[s',x'],ha=>exact .TJ (Uk R (ha.2 0 s s' rfl rfl) (ha.2 1 x x' rfl rfl) e)
  |[],ha|[_],ha|_::_::_::_,ha=>grind[AK]
 .rename_i t r x c;have f:ats[0]?=Z t:=by rw[<-ah6,c];rfl
  match a,ha with
  |[x'],ha=>
   split at e
   .rename_i l i;injection e with e;simp only[jf]at e;obtain⟨rfl,rfl⟩:=e;exact .J0 R (aLen_rel R f (ha.2 0 x x' rfl rfl) i)
   .cases e
  |[],ha|_::_::_,ha=>grind[AK]
 .rename_i t r d s c;have f:ats[0]?=Z t:=by rw[<-ah6,c];rfl
  match a,ha with
  |[n,s'],ha=>exact .TJ (aCopy_ok R f (ha.2 0 d n rfl rfl) (ha.2 1 s s' rfl rfl) e)
  |[],ha|[_],ha|_::_::_::_,ha=>grind[AK]
 .rename_i t r s c;have f:ats[0]?=Z t:=by rw[<-ah6,c];rfl
  match a,ha with
  |[s'],ha=>exact .TJ (apL R f (ha.2 0 s s' rfl rfl) e)
  |[],ha|_::_::_,ha=>grind[AK]
 .rename_i x r
  match a,ha with
  |x'::j,ha=>
   split at e
   .rename_i l i;injection e with e;simp only[jf]at e;obtain⟨rfl,rfl⟩:=e;have⟨v',k,h2⟩:=TZ (P:=P) r j (ha.2 0 x x' rfl rfl) (by simpa using ha.drop 1) i w;exact .J0 R ⟨v',by simpa[Builtin.min_]using k,h2⟩
   .cases e
  |[],ha=>grind[AK]
 .rename_i x r
  match a,ha with
  |x'::j,ha=>
   split at e
   .rename_i l i;injection e with e;simp only[jf]at e;obtain⟨rfl,rfl⟩:=e;have⟨v',k,h2⟩:=td (P:=P) r j (ha.2 0 x x' rfl rfl) (by simpa using ha.drop 1) i w;exact .J0 R ⟨v',by simpa[Builtin.max_]using k,h2⟩
   .cases e
  |[],ha=>grind[AK]
 .cases e
theorem aEq_agg{P:Program}{t:TypeId}{xs ys:Array vV}{r:Bool}(e:aEq P t (.agg xs) (.agg ys)=Z r):P.eqGuardType P.depth t=fF:=by unfold aEq at e;grind[acN]
theorem V1{P:Program}(R:Rel W0 m h w){op:BinOp}{t:TypeId}{x y:Operand}{a b a' c v:vV}(ha:VR h.next m a a')(hb:VR h.next m b c)(e:mM P op t a b=Z v):
  Ot P W0 m h w (do pure (.value (<-(do eqGuard op t x y a' c;binOp op t a' c)))) v h:=by
 unfold mM at e;cases hg:aci a with
 |false=>grind
 |true=>
  rw[hg]at e;simp only[cond_true]at e;have⟨hf,d⟩:=abin_rel ha hb e;refine .J0 R ⟨v,?_,.flat hf⟩;have f:(eqGuard op t x y a' c).run P w=.ok () w:=by
   refine agn P op t x y a' c w ?_ ?_
   .rintro⟨rfl,_⟩;cases ha<;>grind[aci]
   .rintro g i rfl rfl;cases ha with
    |flat hh=>grind[flat]
    |agg _ _=>
     cases hb with
     |flat hh=>grind[flat]
     |agg _ _=>
      rename_i xs ys _ _ _ _
      cases op<;>simp only[ae3]at e<;>(try cases e)
      all_goals grind[aEq_agg]
  rw[Sem.run_bind,f];exact d w
theorem ae4{P:Program}{a:Act}{fr:aam}{o:Oper}{v:vV}{h':aai}(R:Rel W0 m h w)(F:FR h.next m fr a.tmps)(e:abr P fr h o=Z (v,h')):
  Ot P W0 m h w (execOp a.eval o) v h':=by
 unfold abr at e;unfold execOp;split at e
 .grind[Ot.val,Ns]
 .grind[Ot.val,Ns]
 .rename_i c x y g;simp only[g];split at e
  .rename_i t U;split at e
   .rename_i u A;injection e with e;simp only[jf]at e;obtain⟨rfl,rfl⟩:=e;have G:=(Ns F U).YE;have B:=Ns F A
    refine⟨m,a.eval (bif t then x else y),w,.inl ?_,R,.refl _ _,qL0 _,B⟩
    simp only[G,asBool,Sem.run_bind,Sem.run_pure,Result.andThen_ok];grind
   .cases e
  .cases e
 .grind[Ot.TJ,apJ]
 .rename_i t x g;simp only[g];split at e
  .rename_i u A;exact .TJ (aBox_ok R (Ns F A) e)
  .cases e
 .rename_i t ps g;simp only[g];split at e
  .rename_i l H;split at e
   .rename_i u A;injection e with e;simp only[jf]at e;obtain⟨rfl,rfl⟩:=e;have:=WX (P:=P) (He F H) A w;refine .J0 R ?_
    have K:(ps.map fun x=>match x with|(i,x)=>(i,a.eval x))=(ps.toList.map fun p=>(p.1,a.eval p.2)).toArray:=hGr
    grind
   .cases e
  .cases e
 .rename_i t len ps g;simp only[g];split at e
  .rename_i l H;have:=Mg (P:=P) R (He F H) e
   have K:(ps.map fun x=>match x with|(i,x)=>(i,a.eval x))=(ps.toList.map fun p=>(p.1,a.eval p.2)).toArray:=hGr
   grind[Ot.TJ]
  .cases e
 .rename_i t x g;simp only[g];split at e
  .rename_i ad L;split at e
   .rename_i u A;injection e with e;simp only[jf]at e;obtain⟨rfl,rfl⟩:=e;have⟨a',mi,M⟩:=(Ns F L).akS;have⟨v',D,h2⟩:=R.loadVar (P:=P) M A;exact .J0 R ⟨v',by rw[mi];simp[Instr.loadAt,Instr.sureAddr,D],h2⟩
   .cases e
  .cases e
 .rename_i t x y g;simp only[g];split at e
  .rename_i av xv N O;split at e
   .rename_i h2 E;injection e with e;simp only[jf]at e;obtain⟨rfl,rfl⟩:=e;have⟨w',D,R',T⟩:=apK (P:=P) R (Ns F N) (Ns F O) E;exact⟨m,undef,w',.inr ⟨by simp[D],rfl⟩,R',.refl _ _,NH,.tuple rfl (fun i v v' h=>by simp at h)⟩
   .cases e
  .cases e
 .rename_i x g;simp only[g];split at e
  .rename_i u A;split at e
   .rename_i u' B;injection e with e;simp only[jf]at e;obtain⟨rfl,rfl⟩:=e;have I:=Ns F A;unfold acy at B;split at B
    .grind[VR.akS,Ot.val]
    .injection B with B;subst B;generalize a.eval x=x' at I ⊢;cases I with
     |flat hf=>grind[flat]
     |func D h2 h3 V=>exact .val R (.func D h2 h3 V)
    .cases B
   .cases e
  .cases e
 .rename_i op t x y yt g;simp only[g];split at e
  .rename_i p q j C;split at e
   .rename_i u A;injection e with e;simp only[jf]at e;obtain⟨rfl,rfl⟩:=e;exact V1 R (Ns F j) (Ns F C) A
   .cases e
  .cases e
 .rename_i op t x g;simp only[g];split at e
  .rename_i p j;split at e
   .rename_i u A;injection e with e;simp only[jf]at e;obtain⟨rfl,rfl⟩:=e;have⟨D,h2⟩:=aUn_rel P (Ns F j) A;exact .J0 R ⟨u,h2 w,.flat D⟩
   .cases e
  .cases e
 .rename_i s d x g;simp only[g];split at e
  .rename_i p j;exact .TJ (Mu R (Ns F j) e)
  .cases e
 .rename_i fn first cap g;simp only[g]
  split at e
  .rename_i p q j C;injection e with e;simp only[jf]at e;obtain⟨rfl,rfl⟩:=e;have D:=PZ F j;have h2:=PZ F C
   refine .J0 R ⟨.func fn (first.map a.eval) (cap.map a.eval),by simp[Instr.makeFunc],.func ?_ ?_ (fun i v v' e e'=>D.2 i v v' (by simpa using e) hGr) (fun i v v' e e'=>h2.2 i v v' (by simpa using e) hGr)⟩
   .have:=D.1;grind
   .have:=h2.1;grind
  .cases e
 .rename_i t r g;simp only[g];split at e
  .injection e with e;simp only[jf]at e;obtain⟨rfl,rfl⟩:=e;refine .TJ ⟨_,.map (Z w.heap.size),_,by simp[Instr.makeMap],R.allocMap,Qq _ _ _,alu _,?_⟩
   have:=VR.map (n:=h.next+1) (m:=upd m h.next ⟨w.heap.size,0,0⟩) (id:=h.next) (afC _)
   rw[zf]at this;exact this
  .split at e
   .rename_i r x y k i dk de j A;injection e with e;simp only[jf]at e;obtain⟨rfl,rfl⟩:=e;have I:=Ns F j;have Q:a.eval r=.int k i:=by
     generalize a.eval r=z at I;cases I;rfl
    refine .TJ ⟨_,.map (Z w.heap.size),_,?_,R.allocMap,Qq _ _ _,alu _,?_⟩
    .rw[ahe,Q];simp[Instr.makeMap,Sem.run_bind,run_underlying A,asInt,asIntOf]
    .have:=VR.map (n:=h.next+1) (m:=upd m h.next ⟨w.heap.size,0,0⟩) (id:=h.next) (afC _)
     rw[zf]at this;exact this
   .cases e
 .rename_i t l c g;simp only[g];split at e
  .rename_i p q j C;exact .TJ (ZU R (Ns F j) (Ns F C) e)
  .cases e
 .rename_i t x lo hi mx g;simp only[g];split at e
  .rename_i p l r k j H W X;split at e
   .rename_i u A;injection e with e;simp only[jf]at e;obtain⟨rfl,rfl⟩:=e;exact .J0 R (jw (Ns F j) (Oh F H) (Oh F W) (Oh F X) A w)
   .cases e
  .cases e
 .rename_i s x f g;simp only[g];split at e
  .rename_i p j;split at e
   .rename_i u A;injection e with e;simp only[jf]at e;obtain⟨rfl,rfl⟩:=e;exact .J0 R (afO (Ns F j) A w)
   .cases e
  .cases e
 .rename_i t x i g;simp only[g];split at e
  .rename_i p q j C;split at e
   .rename_i u A;injection e with e;simp only[jf]at e;obtain⟨rfl,rfl⟩:=e;exact .J0 R (Bb (Ns F j) (Ns F C) A w)
   .cases e
  .cases e
 .rename_i t x i g;simp only[g];split at e
  .rename_i p q j C;split at e
   .rename_i u A;injection e with e;simp only[jf]at e;obtain⟨rfl,rfl⟩:=e;exact .J0 R (anU (Ns F j) (Ns F C) A w)
   .cases e
  .cases e
 .rename_i x i g;simp only[g];split at e
  .rename_i p j;split at e
   .rename_i u A;injection e with e;simp only[jf]at e;obtain⟨rfl,rfl⟩:=e;exact .J0 R (VI (Ns F j) A w)
   .cases e
  .cases e
 .rename_i t x i ok g;simp only[g];split at e
  .rename_i p q j C;split at e
   .rename_i u A;injection e with e;simp only[jf]at e;obtain⟨rfl,rfl⟩:=e;exact .J0 R (AJ R (Ns F j) (Ns F C) A)
   .cases e
  .cases e
 .rename_i t x k y g;simp only[g];split at e
  .rename_i p q c j C G;split at e
   .rename_i h2 E;injection e with e;simp only[jf]at e;obtain⟨rfl,rfl⟩:=e;have⟨w',D,R',T⟩:=DZ (P:=P) R (Ns F j) (Ns F C) (Ns F G) E;exact⟨m,undef,w',.inr ⟨by simp[D],rfl⟩,R',.refl _ _,NH,.tuple rfl (fun i v v' h=>by simp at h)⟩
   .cases e
  .cases e
 .rename_i b args ats g;simp only[g];split at e
  .rename_i vs S;have J:=PZ F S;have:=Dm (P:=P) R (ats:=ats) (ty:=o.type) (cs:=args.map fun|.const _=>tT|_=>fF) J e;have K:(args.toList.map a.eval).toArray=args.map a.eval:=hGr;rw[K]at this;exact this
  .cases e
 .rename_i t x k g;simp only[g];split at e
  .rename_i p q j C;exact .TJ (ael R (Ns F j) (Ns F C) e)
  .cases e
 .rename_i t x s y g;simp only[g];split at e
  .rename_i p q c j C G;split at e
   .rename_i h2 E;injection e with e;simp only[jf]at e;obtain⟨rfl,rfl⟩:=e;have⟨w',D,R',T⟩:=ac6 (P:=P) (t:=t) R (Ns F j) (Ns F C) (Ns F G) E;exact⟨m,undef,w',.inr ⟨by simp[D],rfl⟩,R',.refl _ _,NH,.tuple rfl (fun i v v' h=>by simp at h)⟩
   .cases e
  .cases e
 .rename_i t x g;simp only[g];split at e
  .rename_i p j;exact .TJ (apM R (Ns F j) e)
  .cases e
 .cases e
end
structure Cx where
 ex:List (Nat×Obj)
 ds:List Deferred
 ro:Option Nat
def mkOf(b:Nat):Deferred:={target:=.collected b,args:=#[]}
def X0(b:Nat):Nat×Obj:=(b,.deferred (Z []))
def ae8:Option Nat->II->II
 |none,l=>l
 |some _,_=>[]
def apN(r:Option Nat)(a b:II):ae8 r (a++b)=ae8 r a++ae8 r b:=by cases r<;>rfl
def apO(r:Option Nat):ae8 r []=[]:=by cases r<;>rfl
def Cx.more(c:Cx)(new:II):Cx:={ex:=(ae8 c.ro new).map X0++c.ex,ds:=(ae8 c.ro new).map mkOf++c.ds,ro:=c.ro}
theorem Cx.YS(c:Cx):c.more []=c:=by simp[Cx.more,apO]
def Cx.C7(c:Cx)(n a:II):(c.more n).more a=c.more (a++n):=by simp[Cx.more,apN]
structure St (W0:abw) (cx:Cx) (N:Nat) (m:abd) (fr:aam) (h:aai) (a:Act) (w:World):Prop where
 rel:Rel (W0.add cx.ex) m h w
 frame:FR h.next m fr a.tmps
 defers:a.defers=cx.ds
 size:a.tmps.size=N
 round:∀l,cx.ro=Z l->∃r,(l,Obj.loop r)∈cx.ex++W0.rw
theorem St.nil{W0:abw}{b:Cx}{N:Nat}{m:abd}{fr:aam}{h:aai}{a:Act}{w:World}(s:St W0 b N m fr h a w):St W0 (b.more []) N m fr h a w:=by grind[Cx.YS]
def Xc(ro:Option Nat):Fence:={Fence.wide with round:=ro}
def qN{ro:Option Nat}{n:Nat}{P:Program}{f:FuncId}{args:Array vV}{w:World}{R:Ending->World->Prop}(a:Calls P f args w R):CallsIn (Xc ro) n P f args w R:=callsIn_wide.2 a
theorem ph{ro:Option Nat}{n:Nat}{P:Program}{o:Oper}{a:Act}{w:World}{K:Act->World->Prop}{Q:Exit->Act->World->Prop}(hd:∀c,o.op≠.defer c)(b:o.uponIn (Xc ro) n P a K Q ((execOp a.eval o).run P w)):o.wpIn (Xc ro) n P a w K Q:=⟨fun _ _=>trivial,by grind[Go.Oper.semAt_eq]⟩
def Nw{P:Program}{fr:aam}{h:aai}{o:Oper}{x:vV×aai}(e:abr P fr h o=Z x):∀c,o.op≠.defer c:=by intro c a;unfold abr at e;rw[a]at e;cases e
def ML(P:Program)(W0:abw)(N:Nat)(ops:Array Oper)(l:List Oper)(fr:aam)(h:aai)(Q:aam->aai->Prop):Prop:=
 ∀(b:Cx) nn m a w,St W0 b N m fr h a w->∀K:Exit->Act->World->Prop,
  (∀c fr' h' a' w',ZK h.next m c->h.next<=h'.next->St W0 b N c fr' h' a' w'->Q fr' h'->K .normal a' w')->wpListIn (Xc b.ro) nn P ops K l a w
def ud(P:Program)(W0:abw)(N:Nat)(c:Code)(fr:aam)(h:aai)(Q:Exit->aam->aai->Prop):Prop:=
 ∀(b:Cx) nn m a w,St W0 b N m fr h a w->∀K:Exit->Act->World->Prop,
  (∀new e d fr' h' a' w',ZK h.next m d->h.next<=h'.next->St W0 (b.more new) N d fr' h' a' w'->Q e fr' h'->K e a' w')->c.wpIn (Xc b.ro) nn P K a w
def AC(P:Program)(W0:abw)(f:FuncId)(args:xLV)(h:aai)(R:vV->aai->Prop):Prop:=
 ∀ex m w a,Rel (W0.add ex) m h w->AK h.next m args a->
  Calls P f a.toArray w (fun e w'=>∃v v' b h',e=.returned v'/\Rel (W0.add ex) b h' w'/\ZK h.next m b/\h.next<=h'.next/\VR h'.next b v v'/\R v h')
variable{P:Program}{W0:abw}{N:Nat}{ops:Array Oper}{l:List Oper}{fr:aam}{h:aai}
theorem ud.mono{c:Code}{Q b:Exit->aam->aai->Prop}(d:ud P W0 N c fr h Q)(f:∀e fr h,Q e fr h->b e fr h):ud P W0 N c fr h b:=fun g nn m a w s K i=>d g nn m a w s K fun new e j fr' h' a' w' k h2 h3 n=>i new e j fr' h' a' w' k h2 h3 (f _ _ _ n)
theorem AC.mono{f:FuncId}{args:xLV}{R R':vV->aai->Prop}(b:AC P W0 f args h R)(c:∀v h,R v h->R' v h):AC P W0 f args h R':=fun ex m w a r d=>(b ex m w a r d).mono fun _ _ ⟨v,v',e,h',g,h2,h3,i,j,k⟩=>⟨v,v',e,h',g,h2,h3,i,j,c _ _ k⟩
def putDst(N:Nat)(fr:aam)(d:Option Tmp)(v:vV):Option aam:=
 match d with
 |none=>Z fr
 |some d=>if d<N then Z (fr.set d v)else Y
theorem St.put{f:Cx}{m e:abd}{a:Act}{w w':World}(s:St W0 f N m fr h a w){h':aai}(R':Rel (W0.add f.ex) e h' w')(g:ZK h.next m e)(j:h.next<=h'.next){d:Option Tmp}{v v':vV}(n:VR h'.next e v v'){fr':aam}(b:putDst N fr d v=Z fr'):St W0 f N e fr' h' (a.put d v') w':=by
 have F:=s.frame.mono j g;cases d with
 |none=>simp[putDst]at b;subst b;exact⟨R',F,s.defers,s.size,s.round⟩
 |some d=>
  simp only[putDst]at b;split at b
  case isFalse=>cases b
  rename_i Cl;simp at b;subst b;have hd:d<a.tmps.size:=by grind[St.size]
  refine⟨R',fun k u c=>?_,s.defers,by simpa[Act.put]using s.size,s.round⟩;rw[Trie.YO]at c;by_cases i:k=d
  .subst i;rw[abe rfl]at c;injection c with c;subst c;exact⟨v',by simp[Act.put,hd],n⟩
  .rw[abE i]at c;have⟨u',o,h2⟩:=F k u c;exact⟨u',by simp[Act.put,EH i,o],h2⟩
def ab6(ops:Array Oper)(fr:aam)(o:Oper):Option Bool:=
  match o.guard with
  |none=>Z tT
  |some (j,want)=>match(ops[j]?).bind (·.dst)with
    |some d=>match fr.get d with
      |some (.bool b)=>Z (b==want)
      |some (.tuple _)=>Z fF
      |_=>Y
    |none=>Y
theorem tz{n:Nat}{m:abd}{a:Act}(F:FR n m fr a.tmps){o:Oper}{b:Bool}(e:ab6 ops fr o=Z b):Region.wanted o (yielded ops a.tmps)=b:=by
 unfold ab6 at e;unfold Region.wanted;cases hg:o.guard with
 |none=>grind
 |some p=>
  have⟨j,want⟩:=p;rw[hg]at e;simp only[]at e ⊢;split at e
  .rename_i d hd;split at e
   .rename_i t c;injection e with e;subst e;have⟨v',f,h2⟩:=F d _ c;have:=h2.YE;subst this;simp only[yielded,hd,alC,f];grind
   .rename_i vs c;injection e with e;subst e;have⟨v',f,h2⟩:=F d _ c;obtain⟨g,rfl,_⟩:=h2.Vh;simp[yielded,hd,f]
   .cases e
  .cases e
theorem ML.nil{Q:aam->aai->Prop}(b:Q fr h):ML P W0 N ops [] fr h Q:=fun d nn m a w s _K c=>wpListIn_nil (c m fr h a w (.refl _ _) (qL0 _) s b)
theorem ML.step{o:Oper}{Q:aam->aai->Prop}{v:vV}{h':aai}{fr':aam}(hw:ab6 ops fr o=Z tT)(hs:abr P fr h o=Z (v,h'))(g:putDst N fr o.dst v=Z fr')(i:ML P W0 N ops l fr' h' Q):ML P W0 N ops (o::l) fr h Q:=by
 intro j nn m a w s K k;have⟨n,v',w',b,R',d,e,p⟩:=ae4 (P:=P) (a:=a) s.rel s.frame hs;have s':=s.put R' d e p g;have c:=i j nn n (a.put o.dst v') w' s' K fun m2 f h2 a2 w2 q r e3 e4=>k m2 f h2 a2 w2 (d.trans q e) (jz e r) e3 e4;unfold wpListIn;rw[abe (tz s.frame hw)];refine ph (Nw hs) ?_;rcases b with b|⟨b,rfl⟩<;>rw[b]
 .exact c
 .exact c
def ML.skip{o:Oper}{Q:aam->aai->Prop}{fr':aam}(hw:ab6 ops fr o=Z fF)(b:putDst N fr o.dst Yx=Z fr')(c:ML P W0 N ops l fr' h Q):ML P W0 N ops (o::l) fr h Q:=by
 intro d nn m a w s K e;have s':=s.put s.rel (.refl _ _) (qL0 _) (v:=Yx) (v':=undef) (.tuple rfl (fun i v v' h=>by simp at h)) b;unfold wpListIn;rw[abE (by rw[tz s.frame hw];simp)];exact⟨fun _ _=>trivial,c d nn m _ w s' K e⟩
def abt(fr:aam)(o:Oper):Option (FuncId×xLV):=
  match o.op with
  |.call {callee:=.value f,args,..}=>match aa6 fr f,acZ fr args.toList with
    |some (.func (.func g) first cap),Z vs=>Z (g,first.toList++vs++cap.toList)
    |_,_=>Y
  |_=>Y
structure Good (P:Program) (f:FuncId) (fn:Func) (c:Code):Prop where
 func:P.funcs[f]?=some fn
 body:fn.body=some c
 name:(fn.name== "runtime.NumGoroutine")=false
theorem ML.call{o:Oper}{Q:aam->aai->Prop}{g:FuncId}{args:xLV}{fn:Func}{c:Code}(hw:ab6 ops fr o=Z tT)(d:abt fr o=Z (g,args))(hg:Good P g fn c)(G:AC P W0 g args h fun v h'=>∃fr',putDst N fr o.dst v=Z fr'/\ML P W0 N ops l fr' h' Q):ML P W0 N ops (o::l) fr h Q:=by
 intro E nn m a w s K H;unfold abt at d;split at d
 .rename_i f as ats r;split at d
  .rename_i F first cap vs hf t
   injection d with d;simp only[jf]at d;obtain⟨rfl,rfl⟩:=d;have n:=Ns s.frame hf;have u:=PZ s.frame t;unfold wpListIn;rw[abe (tz s.frame hw)];refine ph (fun c e=>by grind) ?_
   have key:∃b cap',a.eval f=.func (.func F) b cap'/\AK h.next m first.toList b.toList/\AK h.next m cap.toList cap'.toList:=by
    generalize a.eval f=x at n;cases n with
    |flat hf=>grind[flat]
    |func S h2 h3 I=>exact⟨_,_,rfl,⟨hGr,fun i v v' e e'=>h3 i v v' (by simpa using e) hGr⟩,⟨hGr,fun i v v' e e'=>I i v v' (by simpa using e) hGr⟩⟩
   have⟨b,cap',y,z,A⟩:=key
   have p:(execOp a.eval o).run P w=.ok (.enter F ((b.toList++as.toList.map a.eval++cap'.toList).toArray)) w:=by
    have B:(b++as.map a.eval++cap')=(b.toList++as.toList.map a.eval++cap'.toList).toArray:=by apply qL180.1;simp
    simp only[execOp,r,resolve,y,Deferred.ofValue,Sem.run_bind,Sem.run_pure,Result.andThen_ok,invoke,callFunc,run_program,hg.func,hg.name,acg,if_false,hg.body,Ex,B]
   rw[p]
   have j:=G E.ex m w (b.toList++as.toList.map a.eval++cap'.toList) s.rel ((z.append u).append A)
   refine⟨(fun J=>by cases J),qN (j.mono ?_)⟩;rintro e w' ⟨v,v',L,h',rfl,R',q,C,M,fr',O,k⟩;exact k E nn L _ w' (s.put R' q C M O) K fun m2 D h2 a2 w2 B R e3 e4=>H m2 D h2 a2 w2 (q.trans B C) (jz C R) e3 e4
  .cases d
 .cases d
def ud.skip{Q:Exit->aam->aai->Prop}(b:Q .normal fr h):ud P W0 N .skip fr h Q:=fun d nn m a w s _K c=>wpIn_skip (c [] .normal m fr h a w (.refl _ _) (qL0 _) s.nil b)
def ud.label{i:Nat}{Q:Exit->aam->aai->Prop}(b:Q .normal fr h):ud P W0 N (.label i) fr h Q:=fun d nn m a w s _K c=>wpIn_label (c [] .normal m fr h a w (.refl _ _) (qL0 _) s.nil b)
def ud.exit{i:Nat}{Q:Exit->aam->aai->Prop}(b:Q (.exit i) fr h):ud P W0 N (.exit i) fr h Q:=fun d nn m a w s _K c=>wpIn_exit (c [] (.exit i) m fr h a w (.refl _ _) (qL0 _) s.nil b)
def ud.ret{Q:Exit->aam->aai->Prop}(b:Q .ret fr h):ud P W0 N .ret fr h Q:=fun d nn m a w s _K c=>wpIn_ret (c [] .ret m fr h a w (.refl _ _) (qL0 _) s.nil b)
def seqQ(P:Program)(W0:abw)(N:Nat)(y:Code)(Q:Exit->aam->aai->Prop):Exit->aam->aai->Prop
 |.normal,fr,h=>ud P W0 N y fr h Q
 |e,fr,h=>Q e fr h
def ud.seq{x y:Code}{Q:Exit->aam->aai->Prop}(o:ud P W0 N x fr h (seqQ P W0 N y Q)):ud P W0 N (.seq x y) fr h Q:=by
 intro d nn m a w s K j;refine wpIn_seq (o d nn m a w s _ fun new e k fr' h' a' w' c f s' n=>?_);cases e with
 |normal=>exact n (d.more new) nn k a' w' s' K fun b p m2 g h2 a2 w2 q i e3 e4=>j (b++new) p m2 g h2 a2 w2 (c.trans q f) (jz f i) (d.C7 new b▸e3) e4
 |_=>exact j new _ k fr' h' a' w' c f s' n
def ud.cond{c:Operand}{x y:Code}{t:Bool}{Q:Exit->aam->aai->Prop}(e:aa6 fr c=Z (.bool t))(f:t=tT->ud P W0 N x fr h Q)(hf:t=fF->ud P W0 N y fr h Q):
  ud P W0 N (.cond c x y) fr h Q:=by
 intro b nn m a w s K d;refine wpIn_cond (t:=t) (Ns s.frame e).YE ?_;cases t with
 |true=>exact f rfl b nn m a w s K d
 |false=>exact hf rfl b nn m a w s K d
def agj(i:Nat)(Q:Exit->aam->aai->Prop):Exit->aam->aai->Prop
 |.exit j,fr,h=>if j=i then Q .normal fr h else Q (.exit j) fr h
 |e,fr,h=>Q e fr h
theorem ud.block{i:Nat}{c:Code}{Q:Exit->aam->aai->Prop}(f:ud P W0 N c fr h (agj i Q)):ud P W0 N (.block i c) fr h Q:=by
 intro g nn m a w s K k;refine wpIn_block (f g nn m a w s _ fun new e n fr' h' a' w' b o s' d=>?_);cases e with
 |exit j=>simp only[agj]at d;simp only[Exit.inBlock];grind
 |_=>exact k _ _ n fr' h' a' w' b o s' d
def ud.region{i:Nat}{os:List Oper}{Q:Exit->aam->aai->Prop}(c:ML P W0 N os.toArray os fr h (Q .normal)):ud P W0 N (.region i os.toArray fF) fr h Q:=by intro d nn m a w s K e;exact wpIn_region_lit (c d nn m a w s K fun f fr' h' a' w' b g s' j=>e [] .normal f fr' h' a' w' b g s'.nil j)
def Sub(fr fr':aam):Prop:=∀k v,fr.get k=Z v->fr'.get k=Z v
theorem exists_least(p:Nat->Prop)(a:∃k,p k):∃k,p k/\∀j,p j->k<=j:=by
 have⟨k,b⟩:=a
 induction k using Nat.strongRecOn<;>grind
def aeM(I:Nat->aam->aai->Prop)(k:Nat)(Q:Exit->aam->aai->Prop):Exit->aam->aai->Prop
 |.normal,fr,h=>∃a,a<k/\∃fr',Sub fr' fr/\I a fr' h
 |e,fr,h=>Q e fr h
def ud.loop{c:Code}{Q:Exit->aam->aai->Prop}(I:Nat->aam->aai->Prop)(k0:Nat)(i:aam)(o:Sub i fr)(G:I k0 i h)(H:∀k fr h,I k fr h->ud P W0 N c fr h (aeM I k Q)):ud P W0 N (.loop c) fr h Q:=by
 intro t nn m a w s K L
 let J:Nat->Act->World->Prop:=fun k a' w'=>∃new C fr' h',ZK h.next m C/\h.next<=h'.next/\St W0 (t.more new) N C fr' h' a' w'/\I k fr' h'
 let μ:Act->World->Nat:=fun a' w'=>@dite _ (∃k,J k a' w') (Classical.propDecidable _) (fun d=>Classical.choose (exists_least _ d)) (fun _=>0);have D:∀a' w',(d:∃k,J k a' w')->J (μ a' w') a' w'/\∀j,J j a' w'->μ a' w'<=j:=by
  intro a' w' d;have:μ a' w'=Classical.choose (exists_least _ d):=by simp only[μ];rw[dif_pos d]
  rw[this];exact Classical.choose_spec (exists_least _ d)
 refine wpIn_loop (fun a' w'=>∃k,J k a' w') μ ⟨k0,[],m,i,h,.refl _ _,qL0 _,St.nil ⟨s.rel,fun k v e=>s.frame k v (o k v e),s.defers,s.size,s.round⟩,G⟩ ?_;intro a1 w1 d;have⟨⟨p,m1,u,M,f,b,s1,O⟩,_⟩:=D a1 w1 d;refine H _ u M O (t.more p) nn m1 a1 w1 s1 _ fun E e m2 x h2 a2 w2 g q s2 F=>?_;rw[t.C7]at s2;cases e with
 |normal=>have⟨r,y,z,n,A⟩:=F;have B:J r a2 w2:=⟨_,m2,z,h2,f.trans g b,jz b q,⟨s2.rel,fun k v e=>s2.frame k v (n k v e),s2.defers,s2.size,s2.round⟩,A⟩;exact⟨⟨r,B⟩,aoE ((D a2 w2 ⟨r,B⟩).2 r B) y⟩
 |_=>exact L _ _ m2 x h2 a2 w2 (f.trans g b) (jz b q) s2 F
def ad7(P:Program)(fr:aam)(h:aai):ResultVar->Option vV
  |.tmp t=>fr.get t
  |.cell a t=>match fr.get a with
    |some (pT (Z ad))=>aaC P h t ad
    |_=>Y
def acf(P:Program)(fr:aam)(h:aai):List ResultVar->Option xLV
  |[]=>Z []
  |r::rs=>match ad7 P fr h r with
    |some v=>match acf P fr h rs with|some l=>Z (v::l)|none=>Y
    |none=>Y
def acD(P:Program)(fr:aam)(h:aai)(rs:List ResultVar):Option vV:=
 match acf P fr h rs with
 |some [v]=>Z v
 |some l=>Z (.tuple l.toArray)
 |none=>Y
def zc(tmps:Array vV):ResultVar->Sem vV
 |.tmp t=>Pure.pure (tmps.getD t undef)
 |.cell x t=>do loadVar t (<-asAddr (tmps.getD x undef))
def sR(fn:Func)(tmps:Array vV):results fn tmps=(fn.results.mapM (zc tmps) >>= fun vs=>Pure.pure (if h:vs.size=1 then vs[0]else .tuple vs)):=by unfold results;congr 2
def aeN{g:Cx}{m:abd}{a:Act}{w:World}(s:St W0 g N m fr h a w){r:ResultVar}{v:vV}(e:ad7 P fr h r=Z v):
  ∃v',(zc a.tmps r).run P w=.ok v' w/\VR h.next m v v':=by
 cases r with
 |tmp t=>have⟨v',b,h2⟩:=s.frame t v e;exact⟨v',by simp[zc,kS,b],h2⟩
 |cell x t=>
  simp only[ad7]at e;split at e
  .rename_i ad c;have⟨v',b,h2⟩:=s.frame x _ c;obtain⟨a',rfl,d⟩:=h2.akS;have⟨f,h3,i⟩:=s.rel.loadVar (P:=P) d e;exact⟨f,by simp[zc,kS,b,asAddr,h3],i⟩
  .cases e
def C6{b:Cx}{m:abd}{a:Act}{w:World}(s:St W0 b N m fr h a w):∀{rs:List ResultVar}{l:xLV},acf P fr h rs=Z l->
  ∃l',(rs.mapM (zc a.tmps)).run P w=.ok l' w/\AK h.next m l l'
 |[],l,e=>by simp[acf]at e;subst e;exact⟨[],Ma,.nil _ _⟩
 |r::rs,l,e=>by
  simp only[acf]at e;split at e
  .rename_i v c;split at e
   .rename_i l0 d;injection e with e;subst e;have⟨v',f,h2⟩:=aeN s c;have⟨l',h3,g⟩:=C6 s d;refine⟨v'::l',?_,.cons h2 g⟩;simp only[mapM_cons,Sem.run_bind,Sem.run_pure,f,h3,Result.andThen_ok]
   .cases e
  .cases e
theorem Hm{d:Cx}{m:abd}{a:Act}{w:World}(s:St W0 d N m fr h a w){fn:Func}{v:vV}(e:acD P fr h fn.results.toList=Z v):
  ∃v',(results fn a.tmps).run P w=.ok v' w/\VR h.next m v v':=by
 unfold acD at e
 have key:∀l,acf P fr h fn.results.toList=Z l->∃l',(results fn a.tmps).run P w=.ok (if f:l'.toArray.size=1 then l'.toArray[0]else .tuple l'.toArray) w/\AK h.next m l l':=by intro l b;have⟨l',c,h2⟩:=C6 s b;refine⟨l',?_,h2⟩;rw[sR,qL210,map_eq_pure_bind];simp only[Sem.run_bind];rw[c];rfl
 split at e
 .rename_i u b;injection e with e;subst e;have⟨l',c,h2⟩:=key _ b
  match l',h2 with
  |[v'],h2=>exact⟨v',c,h2.2 0 u v' rfl rfl⟩
  |[],h2|_::_::_,h2=>grind[AK]
 .rename_i l g b;injection e with e;subst e;have⟨l',c,h2⟩:=key _ b;refine⟨.tuple l'.toArray,?_,.qY hGr⟩;rw[c];have:¬(l'.toArray.size=1):=by
   intro f;have hlen:l.length=1:=by rw[h2.1];grind
   match l,hlen with
   |[u],_=>grind
  grind
 .cases e
def aeI(k:Nat)(fr:aam):xLV->aam
 |[]=>fr
 |v::r=>aeI (k+1) (fr.set k v) r
def me(args:xLV):aam:=aeI 0 .leaf args
theorem NZ:∀(args:xLV)(k:Nat)(fr:aam)(j:Nat)(v:vV),(aeI k fr args).get j=Z v->(fr.get j=Z v/\(j<k\/k+args.length<=j))\/(k<=j/\args[j-k]?=Z v)
 |[],k,fr,j,v,h=>by grind[aeI]
 |u::r,k,fr,j,v,h=>by
  simp only[aeI]at h;rcases NZ r (k+1) (fr.set k u) j v h with⟨a,h2⟩|⟨a,h2⟩
  all_goals grind[Trie.YO]
theorem Rel.turn{m:abd}{w:World}{W:World}{n0:Nat}{m0:abd}{A Z:List (Nat×Obj)}{b:Nat}{o:Obj}(e:Obj)(R:Rel ⟨W,A++(b,o)::Z,n0,m0⟩ m h w):Rel ⟨W,A++(b,e)::Z,n0,m0⟩ m h (w.putObj b e):=by
 have c:(b,o)∈A++(b,o)::Z:=by simp
 have hb:b<w.heap.size:=R.aah.lt c;have g:W.heap.size<=b:=R.aah.hi b o c;have hd:((A++(b,o)::Z).map (·.1)).Nodup:=R.aah.VM;have j:((A++(b,e)::Z).map (·.1)).Nodup:=hGr;have d:∀x y,(x,y)∈A++(b,e)::Z->(x=b/\y=e)\/(x≠b/\(x,y)∈A++(b,o)::Z):=hGr;have n:∀i,h.own i≠Y->(m i).blk≠b:=fun i hi=>R.aah.apart b o i c hi
 refine⟨by simpa using R.size,fun k q=>?_,R.ext,R.lt,R.new,fun i x hi=>?_,R.inj,R.os,R.output,R.tape,⟨R.aah.agree,R.aah.next,j,fun x y f=>?_,fun x y f=>?_,fun x y i f hi=>?_⟩⟩
 .rw[World.putObj_heap_other hGr];exact R.qi k q
 .exact Rel.JP (R.own i x hi) (qL0 _) (ZK.refl _ _) (World.putObj_heap_other (n i (by rw[hi];simp)))
 .rcases d x y f with⟨rfl,rfl⟩|⟨_,a⟩
  .exact g
  .exact R.aah.hi x y a
 .rcases d x y f with⟨rfl,rfl⟩|⟨p,a⟩
  .exact World.putObj_heap_same hb
  .rw[World.putObj_heap_other p];exact R.aah.held x y a
 .rcases d x y f with⟨rfl,rfl⟩|⟨_,a⟩
  .grind
  .exact R.aah.apart x y i a hi
theorem Rel.Ih{m:abd}{w:World}{W:World}{rw:List (Nat×Obj)}{n0 n1:Nat}{m0 m1:abd}(R:Rel ⟨W,rw,n0,m0⟩ m h w)(ha:ZK n1 m1 m)(a:n1<=h.next):Rel ⟨W,rw,n1,m1⟩ m h w:=⟨R.size,R.qi,R.ext,R.lt,R.new,R.own,R.inj,R.os,R.output,R.tape,⟨ha,a,R.aah.VM,R.aah.hi,R.aah.held,R.aah.apart⟩⟩
theorem Rel.less{m:abd}{w:World}{W:World}{n0:Nat}{m0:abd}{x:Nat×Obj}{Z:List (Nat×Obj)}(R:Rel ⟨W,x::Z,n0,m0⟩ m h w):Rel ⟨W,Z,n0,m0⟩ m h w:=⟨R.size,R.qi,R.ext,R.lt,R.new,R.own,R.inj,R.os,R.output,R.tape,⟨R.aah.agree,R.aah.next,by have:=R.aah.VM;grind,fun b o hb=>R.aah.hi b o (.tail _ hb),fun b o hb=>R.aah.held b o (.tail _ hb),fun b o i hb hi=>R.aah.apart b o i (.tail _ hb) hi⟩⟩
theorem Df{fn:Func}{tmps:Array vV}{m:abd}{R:Ending->World->Prop}{ex:List (Nat×Obj)}:∀(new:II){w:World},Rel (W0.add (new.map X0++ex)) m h w->
  (∀w',Rel (W0.add ex) m h w'->LeavesInM Fence.wide 0 P fn tmps R [] .returning w')->LeavesInM Fence.wide 0 P fn tmps R (new.map mkOf) .returning w
 |[],w,r,a=>a w r
 |b::new,w,r,a=>by
  refine⟨Ma,.inl ⟨b,_,rfl,run_takeDeferred (ds:=[]) (r.aah.held b _ (by simp[abw.add,X0])),Df new ?_ a⟩⟩;have r2:Rel ⟨W0.toWorld,[]++(b,.deferred (Z []))::((new.map X0++ex)++W0.rw),W0.n0,W0.m0⟩ m h w:=by grind[abw.add,X0]
  exact(r2.turn (.deferred Y)).less
theorem AC.body{f:FuncId}{args:xLV}{fn:Func}{c:Code}{R:vV->aai->Prop}(hg:Good P f fn c)(hlen:args.length<=fn.ntmps)(j:ud P W0 fn.ntmps c (me args) h fun e fr' h'=>(e=.normal\/e=.ret)/\∃v,acD P fr' h' fn.results.toList=Z v/\R v h'):AC P W0 f args h R:=by
 intro ex m w a r o;refine callsIn_wide.1 (callsIn_of_wp_marks (n:=0) hg.func hg.body trivial ?_);have s:St W0 ⟨ex,[],Y⟩ fn.ntmps m (me args) h {tmps:=a.toArray++Array.replicate (fn.ntmps-a.toArray.size) undef,defers:=[]} w:=by
  refine⟨r,fun k v d=>?_,rfl,?_,fun l e=>by cases e⟩
  .rcases NZ args 0 .leaf k v d with⟨i,_⟩|⟨_,h2⟩
   all_goals grind[Trie.get,AK.get]
  .have:=o.1;simp;omega
 refine j ⟨ex,[],Y⟩ 0 m _ w s _ fun new e b fr' h' a' w' g p s' q=>?_;have⟨t,v,d,hR⟩:=q;have u:∀w2,Rel (W0.add ex) b h' w2->St W0 ⟨ex,[],Y⟩ fn.ntmps b fr' h' {tmps:=a'.tmps,defers:=[]} w2:=fun w2 r2=>⟨r2,s'.frame,rfl,s'.size,fun l e=>by cases e⟩
 have x:LeavesInM Fence.wide 0 P fn a'.tmps (fun e w'=>∃v v' b h',e=.returned v'/\Rel (W0.add ex) b h' w'/\ZK h.next m b/\h.next<=h'.next/\VR h'.next b v v'/\R v h') a'.defers .returning w':=by
  have hd:a'.defers=new.map mkOf:=by simpa[Cx.more,ae8]using s'.defers
  have y:Rel (W0.add (new.map X0++ex)) b h' w':=by simpa[Cx.more,ae8]using s'.rel
  rw[hd];refine Df new y fun w2 r2=>?_;have⟨v',i,h2⟩:=Hm (fn:=fn) (u w2 r2) d;exact⟨v',i,v,v',b,h',rfl,r2,g,p,h2,hR⟩
 rcases t with rfl|rfl<;>exact x
section
variable{P:Program}{W0:abw}{N:Nat}{ops:Array Oper}{l:List Oper}{fr:aam}{h:aai}
def Yg(l:Nat):vV:=.func (.yield l) #[] #[]
def AY(P:Program)(W0:abw)(b:Nat)(args:xLV)(h:aai)(R:vV->aai->Prop):Prop:=
 ∀ex ro nn m w a,Rel (W0.add ex) m h w->AK h.next m args a->
  ∃f tmps assign body,(Instr.yield b a.toArray).run P w=.ok (.round b f tmps assign body) w/\
   RoundIn (Xc ro) nn P b f tmps assign body w (fun e w'=>∃v v' c h',e=.returned v'/\Rel (W0.add ex) c h' w'/\ZK h.next m c/\h.next<=h'.next/\VR h'.next c v v'/\R v h')
theorem AY.mono{b:Nat}{args:xLV}{R R':vV->aai->Prop}(c:AY P W0 b args h R)(d:∀v h,R v h->R' v h):AY P W0 b args h R':=
 fun ex ro nn m w a r e=>let⟨f,tmps,assign,body,g,h2⟩:=c ex ro nn m w a r e
  ⟨f,tmps,assign,body,g,h2.mono fun _ _ ⟨v,v',i,h',a1,a2,j,k,n,o⟩=>⟨v,v',i,h',a1,a2,j,k,n,d _ _ o⟩⟩
def AY.post{b:Nat}{args:xLV}{R:vV->aai->Prop}(c:AY P W0 b args h R):AY P W0 b args h fun v h'=>(∀i,h'.own i≠Y->i<h'.next)/\R v h':=
 fun ex ro nn m w a r d=>let⟨f,tmps,assign,body,e,h2⟩:=c ex ro nn m w a r d
  ⟨f,tmps,assign,body,e,h2.mono fun _ _ ⟨v,v',g,h',a1,a2,j,k,n,o⟩=>⟨v,v',g,h',a1,a2,j,k,n,a2.lt,o⟩⟩
def yieldOf(fr:aam)(o:Oper):Option (Nat×xLV):=
  match o.op with
  |.call {callee:=.value f,args,..}=>match aa6 fr f,acZ fr args.toList with
    |some (.func (.yield g) first _),Z vs=>Z (g,first.toList++vs)
    |_,_=>Y
  |_=>Y
theorem ML.yield{o:Oper}{Q:aam->aai->Prop}{E:Nat}{args:xLV}(hw:ab6 ops fr o=Z tT)(d:yieldOf fr o=Z (E,args))(G:AY P W0 E args h fun v h'=>∃fr',putDst N fr o.dst v=Z fr'/\ML P W0 N ops l fr' h' Q):ML P W0 N ops (o::l) fr h Q:=by
 intro r nn m a w s K H;unfold yieldOf at d;split at d
 .rename_i f as ats t;split at d
  .rename_i F first cap vs hf u
   injection d with d;simp only[jf]at d;obtain⟨rfl,rfl⟩:=d;have n:=Ns s.frame hf;have y:=PZ s.frame u;unfold wpListIn;rw[abe (tz s.frame hw)];refine ph (fun c e=>by grind) ?_
   have key:∃b cap',a.eval f=.func (.yield F) b cap'/\AK h.next m first.toList b.toList:=by
    generalize a.eval f=x at n;cases n with
    |flat hf=>grind[flat]
    |func S h2 h3 T=>exact⟨_,_,rfl,⟨hGr,fun i v v' e e'=>h3 i v v' (by simpa using e) hGr⟩⟩
   have⟨b,cap',z,A⟩:=key
   have⟨I,tmps,assign,body,j,g⟩:=G r.ex r.ro (nn-1) m w (b.toList++as.toList.map a.eval) s.rel (A.append y)
   have p:(execOp a.eval o).run P w=.ok (.round F I tmps assign body) w:=by
    have B:(b++as.map a.eval)=(b.toList++as.toList.map a.eval).toArray:=hGr
    simp only[execOp,t,resolve,z,Deferred.ofValue,Sem.run_bind,Sem.run_pure,Result.andThen_ok,invoke,B,j]
   rw[p];refine⟨(fun J=>by cases J),g.mono ?_⟩;rintro e w' ⟨v,v',L,h',rfl,R',q,C,M,fr',O,k⟩;exact k r nn L _ w' (s.put R' q C M O) K fun m2 D h2 a2 w2 B R e3 e4=>H m2 D h2 a2 w2 (q.trans B C) (jz C R) e3 e4
  .cases d
 .cases d
def aeJ:List Tmp->xLV->aam->aam
 |p::ps,v::vs,fr=>aeJ ps vs (fr.set p v)
 |_,_,fr=>fr
theorem FC{n:Nat}{m:abd}:∀{ps:List Tmp}{vs a:xLV}{fr:aam}{tmps:Array vV},FR n m fr tmps->AK n m vs a->(∀p∈ps,p<tmps.size)->
  FR n m (aeJ ps vs fr) ((ps.zip a).foldl (fun tmps x=>tmps.setIfInBounds x.1 x.2) tmps)/\((ps.zip a).foldl (fun tmps x=>tmps.setIfInBounds x.1 x.2) tmps).size=tmps.size
 |[],vs,a,fr,tmps,F,_,_=>⟨by simpa[aeJ]using F,rfl⟩
 |p::ps,[],a,fr,tmps,F,b,_=>by have:a=[]:=Bn (by rw[<-b.1];rfl);subst this;exact⟨by simpa[aeJ]using F,rfl⟩
 |p::ps,v::vs,[],fr,tmps,F,b,_=>by grind[AK]
 |p::ps,v::vs,v'::a,fr,tmps,F,b,d=>by
  have j:VR n m v v':=b.2 0 v v' rfl rfl;have e:AK n m vs a:=by simpa using b.drop 1
  have f:=d p Ma;have g:FR n m (fr.set p v) (tmps.setIfInBounds p v'):=fun k u c=>by
   rw[Trie.YO]at c;by_cases i:k=p
   .grind
   .rw[abE i]at c;have⟨u',o,r⟩:=F k u c;grind
  have:=FC (ps:=ps) g e (fun q s=>by grind);simpa[aeJ]using this
theorem Rel.push{m:abd}{w:World}{W:World}{n0:Nat}{m0:abd}{rw:List (Nat×Obj)}(R:Rel ⟨W,rw,n0,m0⟩ m h w)(o:Obj):Rel ⟨W,(w.heap.size,o)::rw,n0,m0⟩ m h (w.alloc o):=by
 have b:∀x y,(x,y)∈rw->x<w.heap.size:=fun x y a=>R.aah.lt a;have c:W.heap.size<=w.heap.size:=R.size
 refine⟨by have:=R.size;simp at this ⊢;omega,fun k d=>?_,R.ext,R.lt,R.new,fun i x hi=>?_,R.inj,R.os,R.output,R.tape,⟨R.aah.agree,R.aah.next,?_,fun x y a=>?_,fun x y a=>?_,fun x y i a hi=>?_⟩⟩
 .rw[amh w _ k hGr];exact R.qi k d
 .exact Rel.JP (R.own i x hi) (qL0 _) (ZK.refl _ _) (amh w _ _ (R.Hc (by rw[hi];simp)))
 .rw[QD,VU];refine⟨fun a=>?_,R.aah.VM⟩;grind
 .rcases Og.1 a with a|a
  .grind
  .exact R.aah.hi x y a
 .rcases Og.1 a with a|a
  .grind[Go.heap_alloc_new]
  .rw[amh w _ x (b x y a)];exact R.aah.held x y a
 .rcases Og.1 a with a|a
  .grind[Rel.Hc]
  .exact R.aah.apart x y i a hi
def TW(st:LoopState)(f:FuncId)(tmps:Array vV)(ps:Array Tmp)(assign body:Code)(D:Nat):Loop:={state:=st,pending:=Y,fn:=f,tmps:=tmps,params:=ps,assign:=assign,body:=body,defers:=D}
theorem apP{b:Cx}{m:abd}{a:Act}{w:World}(s:St W0 b N m fr h a w)(f:FuncId)(ps:Array Tmp)(assign body:Code):
  ∃e mark w1 D new,(Instr.enterLoop f a.tmps ps assign body b.ro).run P w=.ok (e,mark) w1/\Rel (W0.add ((e,.loop (TW .ready f a.tmps ps assign body D))::(b.more new).ex)) m h w1/\mark++b.ds=(b.more new).ds:=by
 cases d:b.ro with
 |none=>
  refine⟨_,_,_,w.heap.size,[w.heap.size],run_enterLoop_outer f a.tmps ps assign body,?_,?_⟩
  .have r1:Rel ⟨W0.toWorld,b.ex++W0.rw,W0.n0,W0.m0⟩ m h w:=s.rel;grind[Rel.push,TW,Go.World.size_alloc,abw.add,Cx.more,ae8,X0]
  grind[Cx.more,ae8,mkOf]
 |some l'=>
  have⟨r,g⟩:=s.round l' d;have c:w.heap[l']?=Z (.loop r):=s.rel.aah.held l' _ g;refine⟨w.heap.size,[],w.alloc (.loop (TW .ready f a.tmps ps assign body r.defers)),r.defers,[],?_,?_,?_⟩
  .unfold Instr.enterLoop;simp only[Sem.run_bind,run_getLoop c,Result.andThen,Sem.run_pure,run_newObj_alloc];rfl
  .have r1:Rel ⟨W0.toWorld,b.ex++W0.rw,W0.n0,W0.m0⟩ m h w:=s.rel;rw[Cx.YS];exact r1.push (.loop (TW .ready f a.tmps ps assign body r.defers))
  grind[Cx.YS]
def Rnd(P:Program)(W0:abw)(N:Nat)(ps:Array Tmp)(fr:aam)(assign body:Code)(args:xLV)(h:aai)(R:vV->aai->Prop):Prop:=ud P W0 N assign (aeJ ps.toList args fr) h fun e a h2=>e=.normal/\ud P W0 N body a h2 fun e _ h3=>e=.normal/\R (.bool tT) h3
theorem zip_fold(ps:Array Tmp)(vs:xLV)(tmps:Array vV):(ps.zip vs.toArray).foldl (fun tmps (x:Tmp×vV)=>tmps.setIfInBounds x.1 x.2) tmps=(ps.toList.zip vs).foldl (fun tmps x=>tmps.setIfInBounds x.1 x.2) tmps:=by grind[Array.toList_zip]
theorem AY.of_round{ps:Array Tmp}{assign body:Code}{m:abd}{tmps:Array vV}{ex:List (Nat×Obj)}{a D:Nat}{f:FuncId}{args:xLV}{t:aai}{R:vV->aai->Prop}(F:FR h.next m fr tmps)(M:tmps.size=N)(O:∀p∈ps.toList,p<N)(hlen:args.length=ps.size)(z:ZK W0.n0 W0.m0 m)(v:W0.n0<=h.next)(A:h.next<=t.next)(Q:Rnd P W0 N ps fr assign body args t R):
  AY P ⟨W0.toWorld,(a,.loop (TW .ready f tmps ps assign body D))::(ex++W0.rw),h.next,m⟩ a args t R:=by
 intro b ro nn m1 w1 g S I
 have B:Rel ⟨W0.toWorld,b++(a,.loop (TW .ready f tmps ps assign body D))::(ex++W0.rw),h.next,m⟩ m1 t w1:=S
 have w:ZK h.next m m1:=B.aah.agree
 have u:=B.aah.held a _ (by simp:(a,Obj.loop (TW .ready f tmps ps assign body D))∈b++(a,.loop (TW .ready f tmps ps assign body D))::(ex++W0.rw));have C:g.length=ps.size:=by rw[<-I.1];exact hlen
 refine⟨f,_,assign,body,run_yield u (by grind[TW]),?_⟩;have T:=F.mono A w;have q:=FC (ps:=ps.toList) T I (fun p X=>by grind);refine roundIn_of_wpIn trivial ?_
 have key:∀{st:LoopState}{m2:abd}{h2:aai}{w2:World},Rel ⟨W0.toWorld,b++(a,.loop (TW st f tmps ps assign body D))::(ex++W0.rw),h.next,m⟩ m2 h2 w2->
   Rel (W0.add (b++(a,.loop (TW st f tmps ps assign body D))::ex)) m2 h2 w2:=by
  intro st m2 h2 w2 r
  have:=r.Ih (n1:=W0.n0) (m1:=W0.m0) (z.trans r.aah.agree v) (jz v r.aah.next)
  grind[abw.add]
 have back:∀{st:LoopState}{m2:abd}{h2:aai}{w2:World},Rel (W0.add (b++(a,.loop (TW st f tmps ps assign body D))::ex)) m2 h2 w2->ZK t.next m1 m2->t.next<=h2.next->
   Rel ⟨W0.toWorld,b++(a,.loop (TW st f tmps ps assign body D))::(ex++W0.rw),h.next,m⟩ m2 h2 w2:=by grind[abw.add,Rel.Ih,ZK.trans]
 let c:LoopState->Cx:=fun st=>⟨b++(a,.loop (TW st f tmps ps assign body D))::ex,[],Z a⟩;have i:∀st new,(c st).more new=c st:=fun st new=>rfl;have d:∀st l,(c st).ro=Z l->∃r,(l,Obj.loop r)∈(c st).ex++W0.rw:=fun st l e=>by grind
 have s1:St W0 (c .ready) N m1 (aeJ ps.toList args fr) t {tmps:=(ps.zip g.toArray).foldl (fun tmps (x:Tmp×vV)=>tmps.setIfInBounds x.1 x.2) tmps,defers:=[]} w1:=by rw[zip_fold];exact⟨key B,q.1,rfl,q.2.trans M,d _⟩
 refine Q (c .ready) nn m1 _ w1 s1 _ fun new e m2 E h2 a2 w2 j k s2 G=>?_;obtain⟨rfl,G⟩:=G;rw[i]at s2;have J:=back s2.rel j k;have n:=J.aah.held a _ (by simp:(a,Obj.loop (TW .ready f tmps ps assign body D))∈b++(a,.loop (TW .ready f tmps ps assign body D))::(ex++W0.rw));refine⟨_,run_beginRound n rfl,?_⟩;have U:=J.turn (.loop (TW .busy f tmps ps assign body D));have V:St W0 (c .busy) N m2 E h2 a2 (w2.putObj a (.loop (TW .busy f tmps ps assign body D))):=⟨key U,s2.frame,s2.defers,s2.size,d _⟩;refine G (c .busy) nn m2 _ _ V _ fun new3 e3 m3 W h3 a3 w3 s y K H=>?_;obtain⟨rfl,hR⟩:=H;rw[i]at K;have L:=back K.rel (j.trans s k) (jz k y);have o:=L.aah.held a _ (by simp:(a,Obj.loop (TW .busy f tmps ps assign body D))∈b++(a,.loop (TW .busy f tmps ps assign body D))::(ex++W0.rw));refine⟨_,_,run_endRound Y o,.bool tT,.bool tT,m3,h3,rfl,?_,j.trans s k,jz k y,.flat rfl,hR⟩;exact L.turn (.loop (TW .ready f tmps ps assign body D))
theorem ud.rangeFunc{g:Operand}{ps:Array Tmp}{assign body:Code}{Q:Exit->aam->aai->Prop}{gf:FuncId}{fn:Func}{c:Code}{first cap:Array vV}(hg:aa6 fr g=Z (.func (.func gf) first cap))(f:Good P gf fn c)(B:ps.toList.all (fun p=>Nat.blt p N)=tT)(C:∀(M:abw)(d:Nat),(∀(args:xLV)(t:aai)(R:vV->aai->Prop),args.length=ps.size->h.next<=t.next->Rnd P W0 N ps fr assign body args t R->AY P M d args t R)->
   AC P M gf (first.toList++[Yg d]++cap.toList) h fun _ h'=>Q .normal fr h'):ud P W0 N (.rangeFunc g ps assign body) fr h Q:=by
 intro A nn m a w s K T;refine wpIn_rangeFunc fun j _=>?_;obtain⟨d,mark,w1,D,new,k,U,E⟩:=apP s j ps assign body;have u:=Ns s.frame hg
 have key:∃b cap',a.eval g=.func (.func gf) b cap'/\AK h.next m first.toList b.toList/\AK h.next m cap.toList cap'.toList:=by
  generalize a.eval g=x at u;cases u with
  |flat hf=>grind[flat]
  |func t h2 h3 V=>exact⟨_,_,rfl,⟨hGr,fun i v v' e e'=>h3 i v v' (by simpa using e) hGr⟩,⟨hGr,fun i v v' e e'=>V i v v' (by simpa using e) hGr⟩⟩
 obtain⟨b,cap',F,G,H⟩:=key
 have y:∀p∈ps.toList,p<N:=fun p W=>by have:=fj.1 B p W;simpa using this
 have z:ZK W0.n0 W0.m0 m:=s.rel.aah.agree
 have n:W0.n0<=h.next:=s.rel.aah.next
 have I:=C ⟨W0.toWorld,(d,.loop (TW .ready j a.tmps ps assign body D))::((A.more new).ex++W0.rw),h.next,m⟩ d
  (fun args t R hlen J X=>AY.of_round s.frame s.size y hlen z n J X)
 have o:=I [] m w1 (b.toList++[Yg d]++cap'.toList) ?_ ((G.append (.cons (.func rfl rfl (fun i v v' e=>by simp at e) (fun i v v' e=>by simp at e)) (.nil _ _))).append H)
 .refine⟨d,mark,w1,{target:=.fn (.func gf) cap',args:=b++#[Yg d]},w1,gf,(b.toList++[Yg d]++cap'.toList).toArray,w1,k,?_,fun _ _=>trivial,?_,(fun hx=>by cases hx),qN (o.mono ?_)⟩
  .simp only[resolve,F,Deferred.ofValue,Sem.run_pure];simp[Act.eval,Yg]
  .have e1:b++#[Yg d]++cap'=(b.toList++[Yg d]++cap'.toList).toArray:=by
    apply qL180.1;simp
   simp only[invoke,callFunc,Sem.run_bind,Sem.run_pure,run_program,f.func,f.name,acg,if_false,f.body,Ex,e1,Result.andThen_ok]
  .rintro e w' ⟨v,v',O,h',rfl,R',q,L,hv,hq⟩
   have S:Rel ⟨W0.toWorld,[]++(d,.loop (TW .ready j a.tmps ps assign body D))::((A.more new).ex++W0.rw),h.next,m⟩ O h' w':=R'
   have r:=S.aah.held d _ (by simp:(d,Obj.loop (TW .ready j a.tmps ps assign body D))∈[]++(d,.loop (TW .ready j a.tmps ps assign body D))::((A.more new).ex++W0.rw));refine⟨Y,_,run_endLoop r (by simp[TW]),?_⟩;have q2:=(S.turn (.loop {TW .ready j a.tmps ps assign body D with state:=.exhausted})).less.Ih (n1:=W0.n0) (m1:=W0.m0) (z.trans q n) (jz n L);refine T new .normal O fr h' _ _ q L ⟨q2,s.frame.mono L q,?_,s.size,fun l e=>?_⟩ hq
   .grind[St.defers]
   grind[St.round,Cx.more]
 .have r1:Rel ⟨W0.toWorld,(d,.loop (TW .ready j a.tmps ps assign body D))::((A.more new).ex++W0.rw),W0.n0,W0.m0⟩ m h w1:=U;exact r1.Ih (ZK.refl _ _) (qL0 _)
def Zm(o:Oper):Bool:=
 match o.op with
 |.call {callee:=.value _,..}=>tT
 |.next _ fF=>tT
 |_=>fF
end
section
variable{P:Program}{W0:abw}{N:Nat}{ops:Array Oper}{fr:aam}{h:aai}
def aok(fr:aam)(h:aai)(o:Oper):Option (Nat×Nat×Nat×II×Nat×List (vV×vV)):=
  match o.op with
  |.next x fF=>match aa6 fr x with
    |some (pT (Z ⟨b,0,Y⟩))=>match h.own b with
      |some (.iter r k s l)=>match h.own r with
        |some (.map es)=>Z (b,r,k,s,l,es)
        |_=>Y
      |_=>Y
    |_=>Y
  |_=>Y
theorem ML.next{o:Oper}{lo:List Oper}{Q:aam->aai->Prop}{b r k l:Nat}{s:II}{es:List (vV×vV)}(hw:ab6 ops fr o=Z tT)(d:aok fr h o=Z (b,r,k,s,l,es))(C:es.length<=k)(D:k<=l)(E:∀i key val,es[i]?=Z (key,val)->i∉s->∃fr',putDst N fr o.dst (.tuple #[.bool tT,key,val])=Z fr'/\ML P W0 N ops lo fr' (h.put b (.iter r k (s++[i]) es.length)) Q)(h2:(∀i,i<es.length->i∈s)->∃fr',putDst N fr o.dst (.tuple #[.bool fF])=Z fr'/\ML P W0 N ops lo fr' h Q):ML P W0 N ops (o::lo) fr h Q:=by
 intro B nn m a w st K F;unfold aok at d;split at d
 case h_2=>cases d
 rename_i x g;split at d
 case h_2=>cases d
 rename_i O G;split at d
 case h_2=>cases d
 rename_i R S s' l' hb;split at d
 case h_2=>cases d
 rename_i H I;injection d with d;simp only[jf]at d;obtain⟨rfl,rfl,rfl,rfl,rfl,rfl⟩:=d;have J:=Ns st.frame G;unfold wpListIn;rw[abe (tz st.frame hw)];refine ph (fun c e=>by rw[g]at e;cases e) ?_
 obtain⟨v,h',fr',e,j,f⟩:∃v h' fr',OK P (W0.add B.ex) m h w (Instr.next (a.eval x) fF o.type) v h'/\putDst N fr o.dst v=Z fr'/\ML P W0 N ops lo fr' h' Q:=by
  rcases next_ok (P:=P) st.rel hb I C D J o.type with⟨i,key,val,hi,u,e⟩|⟨n,e⟩
  .obtain⟨fr',j,q⟩:=E i key val hi u;exact⟨_,_,fr',e,j,q⟩
  .obtain⟨fr',j,q⟩:=h2 n;exact⟨_,_,fr',e,j,q⟩
 have⟨L,v',w',p,R',t,d,y⟩:=e;have z:(execOp a.eval o).run P w=.ok (.value v') w':=by simp[execOp,g,p]
 rw[z];exact f B nn L (a.put o.dst v') w' (st.put R' t d y j) K fun m2 A h2 a2 w2 M z e3 e4=>F m2 A h2 a2 w2 (t.trans M d) (jz d z) e3 e4
end
end Go.Fw
