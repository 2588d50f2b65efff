/- A slice of bytes that is built and turned into itself ([]byte("..") of a constant). -/
import Derived.Test.YtpjmpaidcidjgaaGreatDoorAbbKt
import Derived.Test.YtpjmpaidcidjgaaGreatDoorSimNqKt
import Derived.Test.YtpjmpaidcidjgaaGreatDoorGoKt
import Derived.Maps.RangeRun
import Derived.LoopN
import Derived.Below
set_option linter.defProp false
namespace Ps
set_option linter.unusedVariables false
set_option linter.unusedSimpArgs false
open Go
open Go.RowKit (Below)
def kE(t:Nat)(l:List (Nat×Nat)):Bool:=l.any fun q=>gC q.1 q.2 t
theorem PQ(t:Nat):∀(l:List (Nat×Nat)) (fr:Fr),fr t=.und→clrs l fr t=.und
 | [],_,h=>h
 |(lo,hi)::l,fr,h=>by
  refine PQ t l _ ?_;unfold eM;cases gC lo hi t<;>simp[h]
theorem oE(t:Nat):∀(l:List (Nat×Nat)) (fr:Fr),kE t l=true→clrs l fr t=.und
 | [],_,h=>by simp[kE]at h
 |(lo,hi)::l,fr,h=>by
  cases hc:gC lo hi t with
  |true=>exact PQ t l _ (by simp[eM,hc])
  |false=>
   refine oE t l _ ?_;simp only[kE,List.any_cons,hc,Bool.false_or]at h;exact h
def tG{fr:Fr}{t:Nat}(h:fr t=.und):aO fr (some t) .und=fr:=by
 funext s;simp only[aO,cg];split
 ·rename_i e;rw[e,h]
 ·rfl
def PR(P:Program)(t:TypeId):Bool:=match P.underlying t with|some (.map _ _)=>true|_=>false
def yf(X:Tie)(n:Nat)(c:Code)(pre:List aA)(x:aG)(en:Nat)(post:List aA)(l:List (Nat×Nat))(b:List aA):Bool:=false
theorem FR.clrs{X:Tie}{n:Dn}{g:Gh}{w:World}{a:Act}:∀(l:List (Nat×Nat)) {fr:Fr},FR X n g w fr a→FR X n g w (clrs l fr) a
 | [],_,h=>h
 |(lo,hi)::l,fr,h=>by
  refine FR.clrs l (fr:=eM lo hi fr) ⟨h.size,fun t=>?_,h.defers⟩;unfold eM;cases(gC lo hi t)
  ·exact h.at_ t
  ·exact .und _
structure iC(w w':World)(r:Nat):Prop where
 os:w'.os=w.os
 tape:w'.tape=w.tape
 output:w'.output=w.output
 size:w'.heap.size=w.heap.size
 other:∀b,b≠r→w'.heap[b]?=w.heap[b]?
 was:∃m s seen c,w.heap[r]?=some (.mapIter m s seen c)
 is:∃m s seen c,w'.heap[r]?=some (.mapIter m s seen c)
section
variable {X : Tie} {g : Gh} {w w' : World} {n : Dn} {fr : Fr} {a : Act} {S : St}
def iC.cells{r:Nat}(h:iC w w' r){b:Nat}{us:Array Value}{t:TypeId}{fz:Nat×Nat}(e:w.heap[b]?=some (.cells us t fz)):w'.heap[b]?=some (.cells us t fz):=by
 have hne:b≠r:=fun er=>by
  subst er;obtain⟨_,_,_,_,h1⟩:=h.was;rw[h1]at e;cases e
 rw[h.other b hne];exact e
def iC.map{r:Nat}(h:iC w w' r){b:Nat}{es:Array MapEntry}{c:Nat}(e:w.heap[b]?=some (.map es c)):w'.heap[b]?=some (.map es c):=by
 have hne:b≠r:=fun er=>by
  subst er;obtain⟨_,_,_,_,h1⟩:=h.was;rw[h1]at e;cases e
 rw[h.other b hne];exact e
def iC.cell{r:Nat}(h:iC w w' r)(b j:Nat):w'.cell? ⟨b,j,none⟩=w.cell? ⟨b,j,none⟩:=by
 by_cases e:b=r
 ·subst e;obtain⟨_,_,_,_,h1⟩:=h.was;obtain⟨_,_,_,_,h2⟩:=h.is;simp only[World.cell?,h1,h2]
 ·simp only[World.cell?,h.other b e]
def VR.itAt{r:Nat}(h:iC w w' r){v:PV}{u:Value}(hv:VR X g w v u):VR X g w' v u:=by
 induction hv with
 |und u=>exact .und u
 |int k n=>exact .int k n
 |bool b=>exact .bool b
 |str s=>exact .str s
 |nilp=>exact .nilp
 |nils=>exact .nils
 |nili=>exact .nili
 |nilf=>exact .nilf
 |ptr id off b e=>exact .ptr id off b e
 |ref cs b o us hpub hc _ ih=>exact .ref cs b o us hpub (fun j hj=>by rw[h.cell];exact hc j hj) ih
 |sl tip es sp b o cap sz us hcap hpos hsz hpub hc _ hlink hone ih=>
  refine .sl tip es sp b o cap sz us hcap hpos hsz hpub (fun j hj=>by rw[h.cell];exact hc j hj) ih ?_ hone;intro id e ht hs;obtain⟨h1,h2,h3⟩:=hlink id e ht hs;refine⟨h1,h2,?_⟩;rcases h3 with h3|⟨base,h4,h5,us',t,lo,hi,e1,h6⟩
  ·exact .inl h3
  ·exact .inr ⟨base,h4,h5,us',t,lo,hi,h.cells e1,h6⟩
 |slz a=>exact .slz a
 |osl id off len sz cap b e hl hr=>exact .osl id off len sz cap b e hl (fun q=>by
   obtain⟨us,t,lo,hi,e1,e2⟩:=hr q
   exact⟨us,t,lo,hi,h.cells e1,e2⟩)
 |emp a=>exact .emp a
 |iface t v u _ ih=>exact .iface t v u ih
 |agg cs us hl _ ih=>exact .agg cs us hl ih
 |tup cs us hl _ ih=>exact .tup cs us hl ih
 |fn f cs us hl _ ih=>exact .fn f cs us hl ih
 |nilm=>exact .nilm
 |map id b e=>exact .map id b e
 |hnd b=>exact .hnd b
 |bfn f cs us hl _ ih=>exact .bfn f cs us hl ih
def SR.itAt{r:Nat}(h:iC w w' r)(hS:SR X g S w):SR X g S w' where
 obj:=fun id b e=>by
  obtain⟨cs,us,t,h1,⟨fz,h2,hf⟩,h3,h4⟩:=hS.obj id b e;exact⟨cs,us,t,h1,⟨fz,h.cells h2,hf⟩,h3,fun j c u e1 e2=>(h4 j c u e1 e2).itAt h⟩
 inj:=hS.inj
 objpub:=hS.objpub
 arr:=hS.arr
 asz:=hS.asz
 lt:=fun b hb=>hS.lt b (by rw[←h.size];exact hb)
 maps:={
  ent:=fun id b e=>by
   obtain⟨cs,es,clock,h1,h2,h3,h4⟩:=hS.maps.ent id b e;exact⟨cs,es,clock,h1,h.map h2,h3,h4.imp fun c u q=>q.itAt h⟩
  inj:=hS.maps.inj,pub:=hS.maps.pub,dis:=hS.maps.dis,fz:=hS.maps.fz}
 gl:=fun q hq=>by
  obtain⟨⟨h1,h2,h3,h4⟩,h5⟩:=hS.gl q hq;exact⟨⟨by rw[h.size];exact h1,h2,h3,h4⟩,by rw[h.cell];exact h5⟩
def FR.itAt{r:Nat}(h:iC w w' r)(hF:FR X n g w fr a):FR X n g w' fr a:=⟨hF.size,fun t=>(hF.at_ t).itAt h,hF.defers⟩
def Le.itAt{g0:Gh}{w0:World}{r:Nat}(hle:Le g0 w0 g w)(h:iC w w' r)(hr:w0.heap.size≤r):Le g0 w0 g w' where
 os:=h.os.trans hle.os
 tape:=h.tape.trans hle.tape
 output:=h.output.trans hle.output
 size:=by rw[h.size];exact hle.size
 obj:=hle.obj
 arr:=hle.arr
 asz:=hle.asz
 pub:=hle.pub
 cell:=fun b j hj=>by rw[h.cell];exact hle.cell b j hj
 shape:=fun b us t fz e=>by
  obtain⟨us',e1,e2⟩:=hle.shape b us t fz e;exact⟨us',h.cells e1,e2⟩
 objN:=hle.objN
 arrN:=hle.arrN
 keep:=fun b hb ho ha hm=>by rw[h.other b (by omega)];exact hle.keep b hb ho ha hm
 pubN:=hle.pubN
 mp:=hle.mp
 mpN:=hle.mpN
 mf:=fun b es c e1 e2=>by
  obtain⟨q1,q2⟩:=hle.mf b es c e1 e2;exact⟨q1,h.map q2⟩
def me(hS:SR X g S w)(h:Below w.heap.size w w'):Le g w g w' where
 os:=h.os
 tape:=h.tape
 output:=h.output
 size:=h.size
 obj:=fun _ _ e=>e
 arr:=fun _ _ e=>e
 asz:=fun _ _ e=>e
 pub:=fun _=>aR _
 cell:=fun b j hj=>by
  have hb:b<w.heap.size:=by
   rcases iH b w.heap.size with h1|h1
   ·exact h1
   ·rw[(hS.lt b h1).1]at hj;omega
  simp only[World.cell?];rw[h.block b hb]
 shape:=fun b us t fz e=>by
  have hb:b<w.heap.size:=(bc.1 e).1;exact⟨us,by rw[h.block b hb];exact e,rfl⟩
 objN:=fun id _ e=>.inl ⟨id,e⟩
 arrN:=fun _ _ e=>.inl e
 keep:=fun b hb _ _ _=>h.block b hb
 pubN:=fun _ _ _ _ _=>rfl
 mp:=fun _ _ e=>e
 mpN:=fun _ _ e=>.inl e
 mf:=fun b es c e1 e2=>⟨e1,by rw[h.block b (bc.1 e2).1];exact e2⟩
def tH(hS:SR X g S w)(h:Below w.heap.size w w'):SR X g S w' where
 obj:=fun id b e=>by
  obtain⟨cs,us,t,h1,⟨fz,h2,hf⟩,h3,h4⟩:=hS.obj id b e;have hb:b<w.heap.size:=(bc.1 h2).1;exact⟨cs,us,t,h1,⟨fz,by rw[h.block b hb];exact h2,hf⟩,h3,fun j c u e1 e2=>(h4 j c u e1 e2).mono (me hS h)⟩
 inj:=hS.inj
 objpub:=hS.objpub
 arr:=hS.arr
 asz:=hS.asz
 lt:=fun b hb=>hS.lt b (Nat.le_trans h.size hb)
 maps:=hS.maps.of (fun _ _ h=>h) (fun _ _ _=>rfl) (fun i b e=>h.block b (hS.maps.lt e)) (fun c u r=>r.mono (me hS h)) (fun _ _ _=>⟨rfl,rfl⟩) (fun _ _ _ _ h=>h)
 gl:=hS.gl.le (me hS h)
def yg{a:Act}{d t:Nat}{u:Value}(h:t≠d):(a.put (some d) u).tmps.getD t undef=a.tmps.getD t undef:=by
 simp only[Act.put,eG];rw[fJ (Ne.symm h)]
def oF{a:Act}{d:Nat}{u:Value}(h:d<a.tmps.size):(a.put (some d) u).tmps.getD d undef=u:=by
 simp only[Act.put,eG];simp[h]
def PS{call:aX}(hty:dv X)(hM:eC X)(hC:cW X call){ops:Array Oper}{Q:Exit→Act→World→Prop}{fr':Fr}{S':St}{l2:List Nat}:∀{l:List Nat} {ps:List aA} {g:Gh} {w:World} {fr:Fr} {S:St} {a:Act},
  lD X n ops l ps→SR X g S w→FR X n g w fr a→aY X.T call ps fr S=some (fr',S') →
  (∀g' w' a',Le g w g' w'→SR X g' S' w'→FR X n g' w' fr' a'→wpOps X.P ops Q l2 a' w')→wpOps X.P ops Q (l++l2) a w:=by
 intro l ps g w fr S a hf
 induction hf generalizing g w fr S a with
 |nil=>
  intro hS hF h hQ;simp only[aY,ae,ba]at h;obtain⟨rfl,rfl⟩:=h
  exact hQ g w a (Le.refl g w) hS hF
 |cons i o p l ps hi hc _ ih=>
  intro hS hF h hQ;simp only[dL,aI,beq_iff_eq]at hc;obtain⟨⟨⟨hd,hlt⟩,hop⟩,hgd⟩:=hc
  have hdl:∀t,p.dst=some t→t<n:=by
   intro t ht;rw[hd]at ht;rw[ht]at hlt;simpa using hlt
  simp only[ij,wpOps,hi];simp only[aY]at h;split at h
  ·cases h
  ·rename_i hw;rw[iT hF hgd hw,if_neg (by simp)];rw[←hd];exact ih hS (hF.put hdl (pt X g w)) h hQ
  ·rename_i hw;rw[iT hF hgd hw,if_pos rfl];split at h
   ·rename_i v S1 hst;left
    have:=sT hty hM hC hS hF hop hst o.dst o.type o.pos o.after o.guard (wpOps X.P ops Q (l++l2)) Q (fun u w' hstep=>by
     obtain⟨g',hle,hS',hv⟩:=hstep;rw[←hd];exact ih hS' ((hF.mono hle).put hdl hv) h (fun g2 w2 a2 hle2 hS2 hF2=>hQ g2 w2 a2 (hle.trans hle2) hS2 hF2))
    exact this
   ·cases h
inductive eX(X:Tie)(g:Gh)(w:World):List (PV×PV)→List MapEntry→Prop where
 |nil:eX X g w [] []
 |cons (k v:PV) (ps:List (PV×PV)) (e:MapEntry) (es:List MapEntry) (hk:VR X g w k e.key) (hv:VR X g w v e.val) (h:eX X g w ps es):eX X g w ((k,v)::ps) (e::es)
def eX.of{cs:List PV}{es:List MapEntry}(h:MR X g w cs es):eX X g w (jo cs) es:=by
 induction h with
 |nil=>exact .nil
 |mark=>exact .nil
 |cons k v cs e es hk _ hv _ ih=>exact .cons k v _ e es hk hv ih
def eX.itAt{r:Nat}(h:iC w w' r){ps:List (PV×PV)}{es:List MapEntry}(hp:eX X g w ps es):eX X g w' ps es:=by
 induction hp with
 |nil=>exact .nil
 |cons k v ps e es hk hv _ ih=>exact .cons k v ps e es (hk.itAt h) (hv.itAt h) ih
def eX.length{ps:List (PV×PV)}{es:List MapEntry}(hp:eX X g w ps es):ps.length=es.length:=by
 induction hp with
 |nil=>rfl
 |cons k v ps e es _ _ _ ih=>simp[ih]
def eX.take{ps:List (PV×PV)}{es:List MapEntry}(hp:eX X g w ps es):∀{e:MapEntry},e∈es→(es.map (·.born)).Nodup →
  ∃k v ps',VR X g w k e.key∧VR X g w v e.val∧ps.Perm ((k,v)::ps')∧eX X g w ps' (es.filter fun x=>x.born != e.born):=by
 induction hp with
 |nil=>intro e he;cases he
 |cons k v ps e0 es hk hv h ih=>
  intro e he hn;simp only[cB,mm]at hn;by_cases hb:e0.born=e.born
  ·have hee:e=e0:=by
    rcases cY.1 he with h1|h1
    ·exact h1
    ·exact absurd (List.mem_map.2 ⟨e,h1,hb.symm⟩) hn.1
   subst hee;refine⟨k,v,ps,hk,hv,tV _,?_⟩
   have:List.filter (fun x=>x.born != e.born) (e::es)=es:=by
    rw[zP (by simp),jT];intro x hx;simp only[bne_iff_ne,ne_eq];exact fun eb=>hn.1 (List.mem_map.2 ⟨x,hx,eb⟩)
   rw[this];exact h
  ·have he':e∈es:=by
    rcases cY.1 he with h1|h1
    ·exact absurd (by rw[h1]) hb
    ·exact h1
   obtain⟨k1,v1,ps',q1,q2,q3,q4⟩:=ih he' hn.2;refine⟨k1,v1,(k,v)::ps',q1,q2,(q3.cons _).trans (List.Perm.swap _ _ _),?_⟩;rw[QK (by simpa using hb)];exact .cons k v ps' e0 _ hk hv q4
def Zk(es:Array MapEntry)(seen:Array Nat)(b:Nat):(leftOf es (seen.push b)).toList=(leftOf es seen).toList.filter fun x=>x.born != b:=by
 simp only[leftOf,Array.toList_filter,List.filter_filter];refine zO fun x _=>?_;by_cases h:x.born=b
 ·simp[h]
 ·simp[h]
def Zl{es:Array MapEntry}(seen:Array Nat)(h:(es.toList.map (·.born)).Nodup):((leftOf es seen).toList.map (·.born)).Nodup:=by
 simp only[leftOf,Array.toList_filter];exact h.sublist (List.Sublist.map _ zQ)
theorem PT{ops:Array Oper}:∀{l:List Oper} {ps:List aA} (k:Nat),(∀j,j<l.length→l[j]?=ops[k+j]?)→dX X n ops l ps=true→lD X n ops (List.range' k l.length) ps
 | [],[],_,_,_=>.nil
 |o::l,p::ps,k,hk,h=>by
  simp only[dX,aI]at h;simp only[bE,lS]
  exact .cons k o p _ ps (by simpa using (hk 0 (by simp)).symm) h.1 (PT (k+1) (fun j hj=>by have:=hk (j+1) (by simpa using hj);simpa[fq,gL 1 j]using this) h.2)
 | [],_::_,_,_,h=>by simp[dX]at h
 |_::_,[],_,_,h=>by simp[dX]at h
def Zm{w:World}{t k e:TypeId}{bm:Nat}{es:Array MapEntry}{clock:Nat}(ht:X.P.underlying t=some (.map k e))(hb:w.heap[bm]?=some (.map es clock)) :
  (Instr.range t (.map (some bm))).run X.P w=.ok (.pointer (some ⟨w.heap.size,0,none⟩)) (w.alloc (.mapIter (some bm) clock #[] clock)):=by
 simp[Instr.range,run_underlying ht,MapKept.run_getObj_map hb,Result.andThen,go_sem]
def Zn{w w1:World}{r:Nat}{m:Option Nat}{s c:Nat}{seen:Array Nat}(hr:w.heap[r]?=some (.mapIter m s seen c))(h1:w1=w∨w1=w.drew)(m':Option Nat)(s' c':Nat)(seen':Array Nat) :
  iC w (ChangeMaps.setBlock w1 r (.mapIter m' s' seen' c')) r∧(ChangeMaps.setBlock w1 r (.mapIter m' s' seen' c')).heap[r]?=some (.mapIter m' s' seen' c'):=by
 have hlt:r<w.heap.size:=(bc.1 hr).1;have hh:w1.heap=w.heap:=by rcases h1 with rfl|rfl<;>rfl
 have his:(ChangeMaps.setBlock w1 r (.mapIter m' s' seen' c')).heap[r]?=some (.mapIter m' s' seen' c'):=by
  simp[ChangeMaps.setBlock,hh,hlt]
 refine⟨⟨?_,?_,?_,?_,fun b hne=>?_,⟨_,_,_,_,hr⟩,⟨_,_,_,_,his⟩⟩,his⟩
 ·rcases h1 with rfl|rfl<;>rfl
 ·rcases h1 with rfl|rfl<;>rfl
 ·rcases h1 with rfl|rfl<;>rfl
 ·simp[ChangeMaps.setBlock,hh]
 ·simp only[ChangeMaps.setBlock,hh];exact fJ (Ne.symm hne)
def PU{P:Program}{w:World}{us:Array Value}{u:Value}{a:Act}{nx:Nat}(hu:a.tmps.getD nx undef=.tuple us)(h0:us[0]?=some u)(dst:Option Tmp)(ty:TypeId)(pos:String)(after:Array Edge)(guard:Option (Nat×Bool)) :
  (execOp a.eval ⟨dst,.extract (.tmp nx) 0,ty,pos,after,guard⟩).run P w=.ok (.value u) w:=by
 have:a.eval (.tmp nx)=.tuple us:=hu;simp[execOp,this,Instr.extract,h0]
set_option maxHeartbeats 1000000 in
def Zo{call:aX}(hty:dv X)(hM:eC X)(hC:cW X call){c:Code}{pre:List aA}{x:aG}{en:Nat}{post:List aA}{l:List (Nat×Nat)}{b:List aA}(hc:yf X n c pre x en post l b=true)
  {run:Fr→St→Option (Ex×Fr×St)}(hrun:∀fr S,run fr S=match aY X.T call b fr S with|some (fr',S')=>some (.norm,fr',S')|none=>none)
  (hS:SR X g S w)(hF:FR X n g w fr a){fr1 fr':Fr}{S1 S':St}(hpre:aY X.T call pre fr S=some (fr1,S1))(hrest:iP X.T call run x en post l fr1 S1=some (fr',S')){Q:Exit→Act→World→Prop}
  (hQ:∀g' w' a',Le g w g' w'→SR X g' S' w'→FR X n g' w' fr' a'→Q .normal a' w'):c.wp X.P Q a w:=by
 cases hc
end
end Ps
set_option linter.defProp false
namespace Ps
open Go
def tF(X:Tie)(n:Nat)(o1 o2:Oper)(p1 p2:aA):Bool:=
 match o1.op,o2.op,o1.dst,o2.dst,p1,p2 with
 |.buildSlice t m ps,.convert s d (.tmp t0),some t1,some t2,⟨some q1,.mov (.cst .und),none⟩,⟨some q2,.bsl false ze len parts,none⟩=>
  o1.guard.isNone&&o2.guard.isNone&&t0==t1&&q1==t1&&q2==t2&&s==t&&d==t&&decide (t1<n)&&decide (t2<n) &&
  (match X.P.underlying t with
   |some (.slice e)=>m==len&&jB X.P e ze&&(match X.P.info? e with|some i=>i.size==ze.cells.length|none=>false)&&ji X ps.toList parts
   |_=>false) &&
  (match X.P.underlying t with|some (.slice e)=>gB X.P e .u8|_=>false)&&parts.all (fun q=>q.2.reads.isEmpty)
 |_,_,_,_,_,_=>false
def iX(X:Tie)(n:Nat)(ops:Array Oper):List Oper→List aA→Bool
 | [],[]=>true
 |o1::o2::l,p1::p2::m=>(tF X n o1 o2 p1 p2&&iX X n ops l m)||(dL X n ops o1 p1&&iX X n ops (o2::l) (p2::m))
 | [o],[p]=>dL X n ops o p
 |_,_=>false
section
variable {X : Tie} {g : Gh} {w : World} {n : Dn} {fr : Fr} {a : Act} {S : St}
def Zf(hF:FR X n g w fr a){ze:PV}{len:Nat}{parts:List (Nat×aG)}{t:TypeId}{m:Nat}{ps:Array (Nat×Operand)}
  (ht:(match X.P.underlying t with
   |some (.slice e)=>m==len&&jB X.P e ze&&(match X.P.info? e with|some i=>i.size==ze.cells.length|none=>false)&&ji X ps.toList parts
   |_=>false)=true) (hpos:0<ze.cells.length) (hone:ze.cells.all PV.one=true) (hsmall:len*ze.cells.length≤16777216) {es:List PV}
  (h:eP fr ze.cells.length parts (List.replicate len ze)=some es) (dst:Option Tmp) (ty:TypeId) (pos:String) (after:Array Edge) (guard:Option (Nat×Bool)) :
  ∃e us',X.P.underlying t=some (.slice e)∧(execOp a.eval ⟨dst,.buildSlice t m ps,ty,pos,after,guard⟩).run X.P w=.ok (.value (.slice (some ⟨w.heap.size,0,none⟩) m m)) (w.alloc (.cells us' e)) ∧
   us'.size=m*ze.cells.length∧es.length=m∧(∀x∈es,x.cells.length=ze.cells.length)∧(∀x∈es,x.cells.all PV.one=true)∧(∀(j:Nat) (c:PV),(es.flatMap PV.cells)[j]?=some c→∃u,us'[j]?=some u∧VR X g w c u):=by
 split at ht
 ·rename_i e hu;simp only[aI,beq_iff_eq]at ht;obtain⟨⟨⟨rfl,hz⟩,hsz⟩,hps⟩:=ht;obtain⟨zu,hz1,hz2⟩:=xw (w:=w) hz;have hzr:bD X g w ze.cells zu.cells:=mO (mJ hz2) hone
  have hsize:(Go.sizeOf e).run X.P w=.ok ze.cells.length w:=by
   split at hsz
   ·rename_i i hi;simp only[beq_iff_eq]at hsz;simp[Go.sizeOf,typeInfo,hi,hsz]
   ·cases hsz
  have hrs:∀x∈List.replicate m ze,x.cells.length=ze.cells.length:=fun x hx=>by rw[oN hx]
  have hrf:=gV hrs;rw[te]at hrf;let init:Array Value:=if m*ze.cells.length=0 then #[]else(Array.range (m*ze.cells.length)).map (zu.cells[· % zu.cells.size]!)
  have hinit:bD X g w ((List.replicate m ze).flatMap PV.cells) init:=by
   by_cases h0:m*ze.cells.length=0
   ·have:m=0:=by
     rcases tw.1 h0 with h|h
     ·exact h
     ·omega
    subst this;refine⟨by simp[init],fun j c u e1 _=>by simp at e1⟩
   ·simp only[init,if_neg h0];refine⟨by rw[hrf];simp,fun j c u e1 e2=>?_⟩
    have hj:j<m*ze.cells.length:=by
     have:=(aL.1 e1).1;omega
    have hq:j/ze.cells.length<m:=by rw[mq hpos];exact hj
    have hr:j%ze.cells.length<ze.cells.length:=io _ hpos;have hg:=ky hrs (i:=j/ze.cells.length) (e:=ze) (by simp[hq]) (j%ze.cells.length) hr;rw[show j/ze.cells.length*ze.cells.length+j%ze.cells.length=j by rw[mr];exact qn _ _]at hg;rw[hg]at e1;have hzs:zu.cells.size=ze.cells.length:=hzr.1.symm;refine hzr.2 (j%ze.cells.length) c u e1 ?_;rw[tR,tS,if_pos hj,ip,ae]at e2;rw[←e2,hzs,dy (by omega)];simp[getElem!_pos,hzs,hr]
  obtain⟨us',f1,f2,f3,f4,f5⟩:=yI hF _ ps.toList parts _ es init hps h hinit hrs (fun x hx=>by rw[oN hx];exact hone);rw[te]at f3;have hus:us'.size=m*ze.cells.length:=by rw[←f2.1,gV f4,f3]
  have hrun:(execOp a.eval ⟨dst,.buildSlice t m ps,ty,pos,after,guard⟩).run X.P w=.ok (.value (.slice (some ⟨w.heap.size,0,none⟩) m m)) (w.alloc (.cells us' e)):=by
   have hfill:Instr.fill (fun i=>some (i*ze.cells.length,ze.cells.length)) init (List.map (fun x=>(x.fst,a.eval x.snd)) ps.toList)=some us':=f1;simp only[execOp,Sem.run_bind,Instr.buildSlice,run_underlying hu,Result.andThen_ok,hsize];rw[if_neg (by omega)];by_cases h0:m*ze.cells.length=0
   ·simp only[init,if_pos h0]at hfill;have hr0:(Array.range 0).map (fun _=>(default:Value)) = #[]:=by simp
    simp[h0,hr0,hfill,newRow]
   ·simp only[init,if_neg h0]at hfill;simp[h0,hz1,hfill,newRow]
  have hcells:∀(j:Nat) (c:PV),(es.flatMap PV.cells)[j]?=some c→∃u,us'[j]?=some u∧VR X g w c u:=fun j c hc=>by
   have hj:j<us'.size:=by rw[←f2.1];exact(aL.1 hc).1
   exact⟨us'[j],by simp[hj],f2.2 j c _ hc (by simp[hj])⟩
  exact⟨e,us',hu,hrun,hus,f3,f4,f5,hcells⟩
 ·cases ht
inductive md(X:Tie)(n:Nat)(ops:Array Oper):List Nat→List aA→Prop where
 |nil:md X n ops [] []
 |cons (i:Nat) (o:Oper) (p:aA) (l:List Nat) (ps:List aA) (hi:ops[i]?=some o) (hc:dL X n ops o p=true) (h:md X n ops l ps):md X n ops (i::l) (p::ps)
 |pair (i j:Nat) (o1 o2:Oper) (p1 p2:aA) (l:List Nat) (ps:List aA) (hi:ops[i]?=some o1) (hj:ops[j]?=some o2) (hc:tF X n o1 o2 p1 p2=true) (h:md X n ops l ps):md X n ops (i::j::l) (p1::p2::ps)
theorem ye{ops:Array Oper}:∀(N:Nat) {l:List Oper} {ps:List aA} (k:Nat),l.length≤N→(∀j,j<l.length→l[j]?=ops[k+j]?)→iX X n ops l ps=true→md X n ops (List.range' k l.length) ps
 |_,[],[],_,_,_,_=>.nil
 |0,_::_,_,_,hN,_,_=>by simp at hN
 |N+1,[o],[p],k,_,hk,h=>by
  simp only[iX]at h
  exact .cons k o p _ [] (by simpa using (hk 0 (by simp)).symm) h .nil
 |N+1,o1::o2::l,p1::p2::m,k,hN,hk,h=>by
  simp only[iX,gJ,aI]at h;simp only[bE]at hN;rcases h with h|h
  ·simp only[bE,lS]
   exact .pair k (k+1) o1 o2 p1 p2 _ m (by simpa using (hk 0 (by simp)).symm) (by simpa using (hk 1 (by simp)).symm) h.1
    (ye N (k+1+1) (by omega) (fun j hj=>by have:=hk (j+2) (by simpa using hj);simpa[fq,gL 2 j,gL 1 (1+j),gL 1 j]using this) h.2)
  ·have:=ye N (l:=o2::l) (ps:=p2::m) (k+1) (by simp only[bE];omega) (fun j hj=>by have:=hk (j+1) (by simpa using hj);simpa[fq,gL 1 j]using this) h.2;rw[bE,lS]
   exact .cons k o1 p1 _ _ (by simpa using (hk 0 (by simp)).symm) h.1 this
 |_+1,[],_::_,_,_,_,h=>by simp[iX]at h
 |_+1,_::_,[],_,_,_,h=>by simp[iX]at h
 |_+1,[_],_::_::_,_,_,_,h=>by simp[iX]at h
 |_+1,_::_::_,[_],_,_,_,h=>by simp[iX]at h
 |0,[],_::_,_,_,_,h=>by simp[iX]at h
def Zg{w:World}{t e:TypeId}{b m:Nat}{us:Array Value}(ht:X.P.underlying t=some (.slice e))(he:X.P.underlying e=some (.int .u8))(hb:w.heap[b]?=some (.cells us e)) :
  (convert t t (.slice (some ⟨b,0,none⟩) m m)).run X.P w=.ok (.slice (some ⟨b,0,none⟩) m m) (w.freeze ⟨b,us.size,none⟩ 1):=by
 have hsh:w.shape? b=some (e,us.size):=by simp[World.shape?,hb]
 simp[convert,run_underlying ht,run_underlying he,markStringish,run_shape,hsh]
def Zh{call:aX}{ops:Array Oper}{i j:Nat}{o1 o2:Oper}{p1 p2:aA}{l:List Nat}{ps:List aA}{r:Fr×St}(hi:ops[i]?=some o1)(hj:ops[j]?=some o2)(hc:tF X n o1 o2 p1 p2=true)
  (hS:SR X g S w)(hF:FR X n g w fr a)(h:aY X.T call (p1::p2::ps) fr S=some r){Q:Exit→Act→World→Prop}
  (hK:∀fr2 S2,aY X.T call ps fr2 S2=some r→∀g' w' a',Le g w g' w'→SR X g' S2 w'→FR X n g' w' fr2 a'→wpOps X.P ops Q l a' w'):wpOps X.P ops Q (i::j::l) a w:=by
 unfold tF at hc;split at hc
 ·rename_i t m ps0 s d t0 t1 t2 q1 q2 ze len parts e1 e2 d1 d2;simp only[aI,oS,beq_iff_eq,decide_eq_true_eq]at hc;obtain⟨⟨⟨⟨⟨⟨⟨⟨⟨⟨⟨g1,g2⟩,rfl⟩,rfl⟩,rfl⟩,rfl⟩,rfl⟩,l1⟩,l2⟩,hb⟩,hu8⟩,hread⟩:=hc;simp only[aY,bW,aH,aQ,ev,ck,aO]at h;split at h
  ·rename_i v S1 hv;split at hv
   ·rename_i es hes;simp only[bg,if_false,ae]at hv;unfold cx at hes;split at hes
    ·rename_i hcond;obtain⟨hpos,hone,hsmall⟩:=hcond
     have hes':eP fr ze.cells.length parts (List.replicate len ze)=some es:=by
      rw[←hes];refine yK _ _ _ (fun q hq=>?_);obtain⟨p,hp,hq⟩:=List.mem_flatMap.1 hq;have:=List.all_eq_true.1 hread p hp;simp only[List.isEmpty_iff]at this;rw[this]at hq;cases hq
     obtain⟨e,us',hu,hrun,hus,f3,f4,f5,hcells⟩:=Zf (w:=w) hF hb hpos hone hsmall hes' o1.dst o1.type o1.pos o1.after o1.guard
     have hu8':X.P.underlying e=some (.int .u8):=by
      rw[hu]at hu8;exact pi hu8
     have want1:∀y,Region.wanted o1 y=true:=fun y=>by simp[Region.wanted,g1]
     have want2:∀y,Region.wanted o2 y=true:=fun y=>by simp[Region.wanted,g2]
     simp only[wpOps,hi,hj,want1,want2,if_true];left;unfold Oper.wp
     have hr1:(execOp a.eval o1).run X.P w=.ok (.value (.slice (some ⟨w.heap.size,0,none⟩) m m)) (w.alloc (.cells us' e)):=by
      cases o1 with
      |mk dst op ty pos after guard=>
       simp only at e1;subst e1;exact hrun
     rw[hr1,Oper.upon_value,d1];left;have hz:(a.put (some q1) (.slice (some ⟨w.heap.size,0,none⟩) m m)).eval (.tmp q1)=.slice (some ⟨w.heap.size,0,none⟩) m m:=oF (by rw[hF.size];exact l1);have hblk:(w.alloc (.cells us' e)).heap[w.heap.size]?=some (.cells us' e (0,0)):=heap_alloc_new w _;have hmk:=Zg (X:=X) (m:=m) hu hu8' hblk
     have hr2:(execOp (a.put (some q1) (.slice (some ⟨w.heap.size,0,none⟩) m m)).eval o2).run X.P (w.alloc (.cells us' e))=.ok (.value (.slice (some ⟨w.heap.size,0,none⟩) m m)) ((w.alloc (.cells us' e)).freeze ⟨w.heap.size,us'.size,none⟩ 1):=by
      cases o2 with
      |mk dst op ty pos after guard=>
       simp only at e2;subst e2;simp[execOp,hz,hmk]
     rw[hr2,Oper.upon_value,d2]
     have hheap:((w.alloc (.cells us' e)).freeze ⟨w.heap.size,us'.size,none⟩ 1).heap=w.heap.push (.cells us' e (us'.size,us'.size+1)):=by
      have h0:(w.alloc (.cells us' e)).heap=w.heap.push (.cells us' e):=rfl;simp only[World.freeze,h0];simp only[Nat.one_ne_zero,if_false];apply Array.ext_getElem?;intro k;rw[lO,cj,cj];by_cases hk:k=w.heap.size
      ·subst hk;simp
      ·rw[if_neg (Ne.symm hk),if_neg hk,if_neg hk]
     have hst:=nj hS (es:=es) (us:=us') (t:=e) (lo:=us'.size) (hi:=us'.size+1) (sz:=ze.cells.length) (cap:=m)
      (w':=(w.alloc (.cells us' e)).freeze ⟨w.heap.size,us'.size,none⟩ 1) hheap (by simp[World.freeze];rfl) (by simp[World.freeze]) (by simp[World.freeze];rfl) hpos f4 f5 (by omega) (by omega) (.inr (aR _)) hcells
     rw[hv,f3]at hst;obtain⟨g',hle,hS',hvr⟩:=hst;exact hK _ _ h g' _ _ hle hS' (((hF.mono hle).put (d:=some q1) (fun t e=>by cases e;exact l1) (.und _)).put (d:=some q2) (fun t e=>by cases e;exact l2) hvr)
    ·cases hes
   ·cases hv
  ·cases h
 ·cases hc
def Zi{call:aX}(hty:dv X)(hM:eC X)(hC:cW X call){ops:Array Oper}{Q:Exit→Act→World→Prop}{fr':Fr}{S':St}:∀{l:List Nat} {ps:List aA} {g:Gh} {w:World} {fr:Fr} {S:St} {a:Act},
  md X n ops l ps→SR X g S w→FR X n g w fr a→aY X.T call ps fr S=some (fr',S') →
  (∀g' w' a',Le g w g' w'→SR X g' S' w'→FR X n g' w' fr' a'→Q .normal a' w')→wpOps X.P ops Q l a w:=by
 intro l ps g w fr S a hf
 induction hf generalizing g w fr S a with
 |nil=>
  intro hS hF h hQ;simp only[aY,ae,ba]at h;obtain⟨rfl,rfl⟩:=h
  exact hQ g w a (Le.refl g w) hS hF
 |pair i j o1 o2 p1 p2 l ps hi hj hc _ ih=>
  intro hS hF h hQ
  exact Zh hi hj hc hS hF h (fun fr2 S2 h2 g' w' a' hle hS' hF'=>ih hS' hF' h2 (fun g2 w2 a2 hle2 hS2 hF2=>hQ g2 w2 a2 (hle.trans hle2) hS2 hF2))
 |cons i o p l ps hi hc _ ih=>
  intro hS hF h hQ;simp only[dL,aI,beq_iff_eq]at hc;obtain⟨⟨⟨hd,hlt⟩,hop⟩,hgd⟩:=hc
  have hdl:∀t,p.dst=some t→t<n:=by
   intro t ht;rw[hd]at ht;rw[ht]at hlt;simpa using hlt
  simp only[wpOps,hi];simp only[aY]at h;split at h
  ·cases h
  ·rename_i hw;rw[iT hF hgd hw,if_neg (by simp)];rw[←hd];exact ih hS (hF.put hdl (pt X g w)) h hQ
  ·rename_i hw;rw[iT hF hgd hw,if_pos rfl];split at h
   ·rename_i v S1 hst;left
    have:=sT hty hM hC hS hF hop hst o.dst o.type o.pos o.after o.guard (wpOps X.P ops Q l) Q (fun u w' hstep=>by
     obtain⟨g',hle,hS',hv⟩:=hstep;rw[←hd];exact ih hS' ((hF.mono hle).put hdl hv) h (fun g2 w2 a2 hle2 hS2 hF2=>hQ g2 w2 a2 (hle.trans hle2) hS2 hF2))
    exact this
   ·cases h
end
end Ps
