/- A slice of bytes that is built and turned into itself ([]byte("..") of a constant). -/
import Derived.Test.YtpjmpaidcidjgaaGreatDoorDefsKb
import Derived.Test.YtpjmpaidcidjgaaGreatDoorSimRgKb
set_option linter.defProp false
namespace Ps
open Go
def xX(X:Tie)(n:Nat)(o1 o2:Oper)(p1 p2:aA):Bool:=
 match o1.op,o2.op,o1.dst,o2.dst,p1,p2 with
 |.buildSlice t m ps,.convert s d (.tmp t0),some t1,some t2,⟨some q1,.mov (.cst .und),none⟩,⟨some q2,.bsl false ze len parts,none⟩=>
  o1.guard.isNone&&o2.guard.isNone&&t0==t1&&q1==t1&&q2==t2&&s==t&&d==t&&decide (t1<n)&&decide (t2<n) &&
  (match X.P.underlying t with
   |some (.slice e)=>m==len&&ku X.P e ze&&(match X.P.info? e with|some i=>i.size==ze.cells.length|none=>false)&&la X ps.toList parts
   |_=>false) &&
  (match X.P.underlying t with|some (.slice e)=>ic X.P e .u8|_=>false)&&parts.all (fun q=>q.2.reads.isEmpty)
 |_,_,_,_,_,_=>false
def kT(X:Tie)(n:Nat)(ops:Array Oper):List Oper→List aA→Bool
 | [],[]=>true
 |o1::o2::l,p1::p2::m=>(xX X n o1 o2 p1 p2&&kT X n ops l m)||(eK X n ops o1 p1&&kT X n ops (o2::l) (p2::m))
 | [o],[p]=>eK X n ops o p
 |_,_=>false
section
variable {X : Tie} {g : Gh} {w : World} {n : Dn} {fr : Fr} {a : Act} {S : St}
def aEH(hF:FR X n g w fr a){ze:PV}{len:Nat}{parts:List (Nat×aH)}{t:TypeId}{m:Nat}{ps:Array (Nat×Operand)}
  (ht:(match X.P.underlying t with
   |some (.slice e)=>m==len&&ku X.P e ze&&(match X.P.info? e with|some i=>i.size==ze.cells.length|none=>false)&&la X ps.toList parts
   |_=>false)=true) (hpos:0<ze.cells.length) (hone:ze.cells.all PV.one=true) (hsmall:len*ze.cells.length≤16777216) {es:List PV}
  (h:dU fr ze.cells.length parts (List.replicate len ze)=some es) (dst:Option Tmp) (ty:TypeId) (pos:String) (after:Array Edge) (guard:Option (Nat×Bool)) :
  ∃e us',X.P.underlying t=some (.slice e)∧(execOp a.eval ⟨dst,.buildSlice t m ps,ty,pos,after,guard⟩).run X.P w=.ok (.value (.slice (some ⟨w.heap.size,0,none⟩) m m)) (w.alloc (.cells us' e)) ∧
   us'.size=m*ze.cells.length∧es.length=m∧(∀x∈es,x.cells.length=ze.cells.length)∧(∀x∈es,x.cells.all PV.one=true)∧(∀(j:Nat) (c:PV),(es.flatMap PV.cells)[j]?=some c→∃u,us'[j]?=some u∧VR X g w c u):=by
 split at ht
 ·rename_i e hu;simp only[aJ,beq_iff_eq]at ht;obtain⟨⟨⟨rfl,hz⟩,hsz⟩,hps⟩:=ht;obtain⟨zu,hz1,hz2⟩:=DB (w:=w) hz;have hzr:bX X g w ze.cells zu.cells:=ou (ol hz2) hone
  have hsize:(Go.sizeOf e).run X.P w=.ok ze.cells.length w:=by
   split at hsz
   ·rename_i i hi;simp only[beq_iff_eq]at hsz;simp[Go.sizeOf,typeInfo,hi,hsz]
   ·cases hsz
  have hrs:∀x∈List.replicate m ze,x.cells.length=ze.cells.length:=fun x hx=>by rw[rN hx]
  have hrf:=jN hrs;rw[xp]at hrf;let init:Array Value:=if m*ze.cells.length=0 then #[]else(Array.range (m*ze.cells.length)).map (zu.cells[· % zu.cells.size]!)
  have hinit:bX X g w ((List.replicate m ze).flatMap PV.cells) init:=by
   by_cases h0:m*ze.cells.length=0
   ·have:m=0:=by
     rcases yB.1 h0 with h|h
     ·exact h
     ·omega
    subst this;refine⟨by simp[init],fun j c u e1 _=>by simp at e1⟩
   ·simp only[init,if_neg h0];refine⟨by rw[hrf];simp,fun j c u e1 e2=>?_⟩
    have hj:j<m*ze.cells.length:=by
     have:=(aM.1 e1).1;omega
    have hq:j/ze.cells.length<m:=by rw[nr hpos];exact hj
    have hr:j%ze.cells.length<ze.cells.length:=mV _ hpos;have hg:=nN hrs (i:=j/ze.cells.length) (e:=ze) (by simp[hq]) (j%ze.cells.length) hr;rw[show j/ze.cells.length*ze.cells.length+j%ze.cells.length=j by rw[nu];exact uU _ _]at hg;rw[hg]at e1;have hzs:zu.cells.size=ze.cells.length:=hzr.1.symm;refine hzr.2 (j%ze.cells.length) c u e1 ?_;rw[xf,xg,if_pos hj,kh,ap]at e2;rw[←e2,hzs,gE (by omega)];simp[getElem!_pos,hzs,hr]
  obtain⟨us',f1,f2,f3,f4,f5⟩:=DO hF _ ps.toList parts _ es init hps h hinit hrs (fun x hx=>by rw[rN hx];exact hone);rw[xp]at f3;have hus:us'.size=m*ze.cells.length:=by rw[←f2.1,jN f4,f3]
  have hrun:(execOp a.eval ⟨dst,.buildSlice t m ps,ty,pos,after,guard⟩).run X.P w=.ok (.value (.slice (some ⟨w.heap.size,0,none⟩) m m)) (w.alloc (.cells us' e)):=by
   have hfill:Instr.fill (fun i=>some (i*ze.cells.length,ze.cells.length)) init (List.map (fun x=>(x.fst,a.eval x.snd)) ps.toList)=some us':=f1;simp only[execOp,Sem.run_bind,Instr.buildSlice,run_underlying hu,Result.andThen_ok,hsize];rw[if_neg (by omega)];by_cases h0:m*ze.cells.length=0
   ·simp only[init,if_pos h0]at hfill;have hr0:(Array.range 0).map (fun _=>(default:Value)) = #[]:=by simp
    simp[h0,hr0,hfill,newRow]
   ·simp only[init,if_neg h0]at hfill;simp[h0,hz1,hfill,newRow]
  have hcells:∀(j:Nat) (c:PV),(es.flatMap PV.cells)[j]?=some c→∃u,us'[j]?=some u∧VR X g w c u:=fun j c hc=>by
   have hj:j<us'.size:=by rw[←f2.1];exact(aM.1 hc).1
   exact⟨us'[j],by simp[hj],f2.2 j c _ hc (by simp[hj])⟩
  exact⟨e,us',hu,hrun,hus,f3,f4,f5,hcells⟩
 ·cases ht
inductive pI(X:Tie)(n:Nat)(ops:Array Oper):List Nat→List aA→Prop where
 |nil:pI X n ops [] []
 |cons (i:Nat) (o:Oper) (p:aA) (l:List Nat) (ps:List aA) (hi:ops[i]?=some o) (hc:eK X n ops o p=true) (h:pI X n ops l ps):pI X n ops (i::l) (p::ps)
 |pair (i j:Nat) (o1 o2:Oper) (p1 p2:aA) (l:List Nat) (ps:List aA) (hi:ops[i]?=some o1) (hj:ops[j]?=some o2) (hc:xX X n o1 o2 p1 p2=true) (h:pI X n ops l ps):pI X n ops (i::j::l) (p1::p2::ps)
theorem Dk{ops:Array Oper}:∀(N:Nat) {l:List Oper} {ps:List aA} (k:Nat),l.length≤N→(∀j,j<l.length→l[j]?=ops[k+j]?)→kT X n ops l ps=true→pI X n ops (List.range' k l.length) ps
 |_,[],[],_,_,_,_=>.nil
 |0,_::_,_,_,hN,_,_=>by simp at hN
 |N+1,[o],[p],k,_,hk,h=>by
  simp only[kT]at h
  exact .cons k o p _ [] (by simpa using (hk 0 (by simp)).symm) h .nil
 |N+1,o1::o2::l,p1::p2::m,k,hN,hk,h=>by
  simp only[kT,ir,aJ]at h;simp only[bL]at hN;rcases h with h|h
  ·simp only[bL,mU]
   exact .pair k (k+1) o1 o2 p1 p2 _ m (by simpa using (hk 0 (by simp)).symm) (by simpa using (hk 1 (by simp)).symm) h.1
    (Dk N (k+1+1) (by omega) (fun j hj=>by have:=hk (j+2) (by simpa using hj);simpa[dk,kB 2 j,kB 1 (1+j),kB 1 j]using this) h.2)
  ·have:=Dk N (l:=o2::l) (ps:=p2::m) (k+1) (by simp only[bL];omega) (fun j hj=>by have:=hk (j+1) (by simpa using hj);simpa[dk,kB 1 j]using this) h.2;rw[bL,mU]
   exact .cons k o1 p1 _ _ (by simpa using (hk 0 (by simp)).symm) h.1 this
 |_+1,[],_::_,_,_,_,h=>by simp[kT]at h
 |_+1,_::_,[],_,_,_,h=>by simp[kT]at h
 |_+1,[_],_::_::_,_,_,_,h=>by simp[kT]at h
 |_+1,_::_::_,[_],_,_,_,h=>by simp[kT]at h
 |0,[],_::_,_,_,_,h=>by simp[kT]at h
def aEI{w:World}{t e:TypeId}{b m:Nat}{us:Array Value}(ht:X.P.underlying t=some (.slice e))(he:X.P.underlying e=some (.int .u8))(hb:w.heap[b]?=some (.cells us e)) :
  (convert t t (.slice (some ⟨b,0,none⟩) m m)).run X.P w=.ok (.slice (some ⟨b,0,none⟩) m m) (w.freeze ⟨b,us.size,none⟩ 1):=by
 have hsh:w.shape? b=some (e,us.size):=by simp[World.shape?,hb]
 simp[convert,run_underlying ht,run_underlying he,markStringish,run_shape,hsh]
def aEJ{call:ac}{ops:Array Oper}{i j:Nat}{o1 o2:Oper}{p1 p2:aA}{l:List Nat}{ps:List aA}{r:Fr×St}(hi:ops[i]?=some o1)(hj:ops[j]?=some o2)(hc:xX X n o1 o2 p1 p2=true)
  (hS:SR X g S w)(hF:FR X n g w fr a)(h:ae X.T call (p1::p2::ps) fr S=some r){Q:Exit→Act→World→Prop}
  (hK:∀fr2 S2,ae X.T call ps fr2 S2=some r→∀g' w' a',Le g w g' w'→SR X g' S2 w'→FR X n g' w' fr2 a'→wpOps X.P ops Q l a' w'):wpOps X.P ops Q (i::j::l) a w:=by
 unfold xX at hc;split at hc
 ·rename_i t m ps0 s d t0 t1 t2 q1 q2 ze len parts e1 e2 d1 d2;simp only[aJ,nw,beq_iff_eq,decide_eq_true_eq]at hc;obtain⟨⟨⟨⟨⟨⟨⟨⟨⟨⟨⟨g1,g2⟩,rfl⟩,rfl⟩,rfl⟩,rfl⟩,rfl⟩,l1⟩,l2⟩,hb⟩,hu8⟩,hread⟩:=hc;simp only[ae,bu,aG,aR,ev,dF,aP]at h;split at h
  ·rename_i v S1 hv;split at hv
   ·rename_i es hes;simp only[cH,if_false,ap]at hv;unfold cY at hes;split at hes
    ·rename_i hcond;obtain⟨hpos,hone,hsmall⟩:=hcond
     have hes':dU fr ze.cells.length parts (List.replicate len ze)=some es:=by
      rw[←hes];refine DP _ _ _ (fun q hq=>?_);obtain⟨p,hp,hq⟩:=List.mem_flatMap.1 hq;have:=List.all_eq_true.1 hread p hp;simp only[List.isEmpty_iff]at this;rw[this]at hq;cases hq
     obtain⟨e,us',hu,hrun,hus,f3,f4,f5,hcells⟩:=aEH (w:=w) hF hb hpos hone hsmall hes' o1.dst o1.type o1.pos o1.after o1.guard
     have hu8':X.P.underlying e=some (.int .u8):=by
      rw[hu]at hu8;exact tU hu8
     have want1:∀y,Region.wanted o1 y=true:=fun y=>by simp[Region.wanted,g1]
     have want2:∀y,Region.wanted o2 y=true:=fun y=>by simp[Region.wanted,g2]
     simp only[wpOps,hi,hj,want1,want2,if_true];left;unfold Oper.wp
     have hr1:(execOp a.eval o1).run X.P w=.ok (.value (.slice (some ⟨w.heap.size,0,none⟩) m m)) (w.alloc (.cells us' e)):=by
      cases o1 with
      |mk dst op ty pos after guard=>
       simp only at e1;subst e1;exact hrun
     rw[hr1,Oper.upon_value,d1];left;have hz:(a.put (some q1) (.slice (some ⟨w.heap.size,0,none⟩) m m)).eval (.tmp q1)=.slice (some ⟨w.heap.size,0,none⟩) m m:=kV (by rw[hF.size];exact l1);have hblk:(w.alloc (.cells us' e)).heap[w.heap.size]?=some (.cells us' e (0,0)):=heap_alloc_new w _;have hmk:=aEI (X:=X) (m:=m) hu hu8' hblk
     have hr2:(execOp (a.put (some q1) (.slice (some ⟨w.heap.size,0,none⟩) m m)).eval o2).run X.P (w.alloc (.cells us' e))=.ok (.value (.slice (some ⟨w.heap.size,0,none⟩) m m)) ((w.alloc (.cells us' e)).freeze ⟨w.heap.size,us'.size,none⟩ 1):=by
      cases o2 with
      |mk dst op ty pos after guard=>
       simp only at e2;subst e2;simp[execOp,hz,hmk]
     rw[hr2,Oper.upon_value,d2]
     have hheap:((w.alloc (.cells us' e)).freeze ⟨w.heap.size,us'.size,none⟩ 1).heap=w.heap.push (.cells us' e (us'.size,us'.size+1)):=by
      have h0:(w.alloc (.cells us' e)).heap=w.heap.push (.cells us' e):=rfl;simp only[World.freeze,h0];simp only[Nat.one_ne_zero,if_false];apply Array.ext_getElem?;intro k;rw[nj,dh,dh];by_cases hk:k=w.heap.size
      ·subst hk;simp
      ·rw[if_neg (Ne.symm hk),if_neg hk,if_neg hk]
     have hst:=qj hS (es:=es) (us:=us') (t:=e) (lo:=us'.size) (hi:=us'.size+1) (sz:=ze.cells.length) (cap:=m)
      (w':=(w.alloc (.cells us' e)).freeze ⟨w.heap.size,us'.size,none⟩ 1) hheap (by simp[World.freeze];rfl) (by simp[World.freeze]) (by simp[World.freeze];rfl) hpos f4 f5 (by omega) (by omega) (.inr (aU _)) hcells
     rw[hv,f3]at hst;obtain⟨g',hle,hS',hvr⟩:=hst;exact hK _ _ h g' _ _ hle hS' (((hF.mono hle).put (d:=some q1) (fun t e=>by cases e;exact l1) (.und _)).put (d:=some q2) (fun t e=>by cases e;exact l2) hvr)
    ·cases hes
   ·cases hv
  ·cases h
 ·cases hc
def aEK{call:ac}(hty:eV X)(hM:ff X)(hC:dV X call){ops:Array Oper}{Q:Exit→Act→World→Prop}{fr':Fr}{S':St}:∀{l:List Nat} {ps:List aA} {g:Gh} {w:World} {fr:Fr} {S:St} {a:Act},
  pI X n ops l ps→SR X g S w→FR X n g w fr a→ae X.T call ps fr S=some (fr',S') →
  (∀g' w' a',Le g w g' w'→SR X g' S' w'→FR X n g' w' fr' a'→Q .normal a' w')→wpOps X.P ops Q l a w:=by
 intro l ps g w fr S a hf
 induction hf generalizing g w fr S a with
 |nil=>
  intro hS hF h hQ;simp only[ae,ap,bc]at h;obtain⟨rfl,rfl⟩:=h
  exact hQ g w a (Le.refl g w) hS hF
 |pair i j o1 o2 p1 p2 l ps hi hj hc _ ih=>
  intro hS hF h hQ
  exact aEJ hi hj hc hS hF h (fun fr2 S2 h2 g' w' a' hle hS' hF'=>ih hS' hF' h2 (fun g2 w2 a2 hle2 hS2 hF2=>hQ g2 w2 a2 (hle.trans hle2) hS2 hF2))
 |cons i o p l ps hi hc _ ih=>
  intro hS hF h hQ;simp only[eK,aJ,beq_iff_eq]at hc;obtain⟨⟨⟨hd,hlt⟩,hop⟩,hgd⟩:=hc
  have hdl:∀t,p.dst=some t→t<n:=by
   intro t ht;rw[hd]at ht;rw[ht]at hlt;simpa using hlt
  simp only[wpOps,hi];simp only[ae]at h;split at h
  ·cases h
  ·rename_i hw;rw[jv hF hgd hw,if_neg (by simp)];rw[←hd];exact ih hS (hF.put hdl (td X g w)) h hQ
  ·rename_i hw;rw[jv hF hgd hw,if_pos rfl];split at h
   ·rename_i v S1 hst;left
    have:=wu hty hM hC hS hF hop hst o.dst o.type o.pos o.after o.guard (wpOps X.P ops Q l) Q (fun u w' hstep=>by
     obtain⟨g',hle,hS',hv⟩:=hstep;rw[←hd];exact ih hS' ((hF.mono hle).put hdl hv) h (fun g2 w2 a2 hle2 hS2 hF2=>hQ g2 w2 a2 (hle.trans hle2) hS2 hF2))
    exact this
   ·cases h
end
end Ps
