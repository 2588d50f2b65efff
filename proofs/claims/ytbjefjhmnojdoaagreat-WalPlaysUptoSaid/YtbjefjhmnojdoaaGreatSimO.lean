/- Whole bodies. -/
import Derived.Test.YtbjefjhmnojdoaaGreatDefs
import Derived.Test.YtbjefjhmnojdoaaGreatSimRg
import Derived.Test.YtbjefjhmnojdoaaGreatSimNr
import Derived.LoopN
import Derived.Scope
set_option linter.defProp false
namespace Ps
open Go
def AB(X:bF)(n:Nat)(o1 o2:Oper)(p1 p2:aF):Bool:=
 match o1.op,o2.op,o1.dst,o2.dst,p1,p2 with
 |.buildSlice t m ps,.convert s d (.tmp t0),some t1,some t2,⟨some q1,.mov (.cst .und),none⟩,⟨some q2,.bsl false ze len parts,none⟩=>
  o1.guard.isNone&&o2.guard.isNone&&t0==t1&&q1==t1&&q2==t2&&s==t&&d==t&&decide (t1<n)&&decide (t2<n) &&
  (match X.P.underlying t with
   |some (.slice e)=>m==len&&lE X.P e ze&&(match X.P.info? e with|some i=>i.size==ze.cells.length|none=>false)&&mJ X ps.toList parts
   |_=>false) &&
  (match X.P.underlying t with|some (.slice e)=>jA X.P e .u8|_=>false)&&parts.all (fun q=>q.2.reads.isEmpty)
 |_,_,_,_,_,_=>false
def kx(X:bF)(n:Nat)(ops:Array Oper):List Oper→List aF→Bool
 | [],[]=>true
 |o1::o2::l,p1::p2::m=>(AB X n o1 o2 p1 p2&&kx X n ops l m)||(gP X n ops o1 p1&&kx X n ops (o2::l) (p2::m))
 | [o],[p]=>gP X n ops o p
 |_,_=>false
section
variable {X : bF} {g : Gh} {w : World} {n : Dn} {fr : Fr} {a : Act} {S : St}
def aHe(hF:FR X n g w fr a){ze:PV}{len:Nat}{parts:List (Nat×aM)}{t:TypeId}{m:Nat}{ps:Array (Nat×Operand)}
  (ht:(match X.P.underlying t with
   |some (.slice e)=>m==len&&lE X.P e ze&&(match X.P.info? e with|some i=>i.size==ze.cells.length|none=>false)&&mJ X ps.toList parts
   |_=>false)=true) (hpos:0<ze.cells.length) (hone:ze.cells.all PV.one=true) (hsmall:len*ze.cells.length≤16777216) {es:List PV}
  (h:bR fr ze.cells.length parts (List.replicate len ze)=some es) (dst:Option Tmp) (ty:TypeId) (pos:String) (after:Array Edge) (guard:Option (Nat×Bool)) :
  ∃e us',X.P.underlying t=some (.slice e)∧(execOp a.eval ⟨dst,.buildSlice t m ps,ty,pos,after,guard⟩).run X.P w=.ok (.value (.slice (some ⟨w.heap.size,0,none⟩) m m)) (w.alloc (.cells us' e)) ∧
   us'.size=m*ze.cells.length∧es.length=m∧(∀x∈es,x.cells.length=ze.cells.length)∧(∀x∈es,x.cells.all PV.one=true)∧(∀(j:Nat) (c:PV),(es.flatMap PV.cells)[j]?=some c→∃u,us'[j]?=some u∧VR X g w c u):=by
 split at ht
 ·rename_i e hu;simp only[aV,beq_iff_eq]at ht;obtain⟨⟨⟨rfl,hz⟩,hsz⟩,hps⟩:=ht;obtain⟨zu,hz1,hz2⟩:=Ed (w:=w) hz;have hzr:cZ X g w ze.cells zu.cells:=rt (vL hz2) hone
  have hsize:(Go.sizeOf e).run X.P w=.ok ze.cells.length w:=by
   split at hsz
   ·rename_i i hi;simp only[beq_iff_eq]at hsz;simp[Go.sizeOf,typeInfo,hi,hsz]
   ·cases hsz
  have hrs:∀x∈List.replicate m ze,x.cells.length=ze.cells.length:=fun x hx=>by rw[sb hx]
  have hrf:=ji hrs;rw[Aa]at hrf;let init:Array Value:=if m*ze.cells.length=0 then #[]else(Array.range (m*ze.cells.length)).map (zu.cells[· % zu.cells.size]!)
  have hinit:cZ X g w ((List.replicate m ze).flatMap PV.cells) init:=by
   by_cases h0:m*ze.cells.length=0
   ·have:m=0:=by
     rcases GQ.1 h0 with h|h
     ·exact h
     ·omega
    subst this;refine⟨by simp[init],fun j c u e1 _=>by simp at e1⟩
   ·simp only[init,if_neg h0];refine⟨by rw[hrf];simp,fun j c u e1 e2=>?_⟩
    have hj:j<m*ze.cells.length:=by
     have:=(aS.1 e1).1;omega
    have hq:j/ze.cells.length<m:=by rw[qT hpos];exact hj
    have hr:j%ze.cells.length<ze.cells.length:=Nat.mod_lt _ hpos;have hg:=oN hrs (i:=j/ze.cells.length) (e:=ze) (by simp[hq]) (j%ze.cells.length) hr;rw[show j/ze.cells.length*ze.cells.length+j%ze.cells.length=j by rw[sr];exact wG _ _]at hg;rw[hg]at e1;have hzs:zu.cells.size=ze.cells.length:=hzr.1.symm;refine hzr.2 (j%ze.cells.length) c u e1 ?_;rw[Fv,Fw,if_pos hj,lD,bU]at e2;rw[←e2,hzs,iA (by omega)];simp[getElem!_pos,hzs,hr]
  obtain⟨us',f1,f2,f3,f4,f5⟩:=Er hF _ ps.toList parts _ es init hps h hinit hrs (fun x hx=>by rw[sb hx];exact hone);rw[Aa]at f3;have hus:us'.size=m*ze.cells.length:=by rw[←f2.1,ji f4,f3]
  have hrun:(execOp a.eval ⟨dst,.buildSlice t m ps,ty,pos,after,guard⟩).run X.P w=.ok (.value (.slice (some ⟨w.heap.size,0,none⟩) m m)) (w.alloc (.cells us' e)):=by
   have hfill:Instr.fill (fun i=>some (i*ze.cells.length,ze.cells.length)) init (List.map (fun x=>(x.fst,a.eval x.snd)) ps.toList)=some us':=f1;simp only[execOp,Sem.run_bind,Instr.buildSlice,run_underlying hu,Result.andThen_ok,hsize];rw[if_neg (by omega)];by_cases h0:m*ze.cells.length=0
   ·simp only[init,if_pos h0]at hfill;have hr0:(Array.range 0).map (fun _=>(default:Value)) = #[]:=by simp
    simp[h0,hr0,hfill,newRow]
   ·simp only[init,if_neg h0]at hfill;simp[h0,hz1,hfill,newRow]
  have hcells:∀(j:Nat) (c:PV),(es.flatMap PV.cells)[j]?=some c→∃u,us'[j]?=some u∧VR X g w c u:=fun j c hc=>by
   have hj:j<us'.size:=by rw[←f2.1];exact(aS.1 hc).1
   exact⟨us'[j],by simp[hj],f2.2 j c _ hc (by simp[hj])⟩
  exact⟨e,us',hu,hrun,hus,f3,f4,f5,hcells⟩
 ·cases ht
inductive qE(X:bF)(n:Nat)(ops:Array Oper):List Nat→List aF→Prop where
 |nil:qE X n ops [] []
 |cons (i:Nat) (o:Oper) (p:aF) (l:List Nat) (ps:List aF) (hi:ops[i]?=some o) (hc:gP X n ops o p=true) (h:qE X n ops l ps):qE X n ops (i::l) (p::ps)
 |pair (i j:Nat) (o1 o2:Oper) (p1 p2:aF) (l:List Nat) (ps:List aF) (hi:ops[i]?=some o1) (hj:ops[j]?=some o2) (hc:AB X n o1 o2 p1 p2=true) (h:qE X n ops l ps):qE X n ops (i::j::l) (p1::p2::ps)
theorem FJ{ops:Array Oper}:∀(N:Nat) {l:List Oper} {ps:List aF} (k:Nat),l.length≤N→(∀j,j<l.length→l[j]?=ops[k+j]?)→kx X n ops l ps=true→qE X n ops (List.range' k l.length) ps
 |_,[],[],_,_,_,_=>.nil
 |0,_::_,_,_,hN,_,_=>by simp at hN
 |N+1,[o],[p],k,_,hk,h=>by
  simp only[kx]at h
  exact .cons k o p _ [] (by simpa using (hk 0 (by simp)).symm) h .nil
 |N+1,o1::o2::l,p1::p2::m,k,hN,hk,h=>by
  simp only[kx,jW,aV]at h;simp only[bV]at hN;rcases h with h|h
  ·simp only[bV,sh]
   exact .pair k (k+1) o1 o2 p1 p2 _ m (by simpa using (hk 0 (by simp)).symm) (by simpa using (hk 1 (by simp)).symm) h.1
    (FJ N (k+1+1) (by omega) (fun j hj=>by have:=hk (j+2) (by simpa using hj);simpa[iL,mG 2 j,mG 1 (1+j),mG 1 j]using this) h.2)
  ·have:=FJ N (l:=o2::l) (ps:=p2::m) (k+1) (by simp only[bV];omega) (fun j hj=>by have:=hk (j+1) (by simpa using hj);simpa[iL,mG 1 j]using this) h.2;rw[bV,sh]
   exact .cons k o1 p1 _ _ (by simpa using (hk 0 (by simp)).symm) h.1 this
 |_+1,[],_::_,_,_,_,h=>by simp[kx]at h
 |_+1,_::_,[],_,_,_,h=>by simp[kx]at h
 |_+1,[_],_::_::_,_,_,_,h=>by simp[kx]at h
 |_+1,_::_::_,[_],_,_,_,h=>by simp[kx]at h
 |0,[],_::_,_,_,_,h=>by simp[kx]at h
def aHf{w:World}{t e:TypeId}{b m:Nat}{us:Array Value}(ht:X.P.underlying t=some (.slice e))(he:X.P.underlying e=some (.int .u8))(hb:w.heap[b]?=some (.cells us e)) :
  (convert t t (.slice (some ⟨b,0,none⟩) m m)).run X.P w=.ok (.slice (some ⟨b,0,none⟩) m m) (w.freeze ⟨b,us.size,none⟩ 1):=by
 have hsh:w.shape? b=some (e,us.size):=by simp[World.shape?,hb]
 simp[convert,run_underlying ht,run_underlying he,markStringish,run_shape,hsh]
def aHg{call:bS}{ops:Array Oper}{i j:Nat}{o1 o2:Oper}{p1 p2:aF}{l:List Nat}{ps:List aF}{r:Fr×St}(hi:ops[i]?=some o1)(hj:ops[j]?=some o2)(hc:AB X n o1 o2 p1 p2=true)
  (hS:SR X g S w)(hF:FR X n g w fr a)(h:bf X.T call (p1::p2::ps) fr S=some r){Q:Exit→Act→World→Prop}
  (hK:∀fr2 S2,bf X.T call ps fr2 S2=some r→∀g' w' a',Le g w g' w'→SR X g' S2 w'→FR X n g' w' fr2 a'→wpOps X.P ops Q l a' w'):wpOps X.P ops Q (i::j::l) a w:=by
 unfold AB at hc;split at hc
 ·rename_i t m ps0 s d t0 t1 t2 q1 q2 ze len parts e1 e2 d1 d2;simp only[aV,GT,beq_iff_eq,decide_eq_true_eq]at hc;obtain⟨⟨⟨⟨⟨⟨⟨⟨⟨⟨⟨g1,g2⟩,rfl⟩,rfl⟩,rfl⟩,rfl⟩,rfl⟩,l1⟩,l2⟩,hb⟩,hu8⟩,hread⟩:=hc;simp only[bf,eG,aI,aQ,ev,fm,aw]at h;split at h
  ·rename_i v S1 hv;split at hv
   ·rename_i es hes;simp only[cF,if_false,bU]at hv;unfold bL at hes;split at hes
    ·rename_i hcond;obtain⟨hpos,hone,hsmall⟩:=hcond
     have hes':bR fr ze.cells.length parts (List.replicate len ze)=some es:=by
      rw[←hes];refine Es _ _ _ (fun q hq=>?_);obtain⟨p,hp,hq⟩:=mE.1 hq;have:=List.all_eq_true.1 hread p hp;simp only[List.isEmpty_iff]at this;rw[this]at hq;cases hq
     obtain⟨e,us',hu,hrun,hus,f3,f4,f5,hcells⟩:=aHe (w:=w) hF hb hpos hone hsmall hes' o1.dst o1.type o1.pos o1.after o1.guard
     have hu8':X.P.underlying e=some (.int .u8):=by
      rw[hu]at hu8;exact vM hu8
     have want1:∀y,Region.wanted o1 y=true:=fun y=>by simp[Region.wanted,g1]
     have want2:∀y,Region.wanted o2 y=true:=fun y=>by simp[Region.wanted,g2]
     simp only[wpOps,hi,hj,want1,want2,if_true];left;unfold Oper.wp
     have hr1:(execOp a.eval o1).run X.P w=.ok (.value (.slice (some ⟨w.heap.size,0,none⟩) m m)) (w.alloc (.cells us' e)):=by
      cases o1 with
      |mk dst op ty pos after guard=>
       simp only at e1;subst e1;exact hrun
     rw[hr1,Oper.upon_value,d1];left;have hz:(a.put (some q1) (.slice (some ⟨w.heap.size,0,none⟩) m m)).eval (.tmp q1)=.slice (some ⟨w.heap.size,0,none⟩) m m:=sN (by rw[hF.size];exact l1);have hblk:(w.alloc (.cells us' e)).heap[w.heap.size]?=some (.cells us' e (0,0)):=heap_alloc_new w _;have hmk:=aHf (X:=X) (m:=m) hu hu8' hblk
     have hr2:(execOp (a.put (some q1) (.slice (some ⟨w.heap.size,0,none⟩) m m)).eval o2).run X.P (w.alloc (.cells us' e))=.ok (.value (.slice (some ⟨w.heap.size,0,none⟩) m m)) ((w.alloc (.cells us' e)).freeze ⟨w.heap.size,us'.size,none⟩ 1):=by
      cases o2 with
      |mk dst op ty pos after guard=>
       simp only at e2;subst e2;simp[execOp,hz,hmk]
     rw[hr2,Oper.upon_value,d2]
     have hheap:((w.alloc (.cells us' e)).freeze ⟨w.heap.size,us'.size,none⟩ 1).heap=w.heap.push (.cells us' e (us'.size,us'.size+1)):=by
      have h0:(w.alloc (.cells us' e)).heap=w.heap.push (.cells us' e):=rfl;simp only[World.freeze,h0];simp only[Nat.one_ne_zero,if_false];apply Array.ext_getElem?;intro k;rw[vp,eY,eY];by_cases hk:k=w.heap.size
      ·subst hk;simp
      ·rw[if_neg (Ne.symm hk),if_neg hk,if_neg hk]
     have hst:=sD hS (es:=es) (us:=us') (t:=e) (lo:=us'.size) (hi:=us'.size+1) (sz:=ze.cells.length) (cap:=m)
      (w':=(w.alloc (.cells us' e)).freeze ⟨w.heap.size,us'.size,none⟩ 1) hheap (by simp[World.freeze];rfl) (by simp[World.freeze]) (by simp[World.freeze];rfl) hpos f4 f5 (by omega) (by omega) (.inr (aj _)) hcells
     rw[hv,f3]at hst;obtain⟨g',hle,hS',hvr⟩:=hst;exact hK _ _ h g' _ _ hle hS' (((hF.mono hle).put (d:=some q1) (fun t e=>by cases e;exact l1) (.und _)).put (d:=some q2) (fun t e=>by cases e;exact l2) hvr)
    ·cases hes
   ·cases hv
  ·cases h
 ·cases hc
def aHh{call:bS}(hty:gO X)(hM:iU X)(hC:eZ X call){ops:Array Oper}{Q:Exit→Act→World→Prop}{fr':Fr}{S':St}:∀{l:List Nat} {ps:List aF} {g:Gh} {w:World} {fr:Fr} {S:St} {a:Act},
  qE X n ops l ps→SR X g S w→FR X n g w fr a→bf X.T call ps fr S=some (fr',S') →
  (∀g' w' a',Le g w g' w'→SR X g' S' w'→FR X n g' w' fr' a'→Q .normal a' w')→wpOps X.P ops Q l a w:=by
 intro l ps g w fr S a hf
 induction hf generalizing g w fr S a with
 |nil=>
  intro hS hF h hQ;simp only[bf,bU,dT]at h;obtain⟨rfl,rfl⟩:=h
  exact hQ g w a (Le.refl g w) hS hF
 |pair i j o1 o2 p1 p2 l ps hi hj hc _ ih=>
  intro hS hF h hQ
  exact aHg hi hj hc hS hF h (fun fr2 S2 h2 g' w' a' hle hS' hF'=>ih hS' hF' h2 (fun g2 w2 a2 hle2 hS2 hF2=>hQ g2 w2 a2 (hle.trans hle2) hS2 hF2))
 |cons i o p l ps hi hc _ ih=>
  intro hS hF h hQ;simp only[gP,aV,beq_iff_eq]at hc;obtain⟨⟨⟨hd,hlt⟩,hop⟩,hgd⟩:=hc
  have hdl:∀t,p.dst=some t→t<n:=by
   intro t ht;rw[hd]at ht;rw[ht]at hlt;simpa using hlt
  simp only[wpOps,hi];simp only[bf]at h;split at h
  ·cases h
  ·rename_i hw;rw[lw hF hgd hw,if_neg (by simp)];rw[←hd];exact ih hS (hF.put hdl (zc X g w)) h hQ
  ·rename_i hw;rw[lw hF hgd hw,if_pos rfl];split at h
   ·rename_i v S1 hst;left
    have:=zb hty hM hC hS hF hop hst o.dst o.type o.pos o.after o.guard (wpOps X.P ops Q l) Q (fun u w' hstep=>by
     obtain⟨g',hle,hS',hv⟩:=hstep;rw[←hd];exact ih hS' ((hF.mono hle).put hdl hv) h (fun g2 w2 a2 hle2 hS2 hF2=>hQ g2 w2 a2 (hle.trans hle2) hS2 hF2))
    exact this
   ·cases h
end
end Ps
set_option linter.defProp false
namespace Ps
open Go
def eL(X:bF)(n:Nat):Code→az→Bool
 |_,.bad=>true
 |.skip,.skip=>true
 |.ret,.ret=>true
 |.exit m,.exit k=>m==k
 |.region _ ops draw,.region ps=>(fw X n ops ops.toList ps&&(!draw||vV ops.toList ps))||(!draw&&kx X n ops ops.toList ps)||(draw&&(FD X n ops ps||FF X n ops ps))
 |.seq a b,.seq c d=>eL X n a c&&eL X n b d
 |.cond c t e,.cond c' t' e'=>aY X c c'&&eL X n t t'&&eL X n e e'
 |.block m b,.block k c=>m==k&&eL X n b c
 |.loop b,.loop c=>eL X n b c
 |.scope b,.scope c=>eL X n b c
 |.label _,.skip=>true
 |c,.clr _ b=>eL X n c b
 |c,.rng pre x en post l (.region b)=>AD X n c pre x en post l b
 |_,_=>false
def sK:Ex→Exit
 |.norm=>.normal
 |.exit n=>.exit n
 |.ret=>.ret
section
variable {X : bF}
def FG{call:bS}(hty:gO X)(hM:iU X)(hC:eZ X call)(hmix:X.P.follows .mixedOrders=true)(n:Dn):∀k:Nat,
  (∀(c:Code) (pc:az) (fr:Fr) (S:St) (e:Ex) (fr':Fr) (S':St) (g:Gh) (w:World) (a:Act) (Q:Exit→Act→World→Prop),
   eL X n c pc=true→SR X g S w→FR X n g w fr a→bI X.T call k pc fr S=some (e,fr',S') →
   (∀g' w' a',Le g w g' w'→SR X g' S' w'→FR X n g' w' fr' a'→Q (sK e) a' w')→c.wp X.P Q a w) ∧
  (∀(c:Code) (pc:az) (fr:Fr) (S:St) (e:Ex) (fr':Fr) (S':St) (g:Gh) (w:World) (a:Act) (Q:Exit→Act→World→Prop),
   eL X n c pc=true→SR X g S w→FR X n g w fr a→bI X.T call k (.loop pc) fr S=some (e,fr',S') →
   (∀g' w' a',Le g w g' w'→SR X g' S' w'→FR X n g' w' fr' a'→Q (sK e) a' w')→Code.rounds X.P c Q k a w):=by
 intro k
 induction k with
 |zero=>exact⟨fun c pc fr S e fr' S' g w a Q _ _ _ h=>by simp[bI]at h,fun c pc fr S e fr' S' g w a Q _ _ _ h=>by simp[bI]at h⟩
 |succ k ih=>
  obtain⟨ih1,ih2⟩:=ih
  have rounds:∀(c:Code) (pc:az) (fr:Fr) (S:St) (e:Ex) (fr':Fr) (S':St) (g:Gh) (w:World) (a:Act) (Q:Exit→Act→World→Prop),
    eL X n c pc=true→SR X g S w→FR X n g w fr a→bI X.T call (k+1) (.loop pc) fr S=some (e,fr',S') →
    (∀g' w' a',Le g w g' w'→SR X g' S' w'→FR X n g' w' fr' a'→Q (sK e) a' w')→Code.rounds X.P c Q (k+1) a w:=by
   intro c pc fr S e fr' S' g w a Q hc hS hF h hQ;rw[rounds_succ];simp only[bI]at h
   cases hb:bI X.T call k pc fr S with
   |none=>rw[hb]at h;cases h
   |some r=>
    obtain⟨e1,fr1,S1⟩:=r;rw[hb]at h;refine ih1 c pc fr S e1 fr1 S1 g w a _ hc hS hF hb (fun g1 w1 a1 hle1 hS1 hF1=>?_)
    cases e1 with
    |norm=>
     simp only at h
     exact ih2 c pc fr1 S1 e fr' S' g1 w1 a1 Q hc hS1 hF1 h (fun g2 w2 a2 hle2 hS2 hF2=>hQ g2 w2 a2 (hle1.trans hle2) hS2 hF2)
    |exit m=>simp only[bU,dT]at h;obtain⟨rfl,rfl,rfl⟩:=h;exact hQ g1 w1 a1 hle1 hS1 hF1
    |ret=>simp only[bU,dT]at h;obtain⟨rfl,rfl,rfl⟩:=h;exact hQ g1 w1 a1 hle1 hS1 hF1
  refine⟨?_,rounds⟩;intro c pc fr S e fr' S' g w a Q hc hS hF h hQ
  cases pc with
  |bad=>simp[bI]at h
  |skip=>
   cases c<;>simp only[eL]at hc<;>try (cases hc;done)
   all_goals simp only[bI,bU,dT]at h
   all_goals obtain⟨rfl,rfl,rfl⟩:=h
   all_goals first
    |exact wp_skip (hQ g w a (Le.refl g w) hS hF)
    |exact wp_label (hQ g w a (Le.refl g w) hS hF)
  |ret=>
   cases c<;>simp only[eL]at hc<;>try (cases hc;done)
   simp only[bI,bU,dT]at h;obtain⟨rfl,rfl,rfl⟩:=h
   exact wp_ret (hQ g w a (Le.refl g w) hS hF)
  |exit m=>
   cases c<;>simp only[eL]at hc<;>try (cases hc;done)
   simp only[beq_iff_eq]at hc;subst hc;simp only[bI,bU,dT]at h;obtain⟨rfl,rfl,rfl⟩:=h
   exact wp_exit (hQ g w a (Le.refl g w) hS hF)
  |region ps=>
   cases c<;>simp only[eL]at hc<;>try (cases hc;done)
   rename_i id ops draw;simp only[aV,jW,kV]at hc;simp only[bI]at h
   cases hp:bf X.T call ps fr S with
   |none=>rw[hp]at h;cases h
   |some r=>
    obtain⟨fr1,S1⟩:=r;rw[hp]at h;simp only[bU,dT]at h;obtain⟨rfl,rfl,rfl⟩:=h;rcases hc with(hc|⟨rfl,hc⟩)|⟨rfl,hc⟩
    rotate_left
    ·refine wp_region ?_;rw[wE,←lC];exact aHh hty hM hC (FJ _ 0 (aj _) (fun j _=>by simp) hc) hS hF hp hQ
    ·rcases hc with hc|hc
     ·exact aGS hty hM hC hmix hc hS hF hp hQ id
     ·exact aG3 hty hM hC hmix hc hS hF hp hQ id
    cases draw with
    |false=>
     refine wp_region ?_;rw[wE,←lC]
     exact aGr hty hM hC (zd 0 (by simp) hc.1) hS hF hp hQ
    |true=>
     have hd:vV ops.toList ps=true:=by simpa using hc.2
     exact aGP hty hM hC hmix hc.1 hd hS hF hp hQ id
  |seq c1 c2=>
   cases c<;>simp only[eL]at hc<;>try (cases hc;done)
   simp only[aV]at hc;simp only[bI]at h;refine wp_seq ?_
   cases hb:bI X.T call k c1 fr S with
   |none=>rw[hb]at h;cases h
   |some r=>
    obtain⟨e1,fr1,S1⟩:=r;rw[hb]at h;refine ih1 _ c1 fr S e1 fr1 S1 g w a _ hc.1 hS hF hb (fun g1 w1 a1 hle1 hS1 hF1=>?_)
    cases e1 with
    |norm=>
     simp only at h
     exact ih1 _ c2 fr1 S1 e fr' S' g1 w1 a1 Q hc.2 hS1 hF1 h (fun g2 w2 a2 hle2 hS2 hF2=>hQ g2 w2 a2 (hle1.trans hle2) hS2 hF2)
    |exit m=>simp only[bU,dT]at h;obtain⟨rfl,rfl,rfl⟩:=h;exact hQ g1 w1 a1 hle1 hS1 hF1
    |ret=>simp only[bU,dT]at h;obtain⟨rfl,rfl,rfl⟩:=h;exact hQ g1 w1 a1 hle1 hS1 hF1
  |cond c0 c1 c2=>
   cases c<;>simp only[eL]at hc<;>try (cases hc;done)
   rename_i x t el;simp only[aV]at hc;obtain⟨⟨h0,h1⟩,h2⟩:=hc;simp only[bI]at h;have r:=bZ hF h0;split at h
   ·rename_i he;rw[he]at r;generalize hu:a.eval x=u at r;cases r;exact wp_cond_true hu (ih1 _ c1 fr S e fr' S' g w a Q h1 hS hF h hQ)
   ·rename_i he;rw[he]at r;generalize hu:a.eval x=u at r;cases r;exact wp_cond_false hu (ih1 _ c2 fr S e fr' S' g w a Q h2 hS hF h hQ)
   ·cases h
  |block m c1=>
   cases c<;>simp only[eL]at hc<;>try (cases hc;done)
   simp only[aV,beq_iff_eq]at hc;obtain⟨rfl,h1⟩:=hc;simp only[bI]at h;refine wp_block ?_
   cases hb:bI X.T call k c1 fr S with
   |none=>rw[hb]at h;cases h
   |some r=>
    obtain⟨e1,fr1,S1⟩:=r;rw[hb]at h;refine ih1 _ c1 fr S e1 fr1 S1 g w a _ h1 hS hF hb (fun g1 w1 a1 hle1 hS1 hF1=>?_)
    cases e1 with
    |norm=>simp only[bU,dT]at h;obtain⟨rfl,rfl,rfl⟩:=h;exact hQ g1 w1 a1 hle1 hS1 hF1
    |exit q=>
     simp only at h;split at h
     ·rename_i hq;simp only[bU,dT]at h;obtain⟨rfl,rfl,rfl⟩:=h;subst hq;simp only[sK,Exit.inBlock,if_true];exact hQ g1 w1 a1 hle1 hS1 hF1
     ·rename_i hq;simp only[bU,dT]at h;obtain⟨rfl,rfl,rfl⟩:=h;simp only[sK,Exit.inBlock,if_neg hq]
      exact hQ g1 w1 a1 hle1 hS1 hF1
    |ret=>simp only[bU,dT]at h;obtain⟨rfl,rfl,rfl⟩:=h;exact hQ g1 w1 a1 hle1 hS1 hF1
  |scope c1=>
   cases c<;>simp only[eL]at hc<;>try (cases hc;done)
   simp only[bI]at h;refine wp_scope_straight (ih1 _ c1 fr S e fr' S' g w a _ hc hS hF h (fun g1 w1 a1 hle1 hS1 hF1=>?_))
   cases e<;>exact hQ g1 w1 a1 hle1 hS1 hF1
  |clr l c1=>
   have hc':eL X n c c1=true:=by
    cases c<;>simpa only[eL]using hc
   simp only[bI]at h
   cases hb:bI X.T call k c1 fr S with
   |none=>rw[hb]at h;cases h
   |some r=>
    obtain⟨e1,fr1,S1⟩:=r;rw[hb]at h;refine ih1 _ c1 fr S e1 fr1 S1 g w a _ hc' hS hF hb (fun g1 w1 a1 hle1 hS1 hF1=>?_)
    cases e1 with
    |norm=>simp only[bU,dT]at h;obtain⟨rfl,rfl,rfl⟩:=h;exact hQ g1 w1 a1 hle1 hS1 (hF1.clrs l)
    |exit m=>simp only[bU,dT]at h;obtain⟨rfl,rfl,rfl⟩:=h;exact hQ g1 w1 a1 hle1 hS1 hF1
    |ret=>simp only[bU,dT]at h;obtain⟨rfl,rfl,rfl⟩:=h;exact hQ g1 w1 a1 hle1 hS1 hF1
  |rng pre x en post l b=>
   have hb:∃bs,b=.region bs∧AD X n c pre x en post l bs=true:=by
    cases b<;>first
     |(cases c<;>simp only[eL]at hc<;>cases hc;done)
     |exact⟨_,rfl,by cases c<;>simpa only[eL]using hc⟩
   obtain⟨bs,rfl,hc⟩:=hb;simp only[bI]at h
   cases hp:bf X.T call pre fr S with
   |none=>rw[hp]at h;cases h
   |some q=>
    obtain⟨fr1,S1⟩:=q;rw[hp]at h;simp only at h
    cases hr:iE X.T call (fun fr S=>bI X.T call k (.region bs) fr S) x en post l fr1 S1 with
    |none=>rw[hr]at h;cases h
    |some q=>
     obtain⟨fr2,S2⟩:=q;rw[hr]at h;simp only[bU,dT]at h;obtain⟨rfl,rfl,rfl⟩:=h
     have hr1:iE X.T call (fun fr S=>match bf X.T call bs fr S with|some (fr',S')=>some (.norm,fr',S')|none=>none) x en post l fr1 S1=some (fr2,S2):=
      ua (fun _ _ _ _ e=>e) (fun fr S r e=>by
       cases k with
       |zero=>simp[bI]at e
       |succ k=>
        simp only[bI]at e ⊢
        cases hq:bf X.T call bs fr S with
        |none=>rw[hq]at e;cases e
        |some q=>simp only[hq]at e ⊢;exact e) hr
     exact aHp hty hM hC hc (fun _ _=>rfl) hS hF hp hr1 hQ
  |loop c1=>
   cases c<;>simp only[eL]at hc<;>try (cases hc;done)
   exact wp_loop_rounds (k+1) (rounds _ c1 fr S e fr' S' g w a Q hc hS hF h hQ)
variable {g : Gh} {w : World}
def VR.restrict{gA g1 g2:Gh}{wA w1:World}
  (h1:∀id b bA,g1.obj id=some b→gA.obj id=some bA→g2.obj id=some b)(h2:∀b id base szA,g1.arr b=some (id,base)→gA.asz id=some szA→g2.arr b=some (id,base))
  (h3:∀id sz szA,g1.asz id=some sz→gA.asz id=some szA→g2.asz id=some sz)
  (h4:∀b,g1.pub b≤g2.pub b)(h5:∀id b bA,g1.mp id=some b→gA.mp id=some bA→g2.mp id=some b){c:PV}{u:Value}(r:VR X g1 w1 c u):∀uA,VR X gA wA c uA→VR X g2 w1 c u:=by
 induction r with
 |und u=>intro _ _;exact .und u
 |int k n=>intro _ _;exact .int k n
 |bool b=>intro _ _;exact .bool b
 |str s=>intro _ _;exact .str s
 |nilp=>intro _ _;exact .nilp
 |nils=>intro _ _;exact .nils
 |nili=>intro _ _;exact .nili
 |nilf=>intro _ _;exact .nilf
 |ptr id off b e=>
  intro uA rA
  cases rA with
  |ptr _ _ b' e'=>exact .ptr id off b (h1 _ _ _ e e')
 |ref cs b o us hpub hc _ ih=>
  intro uA rA
  cases rA with
  |ref _ b' o' us' _ _ hv'=>exact .ref cs b o us (Nat.le_trans hpub (h4 b)) hc (fun j c hj=>ih j c hj _ (hv' j c hj))
 |slz a=>intro _ _;exact .slz a
 |sl tip es sp b o cap sz us hcap hpos hsz hpub hc _ hlink hone ih=>
  intro uA rA
  cases rA with
  |slz aa=>
   have h0:o≤g2.pub b:=by have:=h4 b;simp at hpub;omega
   exact .sl none [] [] b o cap sz us hcap hpos (by simp) (by simpa using h0) hc (by simp) (fun id e ht hs=>by cases ht) (by simp)
  |sl _ _ _ b' o' cap' sz' us' _ _ _ _ _ hv' hlink' _=>
   refine .sl tip es sp b o cap sz us hcap hpos hsz (Nat.le_trans hpub (h4 b)) hc (fun j c hj=>ih j c hj _ (hv' j c hj)) (fun id e ht hs=>?_) hone;obtain⟨k1,k2,k3⟩:=hlink id e ht hs;obtain⟨_,k2',_⟩:=hlink' id e ht hs;refine⟨k1,h3 _ _ _ k2 k2',?_⟩;rcases k3 with k3|⟨base,k4,k5,k6⟩
   ·exact .inl k3
   ·exact .inr ⟨base,h2 _ _ _ _ k4 k2',k5,k6⟩
 |emp a=>intro _ _;exact .emp a
 |osl id off len sz cap b e hl hr=>
  intro uA rA
  cases rA with
  |osl _ _ _ _ cap' b' e' _ _=>exact .osl id off len sz cap b (h1 _ _ _ e e') hl hr
 |iface t v u _ ih=>
  intro uA rA
  cases rA with
  |iface _ _ u' h'=>exact .iface t v u (ih _ h')
 |agg cs us hl _ ih=>
  intro uA rA
  cases rA with
  |agg _ us' hl' hv'=>exact .agg cs us hl (fun j c u e1 e2=>ih j c u e1 e2 _ (hv' j c _ e1 (iA (by rw[←hl'];exact(aS.1 e1).1))))
 |tup cs us hl _ ih=>
  intro uA rA
  cases rA with
  |tup _ us' hl' hv'=>exact .tup cs us hl (fun j c u e1 e2=>ih j c u e1 e2 _ (hv' j c _ e1 (iA (by rw[←hl'];exact(aS.1 e1).1))))
 |fn f cs us hl _ ih=>
  intro uA rA
  cases rA with
  |fn _ _ us' hl' hv'=>exact .fn f cs us hl (fun j c u e1 e2=>ih j c u e1 e2 _ (hv' j c _ e1 (iA (by rw[←hl'];exact(aS.1 e1).1))))
 |nilm=>intro _ _;exact .nilm
 |hnd b=>intro _ _;exact .hnd b
 |map id b e=>
  intro uA rA
  cases rA with
  |map _ b' e'=>exact .map id b (h5 _ _ _ e e')
 |bfn f cs us hl _ ih=>
  intro uA rA
  cases rA with
  |bfn _ _ us' hl' hv'=>exact .bfn f cs us hl (fun j c u e1 e2=>ih j c u e1 e2 _ (hv' j c _ e1 (iA (by rw[←hl'];exact(aS.1 e1).1))))
theorem AA:∀{l:List (List PV)},lN l=true→∀v∈l,PV.freeL v=true
 | [],_,v,hv=>by simp at hv
 |a::l,h,v,hv=>by
  simp only[lN,aV]at h;rcases cX.1 hv with rfl|hv
  ·exact h.1
  ·exact AA h.2 v hv
def aG4{gA g1 g2:Gh}{wA w1:World}(f:∀(c:PV)(u uA:Value),VR X g1 w1 c u→VR X gA wA c uA→VR X g2 w1 c u):∀{cs:List PV} {es esA:List MapEntry},MR X g1 w1 cs es→MR X gA wA cs esA→MR X g2 w1 cs es:=by
 intro cs es esA h
 induction h generalizing esA with
 |nil=>intro _;exact .nil
 |cons k v cs e es ks hk hkk hv _ ih=>
  intro hA
  cases hA with
  |cons _ _ _ e' es' ks' hk' _ hv' h'=>exact .cons k v cs e es ks (f _ _ _ hk hk') hkk (f _ _ _ hv hv') (ih h')
def aG5{g1 g2:Gh}{w1:World}(f:∀(c:PV)(u:Value),c.free=true→VR X g1 w1 c u→VR X g2 w1 c u){cs:List PV}{es:List MapEntry}(h:MR X g1 w1 cs es):PV.freeL cs=true→MR X g2 w1 cs es:=by
 induction h with
 |nil=>intro _;exact .nil
 |cons k v cs e es ks hk hkk hv _ ih=>
  intro hf;simp only[PV.freeL,aV]at hf;exact .cons k v cs e es ks (f _ _ hf.1 hk) hkk (f _ _ hf.2.1 hv) (ih hf.2.2)
def YJ{raw:Bool}{S0 S1:St}{r:PV}{u:Value}{w1:World}{g1:Gh}(hS:SR X g S0 w)(hle:Le g w g1 w1)(hS1:SR X g1 S1 w1)(hr:VR X g1 w1 r u) :
  eX X g w (ac raw S0 S1 r).2 (ac raw S0 S1 r).1 u w1:=by
 unfold ac;split
 ·exact⟨g1,hle,hS1,hr⟩
 split
 ·exact⟨g1,hle,hS1,hr⟩
 rename_i r' hsol;have hfree:=FM _ hsol;have hge:∀b,g1.pub b≤gR g1 S0.objs.length S1 b:=Yb hS1
 have hr':VR X {g1 with pub:=gR g1 S0.objs.length S1} w1 r' u:=
  Ya (g2:={g1 with pub:=gR g1 S0.objs.length S1}) hS1 (n0:=S0.objs.length) (fun _ _ h=>h) (fun _ _ h=>h) hge (Yc hS1) (eM+1) eM (by omega) hsol hr
 have hno:∀{i b:Nat},g.obj i=some b→dL S1 i→∀id,S0.objs.length≤id→dL S1 id→g1.obj id≠some b:=by
  intro i b h hli id hid _ e;obtain⟨cs0,us0,t0,q1,_⟩:=hS.obj i b h;have hlt:=(aS.1 q1).1;have:=hS1.inj _ _ _ e (hle.obj i b h) hli;omega
 have hna:∀{b:Nat} {x:Nat×Nat},g1.arr b=some x→∀id,S0.objs.length≤id→dL S1 id→g1.obj id≠some b:=by
  intro b x h id _ _ e;have:=(hS1.objpub id b e).2;rw[h]at this;cases this
 have hPl:∀b,w1.heap.size≤b→gR g1 S0.objs.length S1 b=0:=by
  intro b hb;rw[mh (fun id _ _ e=>by have:=km hS1 id b e;omega)];exact(hS1.lt b hb).1
 have hPN:∀b,b<w.heap.size→(∀id,g.obj id≠some b)→g.arr b=none→(∀id,g.mp id≠some b)→gR g1 S0.objs.length S1 b=g.pub b:=by
  intro b hb ho ha hm
  rw[mh (fun id _ _ e=>by
   rcases hle.objN id b e with⟨i,e1⟩|e1
   ·exact ho i e1
   ·omega)]
  exact hle.pubN b hb ho ha hm
 split
 ·rename_i hb;have htake:=oS hb
  have hnt:∀id sz,g.asz id=some sz→id<S0.tips.length:=fun id sz h=>by
   obtain⟨tip,h1⟩:=hS.asz id sz h;exact(aS.1 h1).1
  let g2:Gh:={
   obj:=g.obj
   arr:=fun b=>match g1.arr b with|some (id,base)=>(match g.asz id with|some _=>some (id,base)|none=>none)|none=>none
   asz:=g.asz
   pub:=gR g1 S0.objs.length S1
   mp:=g.mp}
  have harr:∀b id base,g2.arr b=some (id,base)↔(g1.arr b=some (id,base)∧∃sz,g.asz id=some sz):=by
   intro b id base;simp only[g2]
   cases h:g1.arr b with
   |none=>simp
   |some x=>
    obtain⟨i,bs⟩:=x;simp only
    cases hi:g.asz i with
    |some sz=>
     simp only;constructor
     ·intro e;cases e;exact⟨rfl,sz,hi⟩
     ·rintro⟨e,_⟩;exact e
    |none=>
     simp only;constructor
     ·intro e;cases e
     ·rintro⟨e,sz,h2⟩;cases e;rw[hi]at h2;cases h2
  have hres:∀{c:PV} {u uA:Value},VR X g1 w1 c u→VR X g w c uA→VR X g2 w1 c u:=by
   intro c u uA r rA;refine VR.restrict (gA:=g) (g1:=g1) (g2:=g2) ?_ ?_ ?_ hge ?_ r uA rA
   ·intro id b bA e eA;have:=hle.obj id bA eA;rw[e]at this;cases this;exact eA
   ·intro b id base szA e eA;exact(harr b id base).2 ⟨e,szA,eA⟩
   ·intro id sz szA e eA;have:=hle.asz id szA eA;rw[e]at this;cases this;exact eA
   ·intro id b bA e eA;have:=hle.mp id bA eA;rw[e]at this;cases this;exact eA
  have hnm:∀{i b:Nat},g.mp i=some b→gR g1 S0.objs.length S1 b=g1.pub b:=by
   intro i b h;obtain⟨_,_,_,_,q,_⟩:=hS1.maps.ent i b (hle.mp i b h);refine mh (fun id _ _ e=>?_);obtain⟨_,_,_,_,q2,_⟩:=hS1.obj id b e;rw[q]at q2;cases q2
  refine⟨g2,⟨hle.os,hle.tape,hle.output,hle.size,fun _ _ h=>h,fun b x h=>?_,fun _ _ h=>h,fun b=>Nat.le_trans (hle.pub b) (hge b),hle.cell,hle.shape,fun id _ h=>.inl ⟨id,h⟩,fun b x h=>?_,hle.keep,hPN,fun _ _ h=>h,fun _ _ h=>.inl h⟩,?_,
   VR.freeze (g1:={g1 with pub:=gR g1 S0.objs.length S1}) (g2:=g2) (fun _=>aj _) hr' hfree⟩
  ·obtain⟨id,base⟩:=x;obtain⟨sz,tip,k1,_⟩:=hS.arr b id base h;exact(harr b id base).2 ⟨hle.arr b _ h,sz,k1⟩
  ·obtain⟨id,base⟩:=x;exact hle.arrN b _ ((harr b id base).1 h).1
  ·refine⟨fun id b h=>?_,hS.inj,fun i b h=>?_,fun b id base h=>?_,fun id sz h=>?_,fun b hb'=>?_,⟨fun id b h=>?_,hS.maps.inj,fun i b h=>?_,hS.maps.dis⟩⟩
   ·obtain⟨cs0,us0,t0,q1,q2,q3,q4⟩:=hS.obj id b h;obtain⟨cs,us,t,k1,k2,k3,k4⟩:=hS1.obj id b (hle.obj id b h);have hlt:=(aS.1 q1).1;have hcs:S0.objs[id]?=some cs:=by rw[←htake,dM hlt];exact k1
    rw[q1]at hcs;cases hcs;refine⟨_,us,t,q1,k2,k3,fun j c u e1 e2=>?_⟩;have hj:j<us0.size:=sn (aS.1 e1).1 q3;exact hres (k4 j c u e1 e2) (q4 j c _ e1 (iA hj))
   ·obtain⟨k1,k2⟩:=hS1.objpub i b (hle.obj i b h);refine⟨fun hl=>?_,by simp only[g2,k2]⟩
    have hl1:dL S1 i:=by
     obtain⟨c,l,e⟩:=hl;have hlt:=(aS.1 e).1;rw[←htake,dM hlt]at e;exact⟨c,l,e⟩
    simp only[g2];rw[mh (hno h hl1)];exact k1 hl1
   ·obtain⟨k0,szA,hszA⟩:=(harr b id base).1 h;obtain⟨sz,tip,k1,k2,k3,k4⟩:=hS1.arr b id base k0;have:=hle.asz id szA hszA;rw[k1]at this;cases this;exact⟨_,tip,hszA,k2,by rw[dM (hnt id _ hszA)];exact k3,by simp only[g2];rw[mh (hna k0)];exact k4⟩
   ·obtain⟨tip,k1⟩:=hS1.asz id sz (hle.asz id sz h);exact⟨tip,by rw[dM (hnt id sz h)];exact k1⟩
   ·obtain⟨k1,k2⟩:=hS1.lt b hb';exact⟨hPl b hb',by simp only[g2,k2]⟩
   ·obtain⟨cs0,es0,cl0,q1,q2,q3,q4⟩:=hS.maps.ent id b h;obtain⟨cs,es,cl,k1,k2,k3,k4⟩:=hS1.maps.ent id b (hle.mp id b h);have hlt:=(aS.1 q1).1;have hcs:S0.objs[id]?=some cs:=by rw[←htake,dM hlt];exact k1
    rw[q1]at hcs;cases hcs;exact⟨_,es,cl,q1,k2,k3,aG4 (fun c u uA=>hres) k4 q4⟩
   ·obtain⟨k1,k2⟩:=hS1.maps.pub i b (hle.mp i b h);exact⟨by simp only[g2];rw[hnm h];exact k1,by simp only[g2,k2]⟩
 split
 ·rename_i hfl;let g2:Gh:={obj:=g.obj,arr:=g1.arr,asz:=g1.asz,pub:=gR g1 S0.objs.length S1,mp:=g.mp}
  have hnm:∀{i b:Nat},g.mp i=some b→gR g1 S0.objs.length S1 b=g1.pub b:=by
   intro i b h;obtain⟨_,_,_,_,q,_⟩:=hS1.maps.ent i b (hle.mp i b h);refine mh (fun id _ _ e=>?_);obtain⟨_,_,_,_,q2,_⟩:=hS1.obj id b e;rw[q]at q2;cases q2
  refine⟨g2,⟨hle.os,hle.tape,hle.output,hle.size,fun _ _ h=>h,hle.arr,hle.asz,fun b=>Nat.le_trans (hle.pub b) (hge b),hle.cell,hle.shape,fun id _ h=>.inl ⟨id,h⟩,hle.arrN,hle.keep,hPN,fun _ _ h=>h,fun _ _ h=>.inl h⟩,?_,
   VR.ofFree (g1:={g1 with pub:=gR g1 S0.objs.length S1}) (g2:=g2) (fun _ _ h=>h) (fun _ _ h=>h) (fun _=>aj _) hr' hfree⟩
  have hlive2:∀i,dL ⟨S1.objs.take S0.objs.length,S1.tips⟩ i→dL S1 i:=by
   rintro i ⟨c,l,e⟩;have hlt:=(aS.1 e).1;simp only[List.length_take]at hlt;simp only at e;rw[dM (by omega)]at e;exact⟨c,l,e⟩
  refine⟨fun id b h=>?_,fun i j b h1 h2 h3=>hS1.inj i j b (hle.obj i b h1) (hle.obj j b h2) (hlive2 j h3),fun i b h=>?_,fun b id base h=>?_,hS1.asz,fun b hb'=>⟨hPl b hb',(hS1.lt b hb').2⟩,⟨fun id b h=>?_,hS.maps.inj,fun i b h=>?_,hS.maps.dis⟩⟩
  ·obtain⟨cs0,us0,t0,q1,q2,q3,q4⟩:=hS.obj id b h;obtain⟨cs,us,t,k1,k2,k3,k4⟩:=hS1.obj id b (hle.obj id b h);have hlt:=(aS.1 q1).1;have hcs:(S1.objs.take S0.objs.length)[id]?=some cs:=by rw[dM hlt];exact k1
   refine⟨cs,us,t,hcs,k2,k3,fun j c u e1 e2=>?_⟩;exact(k4 j c u e1 e2).ofFree (g1:=g1) (g2:=g2) (fun _ _ h=>h) (fun _ _ h=>h) hge (fe (AA hfl _ (dZ hcs)) c (dZ e1))
  ·obtain⟨k1,k2⟩:=hS1.objpub i b (hle.obj i b h);refine⟨fun hl=>?_,k2⟩;have hl1:=hlive2 i hl;simp only[g2];rw[mh (hno h hl1)];exact k1 hl1
  ·obtain⟨sz,tip,k1,k2,k3,k4⟩:=hS1.arr b id base h;exact⟨sz,tip,k1,k2,k3,by simp only[g2];rw[mh (hna h)];exact k4⟩
  ·obtain⟨cs0,es0,cl0,q1,_⟩:=hS.maps.ent id b h;obtain⟨cs,es,cl,k1,k2,k3,k4⟩:=hS1.maps.ent id b (hle.mp id b h);have hlt:=(aS.1 q1).1;have hcs:(S1.objs.take S0.objs.length)[id]?=some cs:=by rw[dM hlt];exact k1
   exact⟨cs,es,cl,hcs,k2,k3,aG5 (fun c u hf r=>r.ofFree (g1:=g1) (g2:=g2) (fun _ _ h=>h) (fun _ _ h=>h) hge hf) k4 (AA hfl _ (dZ hcs))⟩
  ·obtain⟨k1,k2⟩:=hS1.maps.pub i b (hle.mp i b h);exact⟨by simp only[g2];rw[hnm h];exact k1,k2⟩
 ·exact⟨g1,hle,hS1,hr⟩
end
end Ps
