/- A list of operations, in an order that is given. -/
import Derived.Test.YtpjmpaidcidjgaaGreatDoorAbbKw
import Derived.Test.YtpjmpaidcidjgaaGreatDoorSimMpKw
import Derived.Test.YtpjmpaidcidjgaaGreatDoorSimMqKw
set_option linter.defProp false
namespace Ps
open Go
section
variable {X : Tie} {g : Gh} {w : World} {n : Dn} {fr : Fr} {a : Act} {S : St}
theorem zg(hF:FR X n g w fr a)(sz:Nat):∀(ps:List (Nat×Operand)) (parts:List (Nat×aG)) (es es':List PV) (us:Array Value),
  kI X ps parts=true→cc fr sz parts es=some es'→bQ X g w (es.flatMap PV.cells) us→(∀x∈es,x.cells.length=sz)→(∀x∈es,x.cells.all PV.one=true) →
  ∃us',Instr.fill (fun i=>some (i*sz,sz)) us (ps.map fun p=>(p.1,a.eval p.2))=some us'∧bQ X g w (es'.flatMap PV.cells) us' ∧
   es'.length=es.length∧(∀x∈es',x.cells.length=sz)∧(∀x∈es',x.cells.all PV.one=true)
 | [],[],es,es',us,_,h,hv,h1,h2=>by cases h;exact⟨us,rfl,hv,rfl,h1,h2⟩
 |(i,x)::l,(j,y)::r,es,es',us,hc,h,hv,h1,h2=>by
  simp only[kI,aJ,beq_iff_eq]at hc;obtain⟨⟨rfl,hx⟩,h3⟩:=hc;simp only[cc]at h;split at h
  ·rename_i hcond;obtain⟨e1,e2,e3⟩:=hcond;have r0:=nA (ax hF hx) e2;have hfl:=iM h1
   have hmul:i*sz+sz≤es.length*sz:=by
    rw[show i*sz+sz=(i+1)*sz by rw[dN];omega];exact hY _ (by omega)
   have hput:=zN (off:=i*sz) hv r0 (by omega);rw[←Qq h1 e3 e1]at hput
   obtain⟨us',f1,f2,f3,f4,f5⟩:=zg hF sz l r (es.set i (ev fr y)) es' _ h3 h hput
    (fun z hz=>by
     rcases TA hz with hz|hz
     ·exact h1 z hz
     ·subst hz;exact e1)
    (fun z hz=>by
     rcases TA hz with hz|hz
     ·exact h2 z hz
     ·subst hz;exact e2)
   refine⟨us',?_,f2,by rw[f3];simp,f4,f5⟩;simp only[cV,Instr.fill];have hs:(a.eval x).cells.size=sz:=by rw[←r0.1];exact e1
   rw[if_neg (by simp[hs,←hv.1,hfl];omega)];exact f1
  ·cases h
 | [],_::_,_,_,_,hc,_,_,_,_=>by simp[kI]at hc
 |_::_,[],_,_,_,hc,_,_,_,_=>by simp[kI]at hc
def aBQ(hS:SR X g S w)(hF:FR X n g w fr a){ro:Bool}{v:PV}{S':St}{ze:PV}{len:Nat}{parts:List (Nat×aG)}{t:TypeId}{m:Nat}{ps:Array (Nat×Operand)}
  (ht:(match X.P.underlying t with
   |some (.slice e)=>m==len&&je X.P e ze&&(match X.P.info? e with|some i=>i.size==ze.cells.length|none=>false)&&kI X ps.toList parts
   |_=>false)=true) (hpos:0<ze.cells.length) (hone:ze.cells.all PV.one=true) (hsmall:len*ze.cells.length≤16777216) {es:List PV}
  (h:cc fr ze.cells.length parts (List.replicate len ze)=some es) (hr:(if ro then(PV.sl none es [],S)else dQ S ze.cells.length es)=(v,S')) :
  dr X g w a (.buildSlice t m ps) S' v:=by
 intro dst ty pos after guard next Q hn
 split at ht
 ·rename_i e hu;simp only[aJ,beq_iff_eq]at ht;obtain⟨⟨⟨rfl,hz⟩,hsz⟩,hps⟩:=ht;obtain⟨zu,hz1,hz2⟩:=zU (w:=w) hz;have hzr:bQ X g w ze.cells zu.cells:=nA (mu hz2) hone
  have hsize:(Go.sizeOf e).run X.P w=.ok ze.cells.length w:=by
   split at hsz
   ·rename_i i hi;simp only[beq_iff_eq]at hsz;simp[Go.sizeOf,typeInfo,hi,hsz]
   ·cases hsz
  have hrs:∀x∈List.replicate m ze,x.cells.length=ze.cells.length:=fun x hx=>by rw[pI hx]
  have hrf:=iM hrs;rw[vb]at hrf;let init:Array Value:=if m*ze.cells.length=0 then #[]else(Array.range (m*ze.cells.length)).map (zu.cells[· % zu.cells.size]!)
  have hinit:bQ X g w ((List.replicate m ze).flatMap PV.cells) init:=by
   by_cases h0:m*ze.cells.length=0
   ·have:m=0:=by
     rcases vp.1 h0 with h|h
     ·exact h
     ·omega
    subst this;refine⟨by simp[init],fun j c u e1 _=>by simp at e1⟩
   ·simp only[init,if_neg h0];refine⟨by rw[hrf];simp,fun j c u e1 e2=>?_⟩
    have hj:j<m*ze.cells.length:=by
     have:=(aO.1 e1).1;omega
    have hq:j/ze.cells.length<m:=by rw[nb hpos];exact hj
    have hr:j%ze.cells.length<ze.cells.length:=kB _ hpos;have hg:=lR hrs (i:=j/ze.cells.length) (e:=ze) (by simp[hq]) (j%ze.cells.length) hr;rw[show j/ze.cells.length*ze.cells.length+j%ze.cells.length=j by rw[nc];exact sK _ _]at hg;rw[hg]at e1;have hzs:zu.cells.size=ze.cells.length:=hzr.1.symm;refine hzr.2 (j%ze.cells.length) c u e1 ?_;rw[vK,vM,if_pos hj,jW,aw]at e2;rw[←e2,hzs,fK (by omega)];simp[getElem!_pos,hzs,hr]
  obtain⟨us',f1,f2,f3,f4,f5⟩:=zg hF _ ps.toList parts _ es init hps h hinit hrs (fun x hx=>by rw[pI hx];exact hone);rw[vb]at f3;have hus:us'.size=m*ze.cells.length:=by rw[←f2.1,iM f4,f3]
  have hrun:(execOp a.eval ⟨dst,.buildSlice t m ps,ty,pos,after,guard⟩).run X.P w=.ok (.value (.slice (some ⟨w.heap.size,0,none⟩) m m)) (w.alloc (.cells us' e)):=by
   have hfill:Instr.fill (fun i=>some (i*ze.cells.length,ze.cells.length)) init (List.map (fun x=>(x.fst,a.eval x.snd)) ps.toList)=some us':=f1;simp only[execOp,Sem.run_bind,Instr.buildSlice,run_underlying hu,Result.andThen_ok,hsize];rw[if_neg (by omega)];by_cases h0:m*ze.cells.length=0
   ·simp only[init,if_pos h0]at hfill;have hr0:(Array.range 0).map (fun _=>(default:Value)) = #[]:=by simp
    simp[h0,hr0,hfill,newRow]
   ·simp only[init,if_neg h0]at hfill;simp[h0,hz1,hfill,newRow]
  unfold Oper.wp;rw[hrun];refine hn _ _ ?_
  have hcells:∀(j:Nat) (c:PV),(es.flatMap PV.cells)[j]?=some c→∃u,us'[j]?=some u∧VR X g w c u:=fun j c hc=>by
   have hj:j<us'.size:=by rw[←f2.1];exact(aO.1 hc).1
   exact⟨us'[j],by simp[hj],f2.2 j c _ hc (by simp[hj])⟩
  cases ro
  ·simp only[bp,if_false]at hr;have hst:=oa hS (es:=es) (us:=us') (t:=e) (lo:=0) (hi:=0) (sz:=ze.cells.length) (cap:=m) (w':=w.alloc (.cells us' e)) rfl rfl rfl rfl hpos f4 f5 (by omega) (by omega) (.inl (aX _)) hcells;rw[f3,hr]at hst;exact hst
  ·simp only[if_true]at hr;cases hr;have hst:=RE hS (es:=es) (us:=us') (t:=e) (lo:=0) (hi:=0) (sz:=ze.cells.length) (cap:=m) (w':=w.alloc (.cells us' e)) rfl rfl rfl rfl hpos f4 f5 (by omega) (by omega) hcells;rw[f3]at hst;exact hst
 ·cases ht
def aBR(hS:SR X g S w)(hF:FR X n g w fr a){sz bytes:Nat}{s x:aG}{c:Go.Call}{s' x':Operand}{t u:TypeId}(hc:c.callee=.builtin .append)(ha:c.args.toList=[s',x'])(hts:c.argTypes.toList=[t,u])
  (ht:(match X.P.underlying t with
    |some (.slice e)=>(match X.P.info? e with|some i=>i.size==sz&&i.bytes==bytes&&bytes != 0&&i.zero.isSome&&(match i.zero with|some z=>z.cells.size==sz|none=>false)|none=>false) &&
     (match X.P.underlying u with|some (.slice _)|some .string=>true|_=>false)
    |_=>false)=true) (hs:aK X s' s=true) (hx:aK X x' x=true) (hpos:0<sz) {new:List PV} (hnew:dV S sz (ev fr x)=some new) {v:PV} {S':St}
  (h:dF sz bytes S (ev fr s) new=some (v,S')):dr X g w a (.call c) S' v:=by
 intro dst ty pos after guard next Q hn
 split at ht
 ·rename_i e he;rw[aJ]at ht;obtain⟨h1,h2⟩:=ht;split at h1
  ·rename_i i hi;simp only[aJ,beq_iff_eq,bne_iff_ne,ne_eq]at h1;obtain⟨⟨⟨⟨rfl,rfl⟩,hb⟩,hz⟩,hzs⟩:=h1;split at hzs
   ·rename_i z hz';simp only[beq_iff_eq]at hzs
    have hu:(∃e',X.P.underlying u=some (.slice e'))∨X.P.underlying u=some .string:=by
     split at h2
     ·rename_i e' hu;exact .inl ⟨_,hu⟩
     ·rename_i hu;exact .inr hu
     ·cases h2
    obtain⟨q,w',k1,k2⟩:=aBF hS he hi hz' hzs hu (by omega) hpos (ax hF hs) (ax hF hx) hnew ty h;obtain⟨consts,hbr⟩:=lT (a:=a) hc dst ty pos after guard;unfold Oper.wp
    have er:(execOp a.eval ⟨dst,.call c,ty,pos,after,guard⟩).run X.P w=.ok (.value q) w':=by
     rw[hbr,rJ ha,uJ hts];simp only[builtin,Sem.run_bind];have:#[s',x'].map a.eval = #[a.eval s',a.eval x']:=by simp
     rw[this,k1];rfl
    rw[er];exact hn q w' k2
   ·cases hzs
  ·cases h1
 ·cases ht
def aBS(hS:SR X g S w)(hF:FR X n g w fr a){sz bytes:Nat}{s x:aG}{c:Go.Call}{s' x':Operand}{t u:TypeId}(hc:c.callee=.builtin .append)(ha:c.args.toList=[s',x'])(hts:c.argTypes.toList=[t,u])
  (ht:(match X.P.underlying t with
    |some (.slice e)=>(match X.P.info? e with|some i=>i.size==sz&&i.bytes==bytes&&bytes != 0&&i.zero.isSome&&(match i.zero with|some z=>z.cells.size==sz|none=>false)|none=>false) &&
     (match X.P.underlying u with|some (.slice _)|some .string=>true|_=>false)
    |_=>false)=true) (hs:aK X s' s=true) (hx:aK X x' x=true) (hpos:0<sz) {new:List PV} (hnew:dV S sz (ev fr x)=some new) {v:PV} {S':St}
  (h:gr sz bytes S (ev fr s) new=some (v,S')):dr X g w a (.call c) S' v:=by
 intro dst ty pos after guard next Q hn
 split at ht
 ·rename_i e he;rw[aJ]at ht;obtain⟨h1,h2⟩:=ht;split at h1
  ·rename_i i hi;simp only[aJ,beq_iff_eq,bne_iff_ne,ne_eq]at h1;obtain⟨⟨⟨⟨rfl,rfl⟩,hb⟩,hz⟩,hzs⟩:=h1;split at hzs
   ·rename_i z hz';simp only[beq_iff_eq]at hzs
    have hu:(∃e',X.P.underlying u=some (.slice e'))∨X.P.underlying u=some .string:=by
     split at h2
     ·rename_i e' hu;exact .inl ⟨_,hu⟩
     ·rename_i hu;exact .inr hu
     ·cases h2
    obtain⟨q,w',k1,k2⟩:=aCU hS he hi hz' hzs hu (by omega) hpos (ax hF hs) (ax hF hx) hnew ty h;obtain⟨consts,hbr⟩:=lT (a:=a) hc dst ty pos after guard;unfold Oper.wp
    have er:(execOp a.eval ⟨dst,.call c,ty,pos,after,guard⟩).run X.P w=.ok (.value q) w':=by
     rw[hbr,rJ ha,uJ hts];simp only[builtin,Sem.run_bind];have:#[s',x'].map a.eval = #[a.eval s',a.eval x']:=by simp
     rw[this,k1];rfl
    rw[er];exact hn q w' k2
   ·cases hzs
  ·cases h1
 ·cases ht
def aBT(hS:SR X g S w){t:TypeId}{ps:Array (Nat×Operand)}
  (ht:(match X.P.underlying t with
   |some (.slice e)=>(match X.P.info? e with|some i=>i.size != 0|none=>false)&&ps.isEmpty
   |_=>false)=true):dr X g w a (.buildSlice t 0 ps) S .emp:=by
 intro dst ty pos after guard next Q hn
 split at ht
 ·rename_i e hu;simp only[aJ]at ht;obtain⟨h1,h2⟩:=ht;have hps:ps = #[]:=by simpa using h2
  subst hps;split at h1
  ·rename_i i hi;have hsize:(Go.sizeOf e).run X.P w=.ok i.size w:=by simp[Go.sizeOf,typeInfo,hi]
   have hrun:(execOp a.eval ⟨dst,.buildSlice t 0 #[],ty,pos,after,guard⟩).run X.P w=.ok (.value (.slice (some ⟨w.heap.size,0,none⟩) 0 0)) (w.alloc (.cells #[] e)):=by
    have hr0:(Array.range 0).map (fun _=>(default:Value)) = #[]:=by simp
    simp[execOp,Instr.buildSlice,run_underlying hu,hsize,Instr.fill,newRow,hr0]
   unfold Oper.wp;rw[hrun];refine hn _ _ ?_;obtain⟨g',h1,h2,_⟩:=zZ hS (cs:=[]) (us:=#[]) ⟨rfl,fun j c u e1=>by simp at e1⟩ e;exact⟨g',h1,h2,.emp _⟩
  ·cases h1
 ·cases ht
def aBU(hS:SR X g S w)(hF:FR X n g w fr a){sz:Nat}{z:List PV}{x:aG}{c:Go.Call}{y:Operand}{t:TypeId}(hc:c.callee=.builtin .clear)(ha:c.args.toList=[y])(hts:c.argTypes.toList=[t])
  (ht:(match X.P.underlying t with
    |some (.slice e)=>(match X.P.info? e with|some i=>i.size==sz|none=>false)&&jf X.P e z
    |_=>false)=true) (hx:aK X y x=true) {id off len:Nat} {cs:List PV} (he:ev fr x=.osl id off len sz) (hcs:S.objs[id]?=some cs) (hpos:0<sz) (hz:z.length=sz) (hone:z.all PV.one=true)
  (hoff:off+len*sz≤cs.length) :
  dr X g w a (.call c) {S with objs:=S.objs.set id (bK cs off (List.replicate len z).flatten)} (.tup []):=by
 intro dst ty pos after guard next Q hn
 have r:=ax hF hx;rw[he]at r;generalize hu1:a.eval y=u1 at r;obtain⟨consts,hbr⟩:=lT (a:=a) hc dst ty pos after guard;split at ht
 ·rename_i e hu;simp only[aJ]at ht;obtain⟨h1,h2⟩:=ht;obtain⟨zu,z1,z2⟩:=zf (w:=w) h2;have r0:=mt (X:=X) (g:=g) (w:=w) z2;have hzl:zu.cells.size=sz:=by have:=r0.1;simp at this;omega
  cases r with
  |osl _ _ _ _ cap b hid hl hr=>
   obtain⟨cs',us,t0,k1,k2,k3,k4⟩:=hS.obj id b hid;rw[hcs]at k1;cases k1;have hrl:((List.replicate len z).flatten).length=len*sz:=by simp[hz]
   have hvr:bQ X g w (List.replicate len z).flatten (Builtin.zeroCells zu.cells len):=by
    refine⟨by rw[hrl,size_zeroCells,hzl],fun j c u e1 e2=>?_⟩;have hj:j<len*sz:=by rw[←hrl];exact(aO.1 e1).1
    have hq:j/sz<len:=by rw[nb hpos];exact hj
    have hr':j%sz<sz:=kB _ hpos;have hjd:j=j/sz*sz+j%sz:=by rw[nc];exact(sK _ _).symm
    have e3:z[j%sz]?=some c:=by
     have hf:((List.replicate len (PV.agg z)).flatMap PV.cells)=(List.replicate len z).flatten:=by
      rw[List.flatMap_def,List.map_replicate];rfl
     have:=lR (es:=List.replicate len (PV.agg z)) (sz:=sz) (fun x hx=>by rw[pI hx];exact hz) (i:=j/sz) (e:=.agg z) (by simp[hq]) (j%sz) hr';rw[←hjd,hf]at this;rw[←e1,this];rfl
    have e4:zu.cells[j%sz]?=some u:=by
     rw[Builtin.zeroCells,vK,vM,hzl,if_pos hj,jW,aw]at e2;rw[←e2,getElem!_pos _ _ (by rw[hzl];exact hr')];exact fK _
    exact r0.2 (j%sz) c u e3 (by simpa using e4)
   by_cases hlen:len=0
   ·subst hlen;have hsame:bK cs off (List.replicate 0 z).flatten=cs:=by simp[bK]
    have hset:S.objs.set id cs=S.objs:=by
     apply ke;intro i;by_cases hi:i=id
     ·subst hi;rw[dd (aO.1 hcs).1,hcs]
     ·rw[bn (Ne.symm hi)]
    rw[hsame,hset]at hn
    have er:(execOp a.eval ⟨dst,.call c,ty,pos,after,guard⟩).run X.P w=.ok (.value (.tuple #[])) w:=by
     rw[hbr,oX ha,oY hts];simp[builtin,hu1,Builtin.clear_,run_underlying hu]
    unfold Oper.wp;rw[er];exact hn _ _ ⟨g,Le.refl g w,hS,.tup [] #[] rfl (fun j c u e=>by simp at e)⟩
   ·have hall:(List.replicate len z).flatten.all PV.one=true:=by
     rw[List.all_eq_true];intro x hx;obtain⟨l,hl1,hl2⟩:=List.mem_flatten.1 hx;rw[pI hl1]at hl2;exact(List.all_eq_true.1 hone) x hl2
    obtain⟨w',s1,g',hle,hS',_⟩:=zX hS hid hcs hvr hall (by rw[hrl];exact hoff)
    have er:(execOp a.eval ⟨dst,.call c,ty,pos,after,guard⟩).run X.P w=.ok (.value (.tuple #[])) w':=by
     rw[hbr,oX ha,oY hts];obtain⟨m,rfl⟩:∃m,len=m+1:=⟨len-1,by omega⟩;simp[builtin,hu1,Builtin.clear_,run_underlying hu,z1,s1]
    unfold Oper.wp;rw[er];exact hn _ _ ⟨g',hle,hS',.tup [] #[] rfl (fun j c u e=>by simp at e)⟩
 ·cases ht
def aBV(hS:SR X g S w)(hF:FR X n g w fr a){sz bytes:Nat}{z:List PV}{c:aG}{t:TypeId}{k:Operand}{m:Int}
  (ht:(match X.P.underlying t with
   |some (.slice e)=>(match X.P.info? e with|some i=>i.size==sz&&i.bytes==bytes&&(match i.zero with|some zv=>zv.cells.size==sz&&jd zv.cells.toList z|none=>false)|none=>false)
   |_=>false)=true) (hk:aK X k c=true) (hc:ev fr c=.int .i64 m) (h0:1≤m) (hm:m*bytes≤140737488355328) (hsz:0<sz) (hby:0<bytes) (hzl:z.length=sz) :
  dr X g w a (.makeSlice t (.const (.int .i64 0)) k) {S with objs:=S.objs++[z]} (.osl S.objs.length 0 0 sz):=by
 intro dst ty pos after guard next Q hn
 have hv:=ax hF hk;rw[hc]at hv;generalize hq:a.eval k=u at hv;cases hv;obtain⟨c,rfl⟩:=vQ (show 0≤m by omega);split at ht
 ·rename_i e hu;split at ht
  ·rename_i i hi;simp only[aJ,beq_iff_eq]at ht;obtain⟨⟨h1,h2⟩,h3⟩:=ht;split at h3
   ·rename_i zv hz;simp only[aJ,beq_iff_eq]at h3;obtain⟨h3,h4⟩:=h3;have r0:=mt (X:=X) (g:=g) (w:=w) h4;have ecb:(c:Int)*(bytes:Int)=((c*bytes:Nat):Int):=by simp
    have hmb:c*bytes≤140737488355328:=by rw[ecb]at hm;omega
    have hcb:c≤c*bytes:=TF c hby
    have wc:IntKind.i64.wrap (c:Int)=(c:Int):=by
     have e:IntKind.i64.wrap (c:Int)=if(c:Int)%18446744073709551616≥9223372036854775808 then(c:Int)%18446744073709551616-18446744073709551616 else(c:Int)%18446744073709551616:=by
      simp[IntKind.wrap,IntKind.bits,IntKind.signed]
     rw[e];split<;>omega
    have w0:IntKind.i64.wrap 0=0:=by decide
    have n1:¬(281474976710656<(bytes:Int)*(c:Int)):=by
     rw[Ao,ecb];omega
    have n2:¬((c:Int)<0):=by omega
    have n3:¬(c*bytes>roomBytes):=by unfold roomBytes;omega
    have hc1:1≤c:=by omega
    have h00:¬c*sz=0:=by
     intro h;rcases vp.1 h with h|h<;>omega
    let us:Array Value:=(Array.range (c*sz)).map (fun j=>zv.cells[j%zv.cells.size]!)
    have hrun:(execOp a.eval ⟨dst,.makeSlice t (.const (.int .i64 0)) k,ty,pos,after,guard⟩).run X.P w=.ok (.value (.slice (some ⟨w.heap.size,0,none⟩) 0 c)) (w.alloc (.cells us e)):=by
     have hev:a.eval (.const (.int .i64 0))=.int .i64 0:=rfl;simp[execOp,Instr.makeSlice,run_underlying hu,asInt,asIntOf,typeInfo,hi,Go.sizeOf,zeroValue,hz,hev,hq,wc,w0,h1,h2,n1,n2,newRow,askRoom,us,h00]
    have hus:us.size=c*sz:=by simp[us]
    have hle:sz≤c*sz:=Nat.le_mul_of_pos_left sz hc1;unfold Oper.wp;rw[hrun,Oper.upon_value];refine hn _ _ (AE hS rfl rfl rfl rfl (by rw[hus,hzl];exact hle) (bb _) (by rw[hus];exact aX _) (fun j x hx=>?_));have hj:j<sz:=by rw[←hzl];exact(aO.1 hx).1
    have hjz:j<zv.cells.size:=by omega
    refine⟨zv.cells[j],?_,r0.2 j x _ hx (by simp[hjz])⟩;have hjr:j<c*sz:=jU hj hle;simp only[us,vK,vM,if_pos hjr,jW];rw[kA hjz,getElem!_pos zv.cells j hjz]
   ·cases h3
  ·cases ht
 ·cases ht
def aBW(hS:SR X g S w)(hF:FR X n g w fr a){sz bytes:Nat}{c:aG}{t:TypeId}{k:Operand}{m:Int}
  (ht:(match X.P.underlying t with
   |some (.slice e)=>(match X.P.info? e with|some i=>i.size==sz&&i.bytes==bytes&&(match i.zero with|some z=>z.cells.size==sz|none=>false)|none=>false)
   |_=>false)=true) (hk:aK X k c=true) (hc:ev fr c=.int .i64 m) (h0:0≤m) (hm:m*bytes≤140737488355328) (hsz:0<sz) (hby:0<bytes) :
  dr X g w a (.makeSlice t (.const (.int .i64 0)) k) (dQ S sz []).2 (dQ S sz []).1:=by
 intro dst ty pos after guard next Q hn
 have hv:=ax hF hk;rw[hc]at hv;generalize hq:a.eval k=u at hv;cases hv;obtain⟨c,rfl⟩:=vQ h0;split at ht
 ·rename_i e hu;split at ht
  ·rename_i i hi;simp only[aJ,beq_iff_eq]at ht;obtain⟨⟨h1,h2⟩,h3⟩:=ht;split at h3
   ·rename_i z hz;simp only[beq_iff_eq]at h3;have ecb:(c:Int)*(bytes:Int)=((c*bytes:Nat):Int):=by simp
    have hmb:c*bytes≤140737488355328:=by rw[ecb]at hm;omega
    have hcb:c≤c*bytes:=TF c hby
    have wc:IntKind.i64.wrap (c:Int)=(c:Int):=by
     have e:IntKind.i64.wrap (c:Int)=if(c:Int)%18446744073709551616≥9223372036854775808 then(c:Int)%18446744073709551616-18446744073709551616 else(c:Int)%18446744073709551616:=by
      simp[IntKind.wrap,IntKind.bits,IntKind.signed]
     rw[e];split<;>omega
    have w0:IntKind.i64.wrap 0=0:=by decide
    have n1:¬(281474976710656<(bytes:Int)*(c:Int)):=by
     rw[Ao,ecb];omega
    have n2:¬((c:Int)<0):=by omega
    have n3:¬(c*bytes>roomBytes):=by unfold roomBytes;omega
    let us:Array Value:=(Array.range (c*sz)).map (fun j=>(if c*sz=0 then #[]else z.cells)[j%(if c*sz=0 then #[]else z.cells).size]!)
    have hrun:(execOp a.eval ⟨dst,.makeSlice t (.const (.int .i64 0)) k,ty,pos,after,guard⟩).run X.P w=.ok (.value (.slice (some ⟨w.heap.size,0,none⟩) 0 c)) (w.alloc (.cells us e)):=by
     have hev:a.eval (.const (.int .i64 0))=.int .i64 0:=rfl;by_cases h00:c*sz=0
     ·have hc0:c=0:=by
       rcases vp.1 h00 with h|h
       ·exact h
       ·omega
      subst hc0;simp[execOp,Instr.makeSlice,run_underlying hu,asInt,asIntOf,typeInfo,hi,Go.sizeOf,hev,hq,w0,newRow,askRoom,us]
     ·simp[execOp,Instr.makeSlice,run_underlying hu,asInt,asIntOf,typeInfo,hi,Go.sizeOf,zeroValue,hz,hev,hq,wc,w0,h1,h2,n1,n2,newRow,askRoom,us,h00]
    unfold Oper.wp;rw[hrun];refine hn _ _ ?_
    exact oa hS (es:=[]) (us:=us) (t:=e) (lo:=0) (hi:=0) (sz:=sz) (cap:=c) (w':=w.alloc (.cells us e)) rfl rfl rfl rfl hsz (fun x hx=>by simp at hx) (fun x hx=>by simp at hx) (bb _)
     (by simp[us]) (.inl (aX _)) (fun j c hc=>by simp at hc)
   ·cases h3
  ·cases ht
 ·cases ht
def aBX{id:Nat}{q:Option (PV×St)}{r:PV×St}(h:mc id S q=some r):q=some r:=by
 cases q with
 |none=>cases h
 |some p=>
  obtain⟨v,S1⟩:=p;simp only[mc]at h;split at h
  ·split at h
   ·exact h
   ·cases h
  ·cases h
def uN{call:af}(hty:eS X)(hM:eZ X)(hC:cu X call)(hS:SR X g S w)(hF:FR X n g w fr a){op:Go.Op}{p:bO}(hc:bJ X op p=true){v:PV}{S':St}
  (h:aH X.T call fr S p=some (v,S')):dr X g w a op S' v:=by
 have pureCase:mZ p=true→dL S (aW fr p)=some (v,S')→dr X g w a op S' v:=by
  intro hp hv
  cases hv':aW fr p with
  |none=>rw[hv']at hv;cases hv
  |some v'=>rw[hv']at hv;cases hv;exact(aBD hty hF hc hp hv').opWp hS
 cases p
 case load ag m mix x=>
  cases mix
  ·cases op<;>simp only[bJ]at hc<;>try (cases hc;done)
   simp only[aJ]at hc;simp only[aH]at h;split at h
   ·rename_i cs he;split at h
    ·rename_i v' hv;cases h;exact(RA hF hc.1 hc.2 he hv).opWp hS
    ·cases h
   ·rename_i id off he;split at h
    ·rename_i cs hcs;split at h
     ·rename_i v' hv;cases h;exact(RL hS hF hc.1 hc.2 he hcs hv).opWp hS
     ·cases h
    ·cases h
   ·cases h
  ·exact pureCase rfl (by simpa only[aH]using h)
 case loadb b ag m x=>
  cases op<;>simp only[bJ]at hc<;>try (cases hc;done)
  simp only[aJ]at hc;simp only[aH]at h;split at h
  ·rename_i i o id off hb he;split at h
   ·split at h
    ·rename_i cs hcs;split at h
     ·rename_i v' hv;cases h;exact(RL hS hF hc.1 hc.2 he hcs hv).opWp hS
     ·cases h
    ·cases h
   ·cases h
  ·cases h
 case callb b f args=>
  cases op<;>simp only[bJ]at hc<;>try (cases hc;done)
  rw[aJ]at hc;simp only[aH]at h;split at h
  ·exact RK (m:=.std) hC hS hF hc.1 hc.2 (aBX h)
  ·cases h
 case store m p x=>
  cases op<;>simp only[bJ]at hc<;>try (cases hc;done)
  rw[aJ,aJ]at hc;simp only[aH]at h;split at h
  ·rename_i id off he;split at h
   ·rename_i cs hcs;split at h
    ·rename_i hcond;cases h;exact RM hS hF hc.1.1 hc.1.2 hc.2 he hcs hcond.1 hcond.2.1 hcond.2.2
    ·cases h
   ·cases h
  ·cases h
 case stb l m p x=>
  cases op<;>simp only[bJ]at hc<;>try (cases hc;done)
  rw[aJ,aJ]at hc;simp only[aH]at h;split at h
  ·rename_i id off he;split at h
   ·rename_i cs hcs;split at h
    ·rename_i hcond;cases h;exact RM hS hF hc.1.1 hc.1.2 hc.2 he hcs hcond.2.1 hcond.2.2.1 hcond.2.2.2
    ·cases h
   ·cases h
  ·cases h
 case box ro x=>
  cases op<;>simp only[bJ]at hc<;>try (cases hc;done)
  simp only[aH]at h;split at h
  ·rename_i hone;simp only[aw]at h;exact aBN hS hF hc hone h
  ·cases h
 case alloc ro z=>
  cases op<;>simp only[bJ]at hc<;>try (cases hc;done)
  simp only[aH]at h;split at h
  ·simp only[aw]at h;exact aBO hS hc h
  ·cases h
 case bsl ro ze len parts=>
  cases op<;>simp only[bJ]at hc<;>try (cases hc;done)
  simp only[aH]at h;split at h
  ·rename_i es hes;simp only[aw]at h;unfold cA at hes;split at hes
   ·rename_i hcond;exact aBQ hS hF hc hcond.1 hcond.2.1 hcond.2.2 hes h
   ·cases hes
  ·cases h
 case app sz bytes s x=>
  cases op<;>simp only[bJ]at hc<;>try (cases hc;done)
  split at hc
  ·rename_i h1 h2 h3;rw[aJ,aJ]at hc;simp only[aH]at h;split at h
   ·rename_i new hnew;split at h
    ·rename_i hpos;exact aBR hS hF h1 h2 h3 hc.1.1 hc.1.2 hc.2 hpos hnew h
    ·cases h
   ·cases h
  ·cases hc
 case gapp sz bytes s x=>
  cases op<;>simp only[bJ]at hc<;>try (cases hc;done)
  split at hc
  ·rename_i h1 h2 h3;rw[aJ,aJ]at hc;simp only[aH]at h;split at h
   ·rename_i new hnew;split at h
    ·rename_i hpos;exact aBS hS hF h1 h2 h3 hc.1.1 hc.1.2 hc.2 hpos hnew h
    ·cases h
   ·cases h
  ·cases hc
 case emp0=>
  cases op<;>simp only[bJ]at hc<;>try (cases hc;done)
  split at hc
  ·rename_i heq;cases heq;simp only[aH]at h;cases h;exact aBT hS hc
  ·cases hc
 case toStrO x=>
  cases op<;>simp only[bJ]at hc<;>try (cases hc;done)
  rw[aJ,aJ]at hc;simp only[aH]at h;have viaPure:=fun(q:PV) (e1:aW fr (.toStr x)=some q)=>(RB hF hc.1.1 hc.1.2 hc.2 e1).opWp hS;split at h
  ·rename_i id off len sz he;split at h
   ·rename_i cs hcs;split at h
    ·rename_i hq;split at h
     ·rename_i s hb;cases h;exact(aBC hS hF hc.1.1 hc.1.2 hc.2 he hcs hq.2 hb).opWp hS
     ·cases h
    ·cases h
   ·cases h
  ·rename_i he;cases h;exact viaPure _ (by simp only[aW,he])
  ·rename_i he;cases h;exact viaPure _ (by simp only[aW,he])
  ·rename_i he;split at h
   ·rename_i s hb;cases h;exact viaPure _ (by simp only[aW,he,hb])
   ·cases h
  ·cases h
 case gclr sz z x=>
  cases op<;>simp only[bJ]at hc<;>try (cases hc;done)
  split at hc
  ·rename_i h1 h2 h3;rw[aJ]at hc;simp only[aH]at h;split at h
   ·rename_i id off len sz' he;split at h
    ·rename_i cs hcs;split at h
     ·rename_i hq;obtain⟨rfl,hpos,hz,hone,hoff⟩:=hq;cases h;exact aBU hS hF h1 h2 h3 hc.1 hc.2 he hcs hpos hz hone hoff
     ·cases h
    ·cases h
   ·cases h
  ·cases hc
 case toBytes ro x=>
  cases op<;>simp only[bJ]at hc<;>try (cases hc;done)
  rw[aJ,aJ]at hc;simp only[aH]at h;split at h
  ·rename_i s he;simp only[aw]at h;exact aBP hS hF hc.1.1 hc.1.2 hc.2 he h
  ·cases h
 case mks sz bytes c=>
  cases op<;>simp only[bJ]at hc<;>try (cases hc;done)
  split at hc
  ·rename_i e1 e2 e3;cases e3;rw[aJ]at hc;simp only[aH]at h;split at h
   ·rename_i m he;split at h
    ·rename_i hcond;cases h;exact aBW hS hF hc.1 hc.2 he hcond.1 hcond.2.1 hcond.2.2.1 hcond.2.2.2
    ·cases h
   ·cases h
  ·cases hc
 case mko sz bytes z c=>
  cases op<;>simp only[bJ]at hc<;>try (cases hc;done)
  split at hc
  ·rename_i e1 e2 e3;cases e3;rw[aJ]at hc;simp only[aH]at h;split at h
   ·rename_i m he;split at h
    ·rename_i hcond;obtain⟨q1,q2,q3,q4,q5,q6⟩:=hcond;cases h;exact aBV hS hF hc.1 hc.2 he q1 q2 q3 q4 q5
    ·cases h
   ·cases h
  ·cases hc
 case mkm=>
  cases op<;>simp only[bJ]at hc<;>try (cases hc;done)
  split at hc
  ·simp only[aH]at h;rename_i heq;cases heq;cases h;exact aCs hS
  ·cases hc
 case mlk ks ok z x k=>
  cases op<;>simp only[bJ]at hc<;>try (cases hc;done)
  simp only[aJ,beq_iff_eq]at hc;obtain⟨⟨⟨⟨rfl,h1⟩,h2⟩,h3⟩,h4⟩:=hc;simp only[aH]at h;split at h
  ·rename_i hk
   have hv:∃q,(match ev fr x with
    |.nilm=>some (iZ ok z none)
    |.map id=>(match S.objs[id]? with
     |some cs=>(match jC (ev fr k) cs with|some r=>some (iZ ok z r)|none=>none)
     |none=>none)
    |_=>none)=some q∧v=q∧S'=S:=by
    split at h
    ·rename_i e;cases h;exact⟨_,by simp only[e],rfl,rfl⟩
    ·rename_i id e;split at h
     ·rename_i cs e2;split at h
      ·rename_i r e3;cases h;exact⟨_,by simp only[e,e2,e3],rfl,rfl⟩
      ·cases h
     ·cases h
    ·cases h
   obtain⟨q,e1,rfl,rfl⟩:=hv;exact(aCk hS hF h1 h2 h3 h4 hk e1).opWp hS
  ·cases h
 case plk ar ok z x k=>
  cases op<;>simp only[bJ]at hc<;>try (cases hc;done)
  simp only[aJ,beq_iff_eq]at hc;obtain⟨⟨⟨⟨rfl,h1⟩,h2⟩,h3⟩,h4⟩:=hc;simp only[aH]at h;split at h
  ·rename_i id he;split at h
   ·rename_i cs hcs;split at h
    ·rename_i hk;cases h;exact(aCz hS hF h1 h2 h3 h4 he hcs hk.1 hk.2).opWp hS
    ·cases h
   ·cases h
  ·cases h
 case pset ar x k y=>
  cases op<;>simp only[bJ]at hc<;>try (cases hc;done)
  simp only[aJ]at hc;obtain⟨⟨⟨h1,h2⟩,h3⟩,h4⟩:=hc;simp only[aH]at h;split at h
  ·rename_i id he;split at h
   ·rename_i cs hcs;split at h
    ·rename_i hk;cases h;exact aCA hS hF h1 h2 h3 h4 he hcs hk.1 hk.2.1 hk.2.2
    ·cases h
   ·cases h
  ·cases h
 case msb l ks x k y=>
  cases op<;>simp only[bJ]at hc<;>try (cases hc;done)
  simp only[aJ]at hc;obtain⟨⟨⟨h1,h2⟩,h3⟩,h4⟩:=hc;simp only[aH]at h;split at h
  ·rename_i id he;split at h
   ·rename_i cs hcs;split at h
    ·rename_i ds hds;split at h
     ·rename_i hk;cases h;exact Re hS hF h1 h2 h3 h4 he hcs hk.2 hds
     ·cases h
    ·cases h
   ·cases h
  ·cases h
 case mset ks x k y=>
  cases op<;>simp only[bJ]at hc<;>try (cases hc;done)
  simp only[aJ]at hc;obtain⟨⟨⟨h1,h2⟩,h3⟩,h4⟩:=hc;simp only[aH]at h;split at h
  ·rename_i id he;split at h
   ·rename_i cs hcs;split at h
    ·rename_i ds hds;split at h
     ·rename_i hk;cases h;exact Re hS hF h1 h2 h3 h4 he hcs hk hds
     ·cases h
    ·cases h
   ·cases h
  ·cases h
 case mdel ks x k=>
  cases op<;>simp only[bJ]at hc<;>try (cases hc;done)
  split at hc
  ·rename_i e1 e2 e3;simp only[aJ]at hc;obtain⟨⟨h1,h2⟩,h3⟩:=hc;simp only[aH]at h;split at h
   ·rename_i id he;split at h
    ·rename_i cs hcs;split at h
     ·rename_i ds hds;split at h
      ·rename_i hk;cases h;exact aCq hS hF e1 e2 e3 h1 h2 h3 he hcs hk hds
      ·cases h
     ·cases h
    ·cases h
   ·cases h
  ·cases hc
 case mlen x=>
  cases op<;>simp only[bJ]at hc<;>try (cases hc;done)
  split at hc
  ·rename_i e1 e2 e3;simp only[aJ]at hc;simp only[aH]at h
   have hv:∃q,(match ev fr x with
    |.nilm=>some (PV.int .i64 0)
    |.map id=>(match S.objs[id]? with|some cs=>some (.int .i64 ((cs.length/2:Nat):Int))|none=>none)
    |_=>none)=some q∧v=q∧S'=S:=by
    split at h
    ·rename_i e;cases h;exact⟨_,by simp only[e],rfl,rfl⟩
    ·rename_i id e;split at h
     ·rename_i cs e2;cases h;exact⟨_,by simp only[e,e2],rfl,rfl⟩
     ·cases h
    ·cases h
   obtain⟨q,k1,rfl,rfl⟩:=hv;exact(aCm hS hF e1 e2 e3 hc.1 hc.2 k1).opWp hS
  ·cases hc
 case slc3 sz lo hi mx x=>
  cases op<;>simp only[bJ]at hc<;>try (cases hc;done)
  split at hc
  ·rename_i heq;cases heq;simp only[aJ]at hc;obtain⟨⟨⟨⟨h1,h2⟩,h3⟩,h4⟩,h5⟩:=hc;simp only[aH]at h;exact aCu hS hF h1 h2 h3 h4 h5 h
  ·cases hc
 case call m f args=>
  cases op<;>simp only[bJ]at hc<;>try (cases hc;done)
  rw[aJ]at hc;simp only[aH]at h;exact RK hC hS hF hc.1 hc.2 h
 case callv m x args=>
  cases op<;>simp only[bJ]at hc<;>try (cases hc;done)
  rw[aJ]at hc;simp only[aH]at h;split at h
  ·rename_i f caps he;exact aBK hC hS hF hc.1 hc.2 he h
  ·rename_i f first he
   exact aBL hC hS hF hc.1 hc.2 he h
  ·cases h
 case inv cm m x args=>
  cases op<;>simp only[bJ]at hc<;>try (cases hc;done)
  rw[aJ]at hc;simp only[aH]at h;split at h
  ·rename_i t v0 he;split at h
   ·rename_i f hm;exact aBM hM hC hS hF hc.1 hc.2 he hm h
   ·cases h
  ·cases h
 case bad=>simp only[aH]at h;cases h
 case nst=>cases op<;>(simp only[bJ]at hc;cases hc)
 case men=>cases op<;>(simp only[bJ]at hc;cases hc)
 case est=>cases op<;>(simp only[bJ]at hc;cases hc)
 case wc=>simp only[aH]at h;cases h
 case pan=>simp only[aH]at h;cases h
 case rcv=>simp only[aH]at h;cases h
 all_goals exact pureCase rfl (by simpa only[aH]using h)
end
end Ps
set_option linter.defProp false
namespace Ps
open Go
def rO(ops:Array Oper):Option (Nat×Bool)→Option (Nat×Bool)→Bool
 |none,none=>true
 |some (j,b),some (t,c)=>b==c&&(ops[j]?).bind (·.dst)==some t
 |_,_=>false
def dl(X:Tie)(n:Nat)(ops:Array Oper)(o:Oper)(p:aB):Bool:=
 p.dst==o.dst&&(match o.dst with|some d=>decide (d<n)|none=>true)&&bJ X o.op p.op&&rO ops o.guard p.guard
def dt(X:Tie)(n:Nat)(ops:Array Oper):List Oper→List aB→Bool
 | [],[]=>true
 |o::l,p::m=>dl X n ops o p&&dt X n ops l m
 |_,_=>false
section
variable {X : Tie} {g : Gh} {w : World} {n : Dn} {fr : Fr} {a : Act} {S : St}
def jH(hF:FR X n g w fr a){ops:Array Oper}{o:Oper}{gd:Option (Nat×Bool)}(h:rO ops o.guard gd=true){b:Bool}(hb:bq fr gd=some b) :
  Region.wanted o (yielded ops a.tmps)=b:=by
 obtain⟨dst,op,type,pos,after,guard⟩:=o
 cases guard with
 |none=>
  cases gd with
  |none=>simp[bq]at hb;subst hb;rfl
  |some q=>simp[rO]at h
 |some q=>
  obtain⟨j,c⟩:=q
  cases gd with
  |none=>simp[rO]at h
  |some q'=>
   obtain⟨t,d⟩:=q';simp only[rO,aJ,beq_iff_eq]at h;obtain⟨rfl,h⟩:=h;have r:=hF.at_ t;simp only[bq]at hb;simp only[Region.wanted,yielded,h,vv];split at hb
   ·rename_i q e;cases hb;rw[e]at r
    cases ht:a.tmps[t]? with
    |none=>simp[eh,ht,undef]at r;cases r
    |some u=>
     simp[eh,ht]at r;cases r;simp
   ·rename_i e;cases hb;rw[e]at r
    cases ht:a.tmps[t]? with
    |none=>simp
    |some u=>
     simp[eh,ht]at r;cases r;simp
   ·cases hb
inductive lW(X:Tie)(n:Nat)(ops:Array Oper):List Nat→List aB→Prop where
 |nil:lW X n ops [] []
 |cons (i:Nat) (o:Oper) (p:aB) (l:List Nat) (ps:List aB) (hi:ops[i]?=some o) (hc:dl X n ops o p=true) (h:lW X n ops l ps):lW X n ops (i::l) (p::ps)
def rP(X:Tie)(g:Gh)(w:World):VR X g w (.tup []) undef:=.tup [] #[] rfl (fun j c u h=>by simp at h)
def aBY{call:af}(hty:eS X)(hM:eZ X)(hC:cu X call){ops:Array Oper}{Q:Exit→Act→World→Prop}{fr':Fr}{S':St}:∀{l:List Nat} {ps:List aB} {g:Gh} {w:World} {fr:Fr} {S:St} {a:Act},
  lW X n ops l ps→SR X g S w→FR X n g w fr a→ah X.T call ps fr S=some (fr',S') →
  (∀g' w' a',Le g w g' w'→SR X g' S' w'→FR X n g' w' fr' a'→Q .normal a' w')→wpOps X.P ops Q l a w:=by
 intro l ps g w fr S a hf
 induction hf generalizing g w fr S a with
 |nil=>
  intro hS hF h hQ;simp only[ah,aw,bo]at h;obtain⟨rfl,rfl⟩:=h
  exact hQ g w a (Le.refl g w) hS hF
 |cons i o p l ps hi hc _ ih=>
  intro hS hF h hQ;simp only[dl,aJ,beq_iff_eq]at hc;obtain⟨⟨⟨hd,hlt⟩,hop⟩,hgd⟩:=hc
  have hdl:∀t,p.dst=some t→t<n:=by
   intro t ht;rw[hd]at ht;rw[ht]at hlt;simpa using hlt
  simp only[wpOps,hi];simp only[ah]at h;split at h
  ·cases h
  ·rename_i hw;rw[jH hF hgd hw,if_neg (by simp)];rw[←hd];exact ih hS (hF.put hdl (rP X g w)) h hQ
  ·rename_i hw;rw[jH hF hgd hw,if_pos rfl];split at h
   ·rename_i v S1 hst;left
    have:=uN hty hM hC hS hF hop hst o.dst o.type o.pos o.after o.guard (wpOps X.P ops Q l) Q (fun u w' hstep=>by
     obtain⟨g',hle,hS',hv⟩:=hstep;rw[←hd];exact ih hS' ((hF.mono hle).put hdl hv) h (fun g2 w2 a2 hle2 hS2 hF2=>hQ g2 w2 a2 (hle.trans hle2) hS2 hF2))
    exact this
   ·cases h
theorem zh{ops:Array Oper}:∀{l:List Oper} {ps:List aB} (k:Nat),(∀j,l[j]?=ops[k+j]?)→dt X n ops l ps=true→lW X n ops (List.range' k l.length) ps
 | [],[],_,_,_=>.nil
 |o::l,p::ps,k,hk,h=>by
  simp only[dt,aJ]at h;simp only[bE,mC]
  exact .cons k o p _ ps (by simpa using (hk 0).symm) h.1 (zh (k+1) (fun j=>by have:=hk (j+1);simpa[gX,jT 1 j]using this) h.2)
 | [],_::_,_,_,h=>by simp[dt]at h
 |_::_,[],_,_,h=>by simp[dt]at h
end
end Ps
