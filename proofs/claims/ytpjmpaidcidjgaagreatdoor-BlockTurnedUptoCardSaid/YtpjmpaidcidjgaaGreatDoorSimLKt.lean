/- A list of operations, in an order that is given. -/
import Derived.Test.YtpjmpaidcidjgaaGreatDoorAbbKt
import Derived.Test.YtpjmpaidcidjgaaGreatDoorSimMpKt
import Derived.Test.YtpjmpaidcidjgaaGreatDoorSimMqKt
set_option linter.defProp false
namespace Ps
open Go
section
variable {X : Tie} {g : Gh} {w : World} {n : Dn} {fr : Fr} {a : Act} {S : St}
theorem yI(hF:FR X n g w fr a)(sz:Nat):∀(ps:List (Nat×Operand)) (parts:List (Nat×aG)) (es es':List PV) (us:Array Value),
  ji X ps parts=true→eP fr sz parts es=some es'→bD X g w (es.flatMap PV.cells) us→(∀x∈es,x.cells.length=sz)→(∀x∈es,x.cells.all PV.one=true) →
  ∃us',Instr.fill (fun i=>some (i*sz,sz)) us (ps.map fun p=>(p.1,a.eval p.2))=some us'∧bD X g w (es'.flatMap PV.cells) us' ∧
   es'.length=es.length∧(∀x∈es',x.cells.length=sz)∧(∀x∈es',x.cells.all PV.one=true)
 | [],[],es,es',us,_,h,hv,h1,h2=>by cases h;exact⟨us,rfl,hv,rfl,h1,h2⟩
 |(i,x)::l,(j,y)::r,es,es',us,hc,h,hv,h1,h2=>by
  simp only[ji,aI,beq_iff_eq]at hc;obtain⟨⟨rfl,hx⟩,h3⟩:=hc;simp only[eP]at h;split at h
  ·rename_i hcond;obtain⟨e1,e2,e3⟩:=hcond;have r0:=mO (af hF hx) e2;have hfl:=gV h1
   have hmul:i*sz+sz≤es.length*sz:=by
    rw[show i*sz+sz=(i+1)*sz by rw[cu];omega];exact gM _ (by omega)
   have hput:=xl (off:=i*sz) hv r0 (by omega);rw[←Ny h1 e3 e1]at hput
   obtain⟨us',f1,f2,f3,f4,f5⟩:=yI hF sz l r (es.set i (ev fr y)) es' _ h3 h hput
    (fun z hz=>by
     rcases QM hz with hz|hz
     ·exact h1 z hz
     ·subst hz;exact e1)
    (fun z hz=>by
     rcases QM hz with hz|hz
     ·exact h2 z hz
     ·subst hz;exact e2)
   refine⟨us',?_,f2,by rw[f3];simp,f4,f5⟩;simp only[cB,Instr.fill];have hs:(a.eval x).cells.size=sz:=by rw[←r0.1];exact e1
   rw[if_neg (by simp[hs,←hv.1,hfl];omega)];exact f1
  ·cases h
 | [],_::_,_,_,_,hc,_,_,_,_=>by simp[ji]at hc
 |_::_,[],_,_,_,hc,_,_,_,_=>by simp[ji]at hc
def YL(hS:SR X g S w)(hF:FR X n g w fr a){ro:Bool}{v:PV}{S':St}{ze:PV}{len:Nat}{parts:List (Nat×aG)}{t:TypeId}{m:Nat}{ps:Array (Nat×Operand)}
  (ht:(match X.P.underlying t with
   |some (.slice e)=>m==len&&jB X.P e ze&&(match X.P.info? e with|some i=>i.size==ze.cells.length|none=>false)&&ji X ps.toList parts
   |_=>false)=true) (hpos:0<ze.cells.length) (hone:ze.cells.all PV.one=true) (hsmall:len*ze.cells.length≤16777216) {es:List PV}
  (h:eP fr ze.cells.length parts (List.replicate len ze)=some es) (hr:(if ro then(PV.sl none es [],S)else dF S ze.cells.length es)=(v,S')) :
  dV X g w a (.buildSlice t m ps) S' v:=by
 intro dst ty pos after guard next Q hn
 split at ht
 ·rename_i e hu;simp only[aI,beq_iff_eq]at ht;obtain⟨⟨⟨rfl,hz⟩,hsz⟩,hps⟩:=ht;obtain⟨zu,hz1,hz2⟩:=xw (w:=w) hz;have hzr:bD X g w ze.cells zu.cells:=mO (mJ hz2) hone
  have hsize:(Go.sizeOf e).run X.P w=.ok ze.cells.length w:=by
   split at hsz
   ·rename_i i hi;simp only[beq_iff_eq]at hsz;simp[Go.sizeOf,typeInfo,hi,hsz]
   ·cases hsz
  have hrs:∀x∈List.replicate m ze,x.cells.length=ze.cells.length:=fun x hx=>by rw[oN hx]
  have hrf:=gV hrs;rw[te]at hrf;let init:Array Value:=if m*ze.cells.length=0 then #[]else(Array.range (m*ze.cells.length)).map (zu.cells[· % zu.cells.size]!)
  have hinit:bD X g w ((List.replicate m ze).flatMap PV.cells) init:=by
   by_cases h0:m*ze.cells.length=0
   ·have:m=0:=by
     rcases tw.1 h0 with h|h
     ·exact h
     ·omega
    subst this;refine⟨by simp[init],fun j c u e1 _=>by simp at e1⟩
   ·simp only[init,if_neg h0];refine⟨by rw[hrf];simp,fun j c u e1 e2=>?_⟩
    have hj:j<m*ze.cells.length:=by
     have:=(aL.1 e1).1;omega
    have hq:j/ze.cells.length<m:=by rw[mq hpos];exact hj
    have hr:j%ze.cells.length<ze.cells.length:=io _ hpos;have hg:=ky hrs (i:=j/ze.cells.length) (e:=ze) (by simp[hq]) (j%ze.cells.length) hr;rw[show j/ze.cells.length*ze.cells.length+j%ze.cells.length=j by rw[mr];exact qn _ _]at hg;rw[hg]at e1;have hzs:zu.cells.size=ze.cells.length:=hzr.1.symm;refine hzr.2 (j%ze.cells.length) c u e1 ?_;rw[tR,tS,if_pos hj,ip,ae]at e2;rw[←e2,hzs,dy (by omega)];simp[getElem!_pos,hzs,hr]
  obtain⟨us',f1,f2,f3,f4,f5⟩:=yI hF _ ps.toList parts _ es init hps h hinit hrs (fun x hx=>by rw[oN hx];exact hone);rw[te]at f3;have hus:us'.size=m*ze.cells.length:=by rw[←f2.1,gV f4,f3]
  have hrun:(execOp a.eval ⟨dst,.buildSlice t m ps,ty,pos,after,guard⟩).run X.P w=.ok (.value (.slice (some ⟨w.heap.size,0,none⟩) m m)) (w.alloc (.cells us' e)):=by
   have hfill:Instr.fill (fun i=>some (i*ze.cells.length,ze.cells.length)) init (List.map (fun x=>(x.fst,a.eval x.snd)) ps.toList)=some us':=f1;simp only[execOp,Sem.run_bind,Instr.buildSlice,run_underlying hu,Result.andThen_ok,hsize];rw[if_neg (by omega)];by_cases h0:m*ze.cells.length=0
   ·simp only[init,if_pos h0]at hfill;have hr0:(Array.range 0).map (fun _=>(default:Value)) = #[]:=by simp
    simp[h0,hr0,hfill,newRow]
   ·simp only[init,if_neg h0]at hfill;simp[h0,hz1,hfill,newRow]
  unfold Oper.wp;rw[hrun];refine hn _ _ ?_
  have hcells:∀(j:Nat) (c:PV),(es.flatMap PV.cells)[j]?=some c→∃u,us'[j]?=some u∧VR X g w c u:=fun j c hc=>by
   have hj:j<us'.size:=by rw[←f2.1];exact(aL.1 hc).1
   exact⟨us'[j],by simp[hj],f2.2 j c _ hc (by simp[hj])⟩
  cases ro
  ·simp only[bg,if_false]at hr;have hst:=nj hS (es:=es) (us:=us') (t:=e) (lo:=0) (hi:=0) (sz:=ze.cells.length) (cap:=m) (w':=w.alloc (.cells us' e)) rfl rfl rfl rfl hpos f4 f5 (by omega) (by omega) (.inl (aR _)) hcells;rw[f3,hr]at hst;exact hst
  ·simp only[if_true]at hr;cases hr;have hst:=OM hS (es:=es) (us:=us') (t:=e) (lo:=0) (hi:=0) (sz:=ze.cells.length) (cap:=m) (w':=w.alloc (.cells us' e)) rfl rfl rfl rfl hpos f4 f5 (by omega) (by omega) hcells;rw[f3]at hst;exact hst
 ·cases ht
def YM(hS:SR X g S w)(hF:FR X n g w fr a){sz bytes:Nat}{s x:aG}{c:Go.Call}{s' x':Operand}{t u:TypeId}(hc:c.callee=.builtin .append)(ha:c.args.toList=[s',x'])(hts:c.argTypes.toList=[t,u])
  (ht:(match X.P.underlying t with
    |some (.slice e)=>(match X.P.info? e with|some i=>i.size==sz&&i.bytes==bytes&&bytes != 0&&i.zero.isSome&&(match i.zero with|some z=>z.cells.size==sz|none=>false)|none=>false) &&
     (match X.P.underlying u with|some (.slice _)|some .string=>true|_=>false)
    |_=>false)=true) (hs:aK X s' s=true) (hx:aK X x' x=true) (hpos:0<sz) {new:List PV} (hnew:dS S sz (ev fr x)=some new) {v:PV} {S':St}
  (h:dT sz bytes S (ev fr s) new=some (v,S')):dV X g w a (.call c) S' v:=by
 intro dst ty pos after guard next Q hn
 split at ht
 ·rename_i e he;rw[aI]at ht;obtain⟨h1,h2⟩:=ht;split at h1
  ·rename_i i hi;simp only[aI,beq_iff_eq,bne_iff_ne,ne_eq]at h1;obtain⟨⟨⟨⟨rfl,rfl⟩,hb⟩,hz⟩,hzs⟩:=h1;split at hzs
   ·rename_i z hz';simp only[beq_iff_eq]at hzs
    have hu:(∃e',X.P.underlying u=some (.slice e'))∨X.P.underlying u=some .string:=by
     split at h2
     ·rename_i e' hu;exact .inl ⟨_,hu⟩
     ·rename_i hu;exact .inr hu
     ·cases h2
    obtain⟨q,w',k1,k2⟩:=YA hS he hi hz' hzs hu (by omega) hpos (af hF hs) (af hF hx) hnew ty h;obtain⟨consts,hbr⟩:=lA (a:=a) hc dst ty pos after guard;unfold Oper.wp
    have er:(execOp a.eval ⟨dst,.call c,ty,pos,after,guard⟩).run X.P w=.ok (.value q) w':=by
     rw[hbr,pj ha,sQ hts];simp only[builtin,Sem.run_bind];have:#[s',x'].map a.eval = #[a.eval s',a.eval x']:=by simp
     rw[this,k1];rfl
    rw[er];exact hn q w' k2
   ·cases hzs
  ·cases h1
 ·cases ht
def YN(hS:SR X g S w)(hF:FR X n g w fr a){sz bytes:Nat}{s x:aG}{c:Go.Call}{s' x':Operand}{t u:TypeId}(hc:c.callee=.builtin .append)(ha:c.args.toList=[s',x'])(hts:c.argTypes.toList=[t,u])
  (ht:(match X.P.underlying t with
    |some (.slice e)=>(match X.P.info? e with|some i=>i.size==sz&&i.bytes==bytes&&bytes != 0&&i.zero.isSome&&(match i.zero with|some z=>z.cells.size==sz|none=>false)|none=>false) &&
     (match X.P.underlying u with|some (.slice _)|some .string=>true|_=>false)
    |_=>false)=true) (hs:aK X s' s=true) (hx:aK X x' x=true) (hpos:0<sz) {new:List PV} (hnew:dS S sz (ev fr x)=some new) {v:PV} {S':St}
  (h:gD sz bytes S (ev fr s) new=some (v,S')):dV X g w a (.call c) S' v:=by
 intro dst ty pos after guard next Q hn
 split at ht
 ·rename_i e he;rw[aI]at ht;obtain⟨h1,h2⟩:=ht;split at h1
  ·rename_i i hi;simp only[aI,beq_iff_eq,bne_iff_ne,ne_eq]at h1;obtain⟨⟨⟨⟨rfl,rfl⟩,hb⟩,hz⟩,hzs⟩:=h1;split at hzs
   ·rename_i z hz';simp only[beq_iff_eq]at hzs
    have hu:(∃e',X.P.underlying u=some (.slice e'))∨X.P.underlying u=some .string:=by
     split at h2
     ·rename_i e' hu;exact .inl ⟨_,hu⟩
     ·rename_i hu;exact .inr hu
     ·cases h2
    obtain⟨q,w',k1,k2⟩:=ZZ hS he hi hz' hzs hu (by omega) hpos (af hF hs) (af hF hx) hnew ty h;obtain⟨consts,hbr⟩:=lA (a:=a) hc dst ty pos after guard;unfold Oper.wp
    have er:(execOp a.eval ⟨dst,.call c,ty,pos,after,guard⟩).run X.P w=.ok (.value q) w':=by
     rw[hbr,pj ha,sQ hts];simp only[builtin,Sem.run_bind];have:#[s',x'].map a.eval = #[a.eval s',a.eval x']:=by simp
     rw[this,k1];rfl
    rw[er];exact hn q w' k2
   ·cases hzs
  ·cases h1
 ·cases ht
def YO(hS:SR X g S w){t:TypeId}{ps:Array (Nat×Operand)}
  (ht:(match X.P.underlying t with
   |some (.slice e)=>(match X.P.info? e with|some i=>i.size != 0|none=>false)&&ps.isEmpty
   |_=>false)=true):dV X g w a (.buildSlice t 0 ps) S .emp:=by
 intro dst ty pos after guard next Q hn
 split at ht
 ·rename_i e hu;simp only[aI]at ht;obtain⟨h1,h2⟩:=ht;have hps:ps = #[]:=by simpa using h2
  subst hps;split at h1
  ·rename_i i hi;have hsize:(Go.sizeOf e).run X.P w=.ok i.size w:=by simp[Go.sizeOf,typeInfo,hi]
   have hrun:(execOp a.eval ⟨dst,.buildSlice t 0 #[],ty,pos,after,guard⟩).run X.P w=.ok (.value (.slice (some ⟨w.heap.size,0,none⟩) 0 0)) (w.alloc (.cells #[] e)):=by
    have hr0:(Array.range 0).map (fun _=>(default:Value)) = #[]:=by simp
    simp[execOp,Instr.buildSlice,run_underlying hu,hsize,Instr.fill,newRow,hr0]
   unfold Oper.wp;rw[hrun];refine hn _ _ ?_;obtain⟨g',h1,h2,_⟩:=yB hS (cs:=[]) (us:=#[]) ⟨rfl,fun j c u e1=>by simp at e1⟩ e;exact⟨g',h1,h2,.emp _⟩
  ·cases h1
 ·cases ht
def YP(hS:SR X g S w)(hF:FR X n g w fr a){sz:Nat}{z:List PV}{x:aG}{c:Go.Call}{y:Operand}{t:TypeId}(hc:c.callee=.builtin .clear)(ha:c.args.toList=[y])(hts:c.argTypes.toList=[t])
  (ht:(match X.P.underlying t with
    |some (.slice e)=>(match X.P.info? e with|some i=>i.size==sz|none=>false)&&jC X.P e z
    |_=>false)=true) (hx:aK X y x=true) {id off len:Nat} {cs:List PV} (he:ev fr x=.osl id off len sz) (hcs:S.objs[id]?=some cs) (hpos:0<sz) (hz:z.length=sz) (hone:z.all PV.one=true)
  (hoff:off+len*sz≤cs.length) :
  dV X g w a (.call c) {S with objs:=S.objs.set id (bB cs off (List.replicate len z).flatten)} (.tup []):=by
 intro dst ty pos after guard next Q hn
 have r:=af hF hx;rw[he]at r;generalize hu1:a.eval y=u1 at r;obtain⟨consts,hbr⟩:=lA (a:=a) hc dst ty pos after guard;split at ht
 ·rename_i e hu;simp only[aI]at ht;obtain⟨h1,h2⟩:=ht;obtain⟨zu,z1,z2⟩:=yH (w:=w) h2;have r0:=mH (X:=X) (g:=g) (w:=w) z2;have hzl:zu.cells.size=sz:=by have:=r0.1;simp at this;omega
  cases r with
  |osl _ _ _ _ cap b hid hl hr=>
   obtain⟨cs',us,t0,k1,k2,k3,k4⟩:=hS.obj id b hid;rw[hcs]at k1;cases k1;have hrl:((List.replicate len z).flatten).length=len*sz:=by simp[hz]
   have hvr:bD X g w (List.replicate len z).flatten (Builtin.zeroCells zu.cells len):=by
    refine⟨by rw[hrl,size_zeroCells,hzl],fun j c u e1 e2=>?_⟩;have hj:j<len*sz:=by rw[←hrl];exact(aL.1 e1).1
    have hq:j/sz<len:=by rw[mq hpos];exact hj
    have hr':j%sz<sz:=io _ hpos;have hjd:j=j/sz*sz+j%sz:=by rw[mr];exact(qn _ _).symm
    have e3:z[j%sz]?=some c:=by
     have hf:((List.replicate len (PV.agg z)).flatMap PV.cells)=(List.replicate len z).flatten:=by
      rw[List.flatMap_def,List.map_replicate];rfl
     have:=ky (es:=List.replicate len (PV.agg z)) (sz:=sz) (fun x hx=>by rw[oN hx];exact hz) (i:=j/sz) (e:=.agg z) (by simp[hq]) (j%sz) hr';rw[←hjd,hf]at this;rw[←e1,this];rfl
    have e4:zu.cells[j%sz]?=some u:=by
     rw[Builtin.zeroCells,tR,tS,hzl,if_pos hj,ip,ae]at e2;rw[←e2,getElem!_pos _ _ (by rw[hzl];exact hr')];exact dy _
    exact r0.2 (j%sz) c u e3 (by simpa using e4)
   by_cases hlen:len=0
   ·subst hlen;have hsame:bB cs off (List.replicate 0 z).flatten=cs:=by simp[bB]
    have hset:S.objs.set id cs=S.objs:=by
     apply lP;intro i;by_cases hi:i=id
     ·subst hi;rw[dd (aL.1 hcs).1,hcs]
     ·rw[bq (Ne.symm hi)]
    rw[hsame,hset]at hn
    have er:(execOp a.eval ⟨dst,.call c,ty,pos,after,guard⟩).run X.P w=.ok (.value (.tuple #[])) w:=by
     rw[hbr,ng ha,nh hts];simp[builtin,hu1,Builtin.clear_,run_underlying hu]
    unfold Oper.wp;rw[er];exact hn _ _ ⟨g,Le.refl g w,hS,.tup [] #[] rfl (fun j c u e=>by simp at e)⟩
   ·have hall:(List.replicate len z).flatten.all PV.one=true:=by
     rw[List.all_eq_true];intro x hx;obtain⟨l,hl1,hl2⟩:=List.mem_flatten.1 hx;rw[oN hl1]at hl2;exact(List.all_eq_true.1 hone) x hl2
    obtain⟨w',s1,g',hle,hS',_⟩:=xz hS hid hcs hvr hall (by rw[hrl];exact hoff)
    have er:(execOp a.eval ⟨dst,.call c,ty,pos,after,guard⟩).run X.P w=.ok (.value (.tuple #[])) w':=by
     rw[hbr,ng ha,nh hts];obtain⟨m,rfl⟩:∃m,len=m+1:=⟨len-1,by omega⟩;simp[builtin,hu1,Builtin.clear_,run_underlying hu,z1,s1]
    unfold Oper.wp;rw[er];exact hn _ _ ⟨g',hle,hS',.tup [] #[] rfl (fun j c u e=>by simp at e)⟩
 ·cases ht
def YQ(hS:SR X g S w)(hF:FR X n g w fr a){sz bytes:Nat}{z:List PV}{c:aG}{t:TypeId}{k:Operand}{m:Int}
  (ht:(match X.P.underlying t with
   |some (.slice e)=>(match X.P.info? e with|some i=>i.size==sz&&i.bytes==bytes&&(match i.zero with|some zv=>zv.cells.size==sz&&jA zv.cells.toList z|none=>false)|none=>false)
   |_=>false)=true) (hk:aK X k c=true) (hc:ev fr c=.int .i64 m) (h0:1≤m) (hm:m*bytes≤140737488355328) (hsz:0<sz) (hby:0<bytes) (hzl:z.length=sz) :
  dV X g w a (.makeSlice t (.const (.int .i64 0)) k) {S with objs:=S.objs++[z]} (.osl S.objs.length 0 0 sz):=by
 intro dst ty pos after guard next Q hn
 have hv:=af hF hk;rw[hc]at hv;generalize hq:a.eval k=u at hv;cases hv;obtain⟨c,rfl⟩:=zG (show 0≤m by omega);split at ht
 ·rename_i e hu;split at ht
  ·rename_i i hi;simp only[aI,beq_iff_eq]at ht;obtain⟨⟨h1,h2⟩,h3⟩:=ht;split at h3
   ·rename_i zv hz;simp only[aI,beq_iff_eq]at h3;obtain⟨h3,h4⟩:=h3;have r0:=mH (X:=X) (g:=g) (w:=w) h4;have ecb:(c:Int)*(bytes:Int)=((c*bytes:Nat):Int):=by simp
    have hmb:c*bytes≤140737488355328:=by rw[ecb]at hm;omega
    have hcb:c≤c*bytes:=QQ c hby
    have wc:IntKind.i64.wrap (c:Int)=(c:Int):=by
     have e:IntKind.i64.wrap (c:Int)=if(c:Int)%18446744073709551616≥9223372036854775808 then(c:Int)%18446744073709551616-18446744073709551616 else(c:Int)%18446744073709551616:=by
      simp[IntKind.wrap,IntKind.bits,IntKind.signed]
     rw[e];split<;>omega
    have w0:IntKind.i64.wrap 0=0:=by decide
    have n1:¬(281474976710656<(bytes:Int)*(c:Int)):=by
     rw[zH,ecb];omega
    have n2:¬((c:Int)<0):=by omega
    have n3:¬(c*bytes>roomBytes):=by unfold roomBytes;omega
    have hc1:1≤c:=by omega
    have h00:¬c*sz=0:=by
     intro h;rcases tw.1 h with h|h<;>omega
    let us:Array Value:=(Array.range (c*sz)).map (fun j=>zv.cells[j%zv.cells.size]!)
    have hrun:(execOp a.eval ⟨dst,.makeSlice t (.const (.int .i64 0)) k,ty,pos,after,guard⟩).run X.P w=.ok (.value (.slice (some ⟨w.heap.size,0,none⟩) 0 c)) (w.alloc (.cells us e)):=by
     have hev:a.eval (.const (.int .i64 0))=.int .i64 0:=rfl;simp[execOp,Instr.makeSlice,run_underlying hu,asInt,asIntOf,typeInfo,hi,Go.sizeOf,zeroValue,hz,hev,hq,wc,w0,h1,h2,n1,n2,newRow,askRoom,us,h00]
    have hus:us.size=c*sz:=by simp[us]
    have hle:sz≤c*sz:=Nat.le_mul_of_pos_left sz hc1;unfold Oper.wp;rw[hrun,Oper.upon_value];refine hn _ _ (yb hS rfl rfl rfl rfl (by rw[hus,hzl];exact hle) (bh _) (by rw[hus];exact aR _) (fun j x hx=>?_));have hj:j<sz:=by rw[←hzl];exact(aL.1 hx).1
    have hjz:j<zv.cells.size:=by omega
    refine⟨zv.cells[j],?_,r0.2 j x _ hx (by simp[hjz])⟩;have hjr:j<c*sz:=im hj hle;simp only[us,tR,tS,if_pos hjr,ip];rw[ge hjz,getElem!_pos zv.cells j hjz]
   ·cases h3
  ·cases ht
 ·cases ht
def YR(hS:SR X g S w)(hF:FR X n g w fr a){sz bytes:Nat}{c:aG}{t:TypeId}{k:Operand}{m:Int}
  (ht:(match X.P.underlying t with
   |some (.slice e)=>(match X.P.info? e with|some i=>i.size==sz&&i.bytes==bytes&&(match i.zero with|some z=>z.cells.size==sz|none=>false)|none=>false)
   |_=>false)=true) (hk:aK X k c=true) (hc:ev fr c=.int .i64 m) (h0:0≤m) (hm:m*bytes≤140737488355328) (hsz:0<sz) (hby:0<bytes) :
  dV X g w a (.makeSlice t (.const (.int .i64 0)) k) (dF S sz []).2 (dF S sz []).1:=by
 intro dst ty pos after guard next Q hn
 have hv:=af hF hk;rw[hc]at hv;generalize hq:a.eval k=u at hv;cases hv;obtain⟨c,rfl⟩:=zG h0;split at ht
 ·rename_i e hu;split at ht
  ·rename_i i hi;simp only[aI,beq_iff_eq]at ht;obtain⟨⟨h1,h2⟩,h3⟩:=ht;split at h3
   ·rename_i z hz;simp only[beq_iff_eq]at h3;have ecb:(c:Int)*(bytes:Int)=((c*bytes:Nat):Int):=by simp
    have hmb:c*bytes≤140737488355328:=by rw[ecb]at hm;omega
    have hcb:c≤c*bytes:=QQ c hby
    have wc:IntKind.i64.wrap (c:Int)=(c:Int):=by
     have e:IntKind.i64.wrap (c:Int)=if(c:Int)%18446744073709551616≥9223372036854775808 then(c:Int)%18446744073709551616-18446744073709551616 else(c:Int)%18446744073709551616:=by
      simp[IntKind.wrap,IntKind.bits,IntKind.signed]
     rw[e];split<;>omega
    have w0:IntKind.i64.wrap 0=0:=by decide
    have n1:¬(281474976710656<(bytes:Int)*(c:Int)):=by
     rw[zH,ecb];omega
    have n2:¬((c:Int)<0):=by omega
    have n3:¬(c*bytes>roomBytes):=by unfold roomBytes;omega
    let us:Array Value:=(Array.range (c*sz)).map (fun j=>(if c*sz=0 then #[]else z.cells)[j%(if c*sz=0 then #[]else z.cells).size]!)
    have hrun:(execOp a.eval ⟨dst,.makeSlice t (.const (.int .i64 0)) k,ty,pos,after,guard⟩).run X.P w=.ok (.value (.slice (some ⟨w.heap.size,0,none⟩) 0 c)) (w.alloc (.cells us e)):=by
     have hev:a.eval (.const (.int .i64 0))=.int .i64 0:=rfl;by_cases h00:c*sz=0
     ·have hc0:c=0:=by
       rcases tw.1 h00 with h|h
       ·exact h
       ·omega
      subst hc0;simp[execOp,Instr.makeSlice,run_underlying hu,asInt,asIntOf,typeInfo,hi,Go.sizeOf,hev,hq,w0,newRow,askRoom,us]
     ·simp[execOp,Instr.makeSlice,run_underlying hu,asInt,asIntOf,typeInfo,hi,Go.sizeOf,zeroValue,hz,hev,hq,wc,w0,h1,h2,n1,n2,newRow,askRoom,us,h00]
    unfold Oper.wp;rw[hrun];refine hn _ _ ?_
    exact nj hS (es:=[]) (us:=us) (t:=e) (lo:=0) (hi:=0) (sz:=sz) (cap:=c) (w':=w.alloc (.cells us e)) rfl rfl rfl rfl hsz (fun x hx=>by simp at hx) (fun x hx=>by simp at hx) (bh _)
     (by simp[us]) (.inl (aR _)) (fun j c hc=>by simp at hc)
   ·cases h3
  ·cases ht
 ·cases ht
def YS{id:Nat}{q:Option (PV×St)}{r:PV×St}(h:lu id S q=some r):q=some r:=by
 cases q with
 |none=>cases h
 |some p=>
  obtain⟨v,S1⟩:=p;simp only[lu]at h;split at h
  ·split at h
   ·exact h
   ·cases h
  ·cases h
def sT{call:aX}(hty:dv X)(hM:eC X)(hC:cW X call)(hS:SR X g S w)(hF:FR X n g w fr a){op:Go.Op}{p:bC}(hc:ay X op p=true){v:PV}{S':St}
  (h:aH X.T call fr S p=some (v,S')):dV X g w a op S' v:=by
 have pureCase:lm p=true→ck S (aQ fr p)=some (v,S')→dV X g w a op S' v:=by
  intro hp hv
  cases hv':aQ fr p with
  |none=>rw[hv']at hv;cases hv
  |some v'=>rw[hv']at hv;cases hv;exact(Xy hty hF hc hp hv').opWp hS
 cases p
 case load ag m mix x=>
  cases mix
  ·cases op<;>simp only[ay]at hc<;>try (cases hc;done)
   simp only[aI]at hc;simp only[aH]at h;split at h
   ·rename_i cs he;split at h
    ·rename_i v' hv;cases h;exact(OI hF hc.1 hc.2 he hv).opWp hS
    ·cases h
   ·rename_i id off he;split at h
    ·rename_i cs hcs;split at h
     ·rename_i v' hv;cases h;exact(OS hS hF hc.1 hc.2 he hcs hv).opWp hS
     ·cases h
    ·cases h
   ·cases h
  ·exact pureCase rfl (by simpa only[aH]using h)
 case loadb b ag m x=>
  cases op<;>simp only[ay]at hc<;>try (cases hc;done)
  simp only[aI]at hc;simp only[aH]at h;split at h
  ·rename_i i o id off hb he;split at h
   ·split at h
    ·rename_i cs hcs;split at h
     ·rename_i v' hv;cases h;exact(OS hS hF hc.1 hc.2 he hcs hv).opWp hS
     ·cases h
    ·cases h
   ·cases h
  ·cases h
 case callb b f args=>
  cases op<;>simp only[ay]at hc<;>try (cases hc;done)
  rw[aI]at hc;simp only[aH]at h;split at h
  ·exact OR (m:=.std) hC hS hF hc.1 hc.2 (YS h)
  ·cases h
 case store m p x=>
  cases op<;>simp only[ay]at hc<;>try (cases hc;done)
  rw[aI,aI]at hc;simp only[aH]at h;split at h
  ·rename_i id off he;split at h
   ·rename_i cs hcs;split at h
    ·rename_i hcond;cases h;exact OT hS hF hc.1.1 hc.1.2 hc.2 he hcs hcond.1 hcond.2.1 hcond.2.2
    ·cases h
   ·cases h
  ·cases h
 case stb l m p x=>
  cases op<;>simp only[ay]at hc<;>try (cases hc;done)
  rw[aI,aI]at hc;simp only[aH]at h;split at h
  ·rename_i id off he;split at h
   ·rename_i cs hcs;split at h
    ·rename_i hcond;cases h;exact OT hS hF hc.1.1 hc.1.2 hc.2 he hcs hcond.2.1 hcond.2.2.1 hcond.2.2.2
    ·cases h
   ·cases h
  ·cases h
 case box ro x=>
  cases op<;>simp only[ay]at hc<;>try (cases hc;done)
  simp only[aH]at h;split at h
  ·rename_i hone;simp only[ae]at h;exact YI hS hF hc hone h
  ·cases h
 case alloc ro z=>
  cases op<;>simp only[ay]at hc<;>try (cases hc;done)
  simp only[aH]at h;split at h
  ·simp only[ae]at h;exact YJ hS hc h
  ·cases h
 case bsl ro ze len parts=>
  cases op<;>simp only[ay]at hc<;>try (cases hc;done)
  simp only[aH]at h;split at h
  ·rename_i es hes;simp only[ae]at h;unfold cx at hes;split at hes
   ·rename_i hcond;exact YL hS hF hc hcond.1 hcond.2.1 hcond.2.2 hes h
   ·cases hes
  ·cases h
 case app sz bytes s x=>
  cases op<;>simp only[ay]at hc<;>try (cases hc;done)
  split at hc
  ·rename_i h1 h2 h3;rw[aI,aI]at hc;simp only[aH]at h;split at h
   ·rename_i new hnew;split at h
    ·rename_i hpos;exact YM hS hF h1 h2 h3 hc.1.1 hc.1.2 hc.2 hpos hnew h
    ·cases h
   ·cases h
  ·cases hc
 case gapp sz bytes s x=>
  cases op<;>simp only[ay]at hc<;>try (cases hc;done)
  split at hc
  ·rename_i h1 h2 h3;rw[aI,aI]at hc;simp only[aH]at h;split at h
   ·rename_i new hnew;split at h
    ·rename_i hpos;exact YN hS hF h1 h2 h3 hc.1.1 hc.1.2 hc.2 hpos hnew h
    ·cases h
   ·cases h
  ·cases hc
 case emp0=>
  cases op<;>simp only[ay]at hc<;>try (cases hc;done)
  split at hc
  ·rename_i heq;cases heq;simp only[aH]at h;cases h;exact YO hS hc
  ·cases hc
 case toStrO x=>
  cases op<;>simp only[ay]at hc<;>try (cases hc;done)
  rw[aI,aI]at hc;simp only[aH]at h;have viaPure:=fun(q:PV) (e1:aQ fr (.toStr x)=some q)=>(OJ hF hc.1.1 hc.1.2 hc.2 e1).opWp hS;split at h
  ·rename_i id off len sz he;split at h
   ·rename_i cs hcs;split at h
    ·rename_i hq;split at h
     ·rename_i s hb;cases h;exact(Xx hS hF hc.1.1 hc.1.2 hc.2 he hcs hq.2 hb).opWp hS
     ·cases h
    ·cases h
   ·cases h
  ·rename_i he;cases h;exact viaPure _ (by simp only[aQ,he])
  ·rename_i he;cases h;exact viaPure _ (by simp only[aQ,he])
  ·rename_i he;split at h
   ·rename_i s hb;cases h;exact viaPure _ (by simp only[aQ,he,hb])
   ·cases h
  ·cases h
 case gclr sz z x=>
  cases op<;>simp only[ay]at hc<;>try (cases hc;done)
  split at hc
  ·rename_i h1 h2 h3;rw[aI]at hc;simp only[aH]at h;split at h
   ·rename_i id off len sz' he;split at h
    ·rename_i cs hcs;split at h
     ·rename_i hq;obtain⟨rfl,hpos,hz,hone,hoff⟩:=hq;cases h;exact YP hS hF h1 h2 h3 hc.1 hc.2 he hcs hpos hz hone hoff
     ·cases h
    ·cases h
   ·cases h
  ·cases hc
 case toBytes ro x=>
  cases op<;>simp only[ay]at hc<;>try (cases hc;done)
  rw[aI,aI]at hc;simp only[aH]at h;split at h
  ·rename_i s he;simp only[ae]at h;exact YK hS hF hc.1.1 hc.1.2 hc.2 he h
  ·cases h
 case mks sz bytes c=>
  cases op<;>simp only[ay]at hc<;>try (cases hc;done)
  split at hc
  ·rename_i e1 e2 e3;cases e3;rw[aI]at hc;simp only[aH]at h;split at h
   ·rename_i m he;split at h
    ·rename_i hcond;cases h;exact YR hS hF hc.1 hc.2 he hcond.1 hcond.2.1 hcond.2.2.1 hcond.2.2.2
    ·cases h
   ·cases h
  ·cases hc
 case mko sz bytes z c=>
  cases op<;>simp only[ay]at hc<;>try (cases hc;done)
  split at hc
  ·rename_i e1 e2 e3;cases e3;rw[aI]at hc;simp only[aH]at h;split at h
   ·rename_i m he;split at h
    ·rename_i hcond;obtain⟨q1,q2,q3,q4,q5,q6⟩:=hcond;cases h;exact YQ hS hF hc.1 hc.2 he q1 q2 q3 q4 q5
    ·cases h
   ·cases h
  ·cases hc
 case mkm=>
  cases op<;>simp only[ay]at hc<;>try (cases hc;done)
  split at hc
  ·simp only[aH]at h;rename_i heq;cases heq;cases h;exact Yx hS
  ·cases hc
 case mlk ks ok z x k=>
  cases op<;>simp only[ay]at hc<;>try (cases hc;done)
  simp only[aI,beq_iff_eq]at hc;obtain⟨⟨⟨⟨rfl,h1⟩,h2⟩,h3⟩,h4⟩:=hc;simp only[aH]at h;split at h
  ·rename_i hk
   have hv:∃q,(match ev fr x with
    |.nilm=>some (gz ok z none)
    |.map id=>(match S.objs[id]? with
     |some cs=>(match iO (ev fr k) cs with|some r=>some (gz ok z r)|none=>none)
     |none=>none)
    |_=>none)=some q∧v=q∧S'=S:=by
    split at h
    ·rename_i e;cases h;exact⟨_,by simp only[e],rfl,rfl⟩
    ·rename_i id e;split at h
     ·rename_i cs e2;split at h
      ·rename_i r e3;cases h;exact⟨_,by simp only[e,e2,e3],rfl,rfl⟩
      ·cases h
     ·cases h
    ·cases h
   obtain⟨q,e1,rfl,rfl⟩:=hv;exact(Yp hS hF h1 h2 h3 h4 hk e1).opWp hS
  ·cases h
 case plk ar ok z x k=>
  cases op<;>simp only[ay]at hc<;>try (cases hc;done)
  simp only[aI,beq_iff_eq]at hc;obtain⟨⟨⟨⟨rfl,h1⟩,h2⟩,h3⟩,h4⟩:=hc;simp only[aH]at h;split at h
  ·rename_i id he;split at h
   ·rename_i cs hcs;split at h
    ·rename_i hk;cases h;exact(ZE hS hF h1 h2 h3 h4 he hcs hk.1 hk.2).opWp hS
    ·cases h
   ·cases h
  ·cases h
 case pset ar x k y=>
  cases op<;>simp only[ay]at hc<;>try (cases hc;done)
  simp only[aI]at hc;obtain⟨⟨⟨h1,h2⟩,h3⟩,h4⟩:=hc;simp only[aH]at h;split at h
  ·rename_i id he;split at h
   ·rename_i cs hcs;split at h
    ·rename_i hk;cases h;exact ZF hS hF h1 h2 h3 h4 he hcs hk.1 hk.2.1 hk.2.2
    ·cases h
   ·cases h
  ·cases h
 case msb l ks x k y=>
  cases op<;>simp only[ay]at hc<;>try (cases hc;done)
  simp only[aI]at hc;obtain⟨⟨⟨h1,h2⟩,h3⟩,h4⟩:=hc;simp only[aH]at h;split at h
  ·rename_i id he;split at h
   ·rename_i cs hcs;split at h
    ·rename_i ds hds;split at h
     ·rename_i hk;cases h;exact Om hS hF h1 h2 h3 h4 he hcs hk.2 hds
     ·cases h
    ·cases h
   ·cases h
  ·cases h
 case mset ks x k y=>
  cases op<;>simp only[ay]at hc<;>try (cases hc;done)
  simp only[aI]at hc;obtain⟨⟨⟨h1,h2⟩,h3⟩,h4⟩:=hc;simp only[aH]at h;split at h
  ·rename_i id he;split at h
   ·rename_i cs hcs;split at h
    ·rename_i ds hds;split at h
     ·rename_i hk;cases h;exact Om hS hF h1 h2 h3 h4 he hcs hk hds
     ·cases h
    ·cases h
   ·cases h
  ·cases h
 case mdel ks x k=>
  cases op<;>simp only[ay]at hc<;>try (cases hc;done)
  split at hc
  ·rename_i e1 e2 e3;simp only[aI]at hc;obtain⟨⟨h1,h2⟩,h3⟩:=hc;simp only[aH]at h;split at h
   ·rename_i id he;split at h
    ·rename_i cs hcs;split at h
     ·rename_i ds hds;split at h
      ·rename_i hk;cases h;exact Yv hS hF e1 e2 e3 h1 h2 h3 he hcs hk hds
      ·cases h
     ·cases h
    ·cases h
   ·cases h
  ·cases hc
 case mlen x=>
  cases op<;>simp only[ay]at hc<;>try (cases hc;done)
  split at hc
  ·rename_i e1 e2 e3;simp only[aI]at hc;simp only[aH]at h
   have hv:∃q,(match ev fr x with
    |.nilm=>some (PV.int .i64 0)
    |.map id=>(match S.objs[id]? with|some cs=>some (.int .i64 ((cs.length/2:Nat):Int))|none=>none)
    |_=>none)=some q∧v=q∧S'=S:=by
    split at h
    ·rename_i e;cases h;exact⟨_,by simp only[e],rfl,rfl⟩
    ·rename_i id e;split at h
     ·rename_i cs e2;cases h;exact⟨_,by simp only[e,e2],rfl,rfl⟩
     ·cases h
    ·cases h
   obtain⟨q,k1,rfl,rfl⟩:=hv;exact(Yr hS hF e1 e2 e3 hc.1 hc.2 k1).opWp hS
  ·cases hc
 case slc3 sz lo hi mx x=>
  cases op<;>simp only[ay]at hc<;>try (cases hc;done)
  split at hc
  ·rename_i heq;cases heq;simp only[aI]at hc;obtain⟨⟨⟨⟨h1,h2⟩,h3⟩,h4⟩,h5⟩:=hc;simp only[aH]at h;exact Yz hS hF h1 h2 h3 h4 h5 h
  ·cases hc
 case call m f args=>
  cases op<;>simp only[ay]at hc<;>try (cases hc;done)
  rw[aI]at hc;simp only[aH]at h;exact OR hC hS hF hc.1 hc.2 h
 case callv m x args=>
  cases op<;>simp only[ay]at hc<;>try (cases hc;done)
  rw[aI]at hc;simp only[aH]at h;split at h
  ·rename_i f caps he;exact YF hC hS hF hc.1 hc.2 he h
  ·rename_i f first he
   exact YG hC hS hF hc.1 hc.2 he h
  ·cases h
 case inv cm m x args=>
  cases op<;>simp only[ay]at hc<;>try (cases hc;done)
  rw[aI]at hc;simp only[aH]at h;split at h
  ·rename_i t v0 he;split at h
   ·rename_i f hm;exact YH hM hC hS hF hc.1 hc.2 he hm h
   ·cases h
  ·cases h
 case bad=>simp only[aH]at h;cases h
 case nst=>cases op<;>(simp only[ay]at hc;cases hc)
 case men=>cases op<;>(simp only[ay]at hc;cases hc)
 case est=>cases op<;>(simp only[ay]at hc;cases hc)
 case wc=>simp only[aH]at h;cases h
 case pan=>simp only[aH]at h;cases h
 case rcv=>simp only[aH]at h;cases h
 all_goals exact pureCase rfl (by simpa only[aH]using h)
end
end Ps
set_option linter.defProp false
namespace Ps
open Go
def pr(ops:Array Oper):Option (Nat×Bool)→Option (Nat×Bool)→Bool
 |none,none=>true
 |some (j,b),some (t,c)=>b==c&&(ops[j]?).bind (·.dst)==some t
 |_,_=>false
def dL(X:Tie)(n:Nat)(ops:Array Oper)(o:Oper)(p:aA):Bool:=
 p.dst==o.dst&&(match o.dst with|some d=>decide (d<n)|none=>true)&&ay X o.op p.op&&pr ops o.guard p.guard
def dX(X:Tie)(n:Nat)(ops:Array Oper):List Oper→List aA→Bool
 | [],[]=>true
 |o::l,p::m=>dL X n ops o p&&dX X n ops l m
 |_,_=>false
section
variable {X : Tie} {g : Gh} {w : World} {n : Dn} {fr : Fr} {a : Act} {S : St}
def iT(hF:FR X n g w fr a){ops:Array Oper}{o:Oper}{gd:Option (Nat×Bool)}(h:pr ops o.guard gd=true){b:Bool}(hb:bW fr gd=some b) :
  Region.wanted o (yielded ops a.tmps)=b:=by
 obtain⟨dst,op,type,pos,after,guard⟩:=o
 cases guard with
 |none=>
  cases gd with
  |none=>simp[bW]at hb;subst hb;rfl
  |some q=>simp[pr]at h
 |some q=>
  obtain⟨j,c⟩:=q
  cases gd with
  |none=>simp[pr]at h
  |some q'=>
   obtain⟨t,d⟩:=q';simp only[pr,aI,beq_iff_eq]at h;obtain⟨rfl,h⟩:=h;have r:=hF.at_ t;simp only[bW]at hb;simp only[Region.wanted,yielded,h,tz];split at hb
   ·rename_i q e;cases hb;rw[e]at r
    cases ht:a.tmps[t]? with
    |none=>simp[eG,ht,undef]at r;cases r
    |some u=>
     simp[eG,ht]at r;cases r;simp
   ·rename_i e;cases hb;rw[e]at r
    cases ht:a.tmps[t]? with
    |none=>simp
    |some u=>
     simp[eG,ht]at r;cases r;simp
   ·cases hb
inductive lD(X:Tie)(n:Nat)(ops:Array Oper):List Nat→List aA→Prop where
 |nil:lD X n ops [] []
 |cons (i:Nat) (o:Oper) (p:aA) (l:List Nat) (ps:List aA) (hi:ops[i]?=some o) (hc:dL X n ops o p=true) (h:lD X n ops l ps):lD X n ops (i::l) (p::ps)
def pt(X:Tie)(g:Gh)(w:World):VR X g w (.tup []) undef:=.tup [] #[] rfl (fun j c u h=>by simp at h)
def YT{call:aX}(hty:dv X)(hM:eC X)(hC:cW X call){ops:Array Oper}{Q:Exit→Act→World→Prop}{fr':Fr}{S':St}:∀{l:List Nat} {ps:List aA} {g:Gh} {w:World} {fr:Fr} {S:St} {a:Act},
  lD X n ops l ps→SR X g S w→FR X n g w fr a→aY X.T call ps fr S=some (fr',S') →
  (∀g' w' a',Le g w g' w'→SR X g' S' w'→FR X n g' w' fr' a'→Q .normal a' w')→wpOps X.P ops Q l a w:=by
 intro l ps g w fr S a hf
 induction hf generalizing g w fr S a with
 |nil=>
  intro hS hF h hQ;simp only[aY,ae,ba]at h;obtain⟨rfl,rfl⟩:=h
  exact hQ g w a (Le.refl g w) hS hF
 |cons i o p l ps hi hc _ ih=>
  intro hS hF h hQ;simp only[dL,aI,beq_iff_eq]at hc;obtain⟨⟨⟨hd,hlt⟩,hop⟩,hgd⟩:=hc
  have hdl:∀t,p.dst=some t→t<n:=by
   intro t ht;rw[hd]at ht;rw[ht]at hlt;simpa using hlt
  simp only[wpOps,hi];simp only[aY]at h;split at h
  ·cases h
  ·rename_i hw;rw[iT hF hgd hw,if_neg (by simp)];rw[←hd];exact ih hS (hF.put hdl (pt X g w)) h hQ
  ·rename_i hw;rw[iT hF hgd hw,if_pos rfl];split at h
   ·rename_i v S1 hst;left
    have:=sT hty hM hC hS hF hop hst o.dst o.type o.pos o.after o.guard (wpOps X.P ops Q l) Q (fun u w' hstep=>by
     obtain⟨g',hle,hS',hv⟩:=hstep;rw[←hd];exact ih hS' ((hF.mono hle).put hdl hv) h (fun g2 w2 a2 hle2 hS2 hF2=>hQ g2 w2 a2 (hle.trans hle2) hS2 hF2))
    exact this
   ·cases h
theorem yJ{ops:Array Oper}:∀{l:List Oper} {ps:List aA} (k:Nat),(∀j,l[j]?=ops[k+j]?)→dX X n ops l ps=true→lD X n ops (List.range' k l.length) ps
 | [],[],_,_,_=>.nil
 |o::l,p::ps,k,hk,h=>by
  simp only[dX,aI]at h;simp only[bE,lS]
  exact .cons k o p _ ps (by simpa using (hk 0).symm) h.1 (yJ (k+1) (fun j=>by have:=hk (j+1);simpa[fq,gL 1 j]using this) h.2)
 | [],_::_,_,_,h=>by simp[dX]at h
 |_::_,[],_,_,h=>by simp[dX]at h
end
end Ps
