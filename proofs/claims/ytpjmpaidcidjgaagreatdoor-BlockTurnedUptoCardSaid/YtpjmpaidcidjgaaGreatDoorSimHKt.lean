/- Memory: stores and new blocks. -/
import Derived.Test.YtpjmpaidcidjgaaGreatDoorAbbKt
import Derived.Test.YtpjmpaidcidjgaaGreatDoorSimFKt
set_option linter.defProp false
namespace Ps
open Go
section
variable {X : Tie} {g : Gh} {w : World} {n : Dn} {fr : Fr} {a : Act}
def OJ(hF:FR X n g w fr a){x:aG}{x':Operand}{s d:TypeId}
  (hs:(match X.P.underlying s with|some (.slice e)=>gB X.P e .u8&&(match X.P.info? e with|some i=>i.size==1|none=>false)|_=>false)=true)
  (hd:fc X.P d=true)(hx:aK X x' x=true){v:PV}(hv:aQ fr (.toStr x)=some v):bk X g w a (.convert s d x') v:=by
 intro dst ty pos after guard;have r:=af hF hx;split at hs
 ·rename_i e he;simp only[aI]at hs;have hu8:=pi hs.1;simp only[aQ]at hv;split at hv
  ·rename_i e1;rw[e1]at r;cases hv;generalize hu1:a.eval x'=u1 at r;cases r;refine⟨.string .empty,?_,.str _⟩;simp[execOp,hu1,convert,run_underlying he,run_underlying (kz hd),run_underlying hu8,Conv.bytesToString]
  ·rename_i e1;rw[e1]at r;cases hv;generalize hu1:a.eval x'=u1 at r
   cases r with
   |emp aa=>
   refine⟨.string .empty,?_,.str _⟩;have hcells:(loadCells aa 0).run X.P w=.ok (([]:List Int).map (Value.int .u8)).toArray w:=by simp[loadCells,loadCellsFrom]
   have hbs:=run_bytesToString (P:=X.P) w aa 0 0 [] hcells;simp only[execOp,Sem.run_bind,hu1,run_convert_bytes_string w s d e _ _ _ he hu8 (kz hd),hbs,Result.andThen_ok];rw[foldl_push_bytes];simp<;>rfl
  ·rename_i tip es sp e1;rw[e1]at r;split at hv
   ·rename_i str hb;cases hv;obtain⟨h1,h2,ns,h3,h4⟩:=xn hb;generalize hu1:a.eval x'=u1 at r
    cases r with
    |slz aa=>
     refine⟨.string ⟨str.toArray⟩,?_,.str _⟩;have hns:ns=[]:=by simpa using h3.symm
     subst hns;have hcells:(loadCells aa 0).run X.P w=.ok (([]:List Int).map (Value.int .u8)).toArray w:=by simp[loadCells,loadCellsFrom]
     have hbs:=run_bytesToString (P:=X.P) w aa 0 0 [] hcells;simp only[execOp,Sem.run_bind,hu1,run_convert_bytes_string w s d e _ _ _ he hu8 (kz hd),hbs,Result.andThen_ok];rw[foldl_push_bytes,←h4]
     simp
    |sl _ _ _ b o cap sz' us hcap hpos hszs hpub hc hvs hlink=>
     refine⟨.string ⟨str.toArray⟩,?_,.str _⟩
     have hcells:(loadCells ⟨b,o,none⟩ es.length).run X.P w=.ok (ns.map (Value.int .u8)).toArray w:=by
      have hlen:es.length=ns.length:=by rw[h3];simp
      cases hes:es with
      |nil=>
       have:ns=[]:=by rw[hes]at h3;simpa using h3.symm
       subst this
       simp[loadCells,loadCellsFrom]
      |cons y ys=>
       have hsz1:sz'=1:=by
        have hy:y∈es++sp:=by rw[hes];simp
        have hy2:y∈es:=by rw[hes];simp
        rw[←hszs y hy,h2 y hy2];rfl
       subst hsz1;rw[←hes,hlen]
       have:=run_loadCells_list (P:=X.P) w ⟨b,o,none⟩ (ns.map (Value.int .u8)) (fun j v hj=>by
        have hjl:j<ns.length:=by
         have:=(aL.1 hj).1;simpa using this
        have hv:v=.int .u8 ns[j]:=by
         simp[hjl]at hj;exact hj.symm
        have hel:es[j]?=some (.int .u8 ns[j]):=by rw[h3];simp[hjl]
        have hf:=ky hszs (i:=j) (e:=.int .u8 ns[j]) (by rw[aw (by omega)];exact hel) 0 (by omega);rw[mt,eo]at hf;have hcell:=hc j (by rw[mt];omega);have hr:=hvs j (.int .u8 ns[j]) (by rw[hf];rfl);rw[eV,hcell,hv];generalize us j=q at hr;cases hr;rfl)
       simpa using this
     have hbs:=run_bytesToString (P:=X.P) w ⟨b,o,none⟩ es.length cap ns hcells;simp only[execOp,Sem.run_bind,hu1,run_convert_bytes_string w s d e _ _ _ he hu8 (kz hd),hbs,Result.andThen_ok];rw[foldl_push_bytes,←h4];simp
   ·cases hv
  ·cases hv
 ·cases hs
def Xx{S:St}(hS:SR X g S w)(hF:FR X n g w fr a){x:aG}{x':Operand}{s d:TypeId}{id off len sz:Nat}{cs:List PV}{str:List UInt8}
  (hs:(match X.P.underlying s with|some (.slice e)=>gB X.P e .u8&&(match X.P.info? e with|some i=>i.size==1|none=>false)|_=>false)=true)
  (hd:fc X.P d=true)(hx:aK X x' x=true)(he1:ev fr x=.osl id off len sz)(hcs:S.objs[id]?=some cs)(hoff:off+len≤cs.length)(hb:jE ((cs.drop off).take len)=some str) :
  bk X g w a (.convert s d x') (.str str):=by
 intro dst ty pos after guard;have r:=af hF hx;rw[he1]at r;split at hs
 ·rename_i e he;simp only[aI]at hs;have hu8:=pi hs.1;obtain⟨h1,h2,ns,h3,h4⟩:=xn hb;generalize hu1:a.eval x'=u1 at r
  cases r with
  |osl _ _ _ _ cap b hid hl hr=>
   refine⟨.string ⟨str.toArray⟩,?_,.str _⟩;obtain⟨us,hus⟩:=(mN hS hid hcs).drop off;rw[cd]at hus
   have hnl:ns.length=len:=by
    have:=congrArg List.length h3;simp at this;omega
   have hcells:(loadCells ⟨b,off,none⟩ len).run X.P w=.ok (ns.map (Value.int .u8)).toArray w:=by
    have:=run_loadCells_list (P:=X.P) w ⟨b,off,none⟩ (ns.map (Value.int .u8)) (fun j v hj=>by
     have hjl:j<ns.length:=by
      have:=(aL.1 hj).1;simpa using this
     have hv:v=.int .u8 ns[j]:=by
      simp[hjl]at hj;exact hj.symm
     have hel:((cs.drop off).take len)[j]?=some (.int .u8 ns[j]):=by rw[h3];simp[hjl]
     rw[cT (by omega)]at hel;obtain⟨k1,k2⟩:=hus j _ hel;rw[eV,k1,hv];generalize us j=q at k2;cases k2;rfl)
    rw[dN,hnl]at this;exact this
   have hbs:=run_bytesToString (P:=X.P) w ⟨b,off,none⟩ len cap ns hcells;simp only[execOp,Sem.run_bind,hu1,run_convert_bytes_string w s d e _ _ _ he hu8 (kz hd),hbs,Result.andThen_ok];rw[foldl_push_bytes,←h4];simp
 ·cases hs
def Xy(hty:dv X)(hF:FR X n g w fr a){op:Go.Op}{p:bC}(hc:ay X op p=true)(hp:lm p=true){v:PV}(hv:aQ fr p=some v):bk X g w a op v:=by
 cases p<;>simp only[lm]at hp<;>try (cases hp;done)
 case mov y=>simp only[aQ,ae]at hv;subst hv;exact xu hF hc
 case pick c x y=>
  cases op<;>simp only[ay]at hc<;>try (cases hc;done)
  simp only[aI]at hc;exact XS hF hc.1.1 hc.1.2 hc.2 hv
 case nilck x=>
  cases op<;>simp only[ay]at hc<;>try (cases hc;done)
  exact XT hF hc hv
 case arith o x y=>
  cases op<;>simp only[ay]at hc<;>try (cases hc;done)
  simp only[aI,beq_iff_eq]at hc;obtain⟨⟨rfl,h1⟩,h2⟩:=hc;exact XU hF h1 h2 hv
 case eqb neg x y=>
  cases op<;>simp only[ay]at hc<;>try (cases hc;done)
  simp only[aI,beq_iff_eq]at hc;obtain⟨⟨⟨rfl,h0⟩,h1⟩,h2⟩:=hc;exact XV hF h0 h1 h2 hv
 case eqn neg k x=>
  cases op<;>simp only[ay]at hc<;>try (cases hc;done)
  simp only[aI,beq_iff_eq]at hc;obtain⟨⟨rfl,h0⟩,h1⟩:=hc;exact XW hF h0 h1 hv
 case eqa neg isb m x y=>
  cases op<;>simp only[ay]at hc<;>try (cases hc;done)
  simp only[aI,beq_iff_eq]at hc;obtain⟨⟨⟨rfl,h0⟩,h1⟩,h2⟩:=hc;exact XX hF h0 h1 h2 hv
 case eqs neg m x y=>
  cases op<;>simp only[ay]at hc<;>try (cases hc;done)
  simp only[aI,beq_iff_eq]at hc;obtain⟨⟨⟨rfl,h0⟩,h1⟩,h2⟩:=hc;exact XY hF h0 h1 h2 hv
 case un o x=>
  cases op<;>simp only[ay]at hc<;>try (cases hc;done)
  simp only[aI,beq_iff_eq]at hc;obtain⟨rfl,h1⟩:=hc;exact XZ hF h1 hv
 case toInt k x=>
  cases op<;>simp only[ay]at hc<;>try (cases hc;done)
  simp only[aI]at hc;exact Xa hF hc.1.1 hc.1.2 hc.2 hv
 case strId x=>
  cases op<;>simp only[ay]at hc<;>try (cases hc;done)
  simp only[aI]at hc;exact Xb hF hc.1.1 hc.1.2 hc.2 hv
 case toStr x=>
  cases op<;>simp only[ay]at hc<;>try (cases hc;done)
  rw[aI,aI]at hc;exact OJ hF hc.1.1 hc.1.2 hc.2 hv
 case field ag off m x=>
  cases op<;>simp only[ay]at hc<;>try (cases hc;done)
  rw[aI]at hc;exact Xc hF hc.1 hc.2 hv
 case build z parts=>
  cases op<;>simp only[ay]at hc<;>try (cases hc;done)
  rw[aI]at hc;exact Xj hF hc.1 hc.2 hv
 case mkif t x=>
  cases op<;>simp only[ay]at hc<;>try (cases hc;done)
  simp only[aI,beq_iff_eq]at hc;obtain⟨⟨rfl,h1⟩,h2⟩:=hc;simp only[aQ,ae]at hv;subst hv;exact Xd hF h1 h2
 case mkfn f caps=>
  cases op<;>simp only[ay]at hc<;>try (cases hc;done)
  split at hc
  ·rename_i heq;cases heq;simp only[aI,beq_iff_eq]at hc;obtain⟨⟨rfl,h1⟩,h2⟩:=hc;simp only[aQ,ae]at hv;subst hv;exact Xe hF h1 h2
  ·cases hc
 case mkbfn f first=>
  cases op<;>simp only[ay]at hc<;>try (cases hc;done)
  split at hc
  ·rename_i heq;cases heq;simp only[aI,beq_iff_eq]at hc;obtain⟨⟨rfl,h1⟩,h2⟩:=hc;simp only[aQ,ae]at hv;subst hv;exact Xf hF h1 h2
  ·cases hc
 case extract i x=>
  cases op<;>simp only[ay]at hc<;>try (cases hc;done)
  simp only[aI,beq_iff_eq]at hc;obtain⟨rfl,h1⟩:=hc;exact Xg hF h1 hv
 case emp3 x=>
  cases op<;>simp only[ay]at hc<;>try (cases hc;done)
  split at hc
  ·rename_i heq;cases heq;rw[aI]at hc;exact Xp hF hc.1 hc.2 hv
  ·cases hc
 case assert t ok z x=>
  cases op<;>simp only[ay]at hc<;>try (cases hc;done)
  simp only[aI,beq_iff_eq]at hc;obtain⟨⟨⟨⟨rfl,rfl⟩,h1⟩,h2⟩,h3⟩:=hc;exact Xh hty hF h1 h2 h3 hv
 case asrI l x=>
  cases op<;>simp only[ay]at hc<;>try (cases hc;done)
  rename_i y xT u ok;cases ok
  ·simp at hc
  ·simp only[aI]at hc;obtain⟨h1,h2⟩:=hc;split at h1
   ·rename_i want hu;exact Xi hF hu h1 h2 hv
   ·cases h1
 case idxs x i=>
  cases op<;>simp only[ay]at hc<;>try (cases hc;done)
  simp only[aI]at hc;exact Xk hF hc.1.1 hc.1.2 hc.2 hv
 case idxa len m ag x i=>
  cases op<;>simp only[ay]at hc<;>try (cases hc;done)
  rw[aI,aI]at hc;exact Xl hF hc.1.1 hc.1.2 hc.2 hv
 case slcs lo hi x=>
  cases op<;>simp only[ay]at hc<;>try (cases hc;done)
  split at hc
  ·rename_i heq;cases heq;simp only[aI]at hc;exact Xn hF hc.1.1.1 hc.1.1.2 hc.1.2 hc.2 hv
  ·cases hc
 case slc sz lo hi x=>
  cases op<;>simp only[ay]at hc<;>try (cases hc;done)
  split at hc
  ·rename_i heq;cases heq;simp only[aI]at hc;exact Xo hF hc.1.1.1 hc.1.1.2 hc.1.2 hc.2 hv
  ·cases hc
 case slca len sz lo hi x=>
  cases op<;>simp only[ay]at hc<;>try (cases hc;done)
  split at hc
  ·rename_i heq;cases heq;simp only[aI]at hc;exact Xq hF hc.1.1.1 hc.1.1.2 hc.1.2 hc.2 hv
  ·cases hc
 case faddr off x=>
  cases op<;>simp only[ay]at hc<;>try (cases hc;done)
  rw[aI]at hc;exact Xr hF hc.1 hc.2 hv
 case iaddr sz x i=>
  cases op<;>simp only[ay]at hc<;>try (cases hc;done)
  simp only[aI]at hc;exact Xs hF hc.1.1 hc.1.2 hc.2 hv
 case iaddra len sz x i=>
  cases op<;>simp only[ay]at hc<;>try (cases hc;done)
  simp only[aI]at hc;exact Xt hF hc.1.1 hc.1.2 hc.2 hv
 case len st x=>
  cases op<;>simp only[ay]at hc<;>try (cases hc;done)
  split at hc
  ·rename_i h1 h2 h3;rw[aI]at hc;exact Xu hF h1 h2 h3 hc.1 hc.2 hv
  ·cases hc
 case mnmx mx x y=>
  cases op<;>simp only[ay]at hc<;>try (cases hc;done)
  split at hc
  ·rename_i h1 h2;simp only[aI]at hc;obtain⟨⟨rfl,h3⟩,h4⟩:=hc;exact OH hF h1 h2 h3 h4 hv
  ·rename_i h1 h2;simp only[aI,fV]at hc;obtain⟨⟨rfl,h3⟩,h4⟩:=hc;exact OH hF h1 h2 h3 h4 hv
  ·cases hc
 case load ag m mix x=>
  subst hp;cases op<;>simp only[ay]at hc<;>try (cases hc;done)
  simp only[aI]at hc;simp only[aQ]at hv;split at hv
  ·rename_i cs he;exact OI hF hc.1 hc.2 he hv
  ·cases hv
end
end Ps
set_option linter.defProp false
namespace Ps
open Go
section
variable {X : Tie} {g : Gh} {w : World} {n : Dn} {fr : Fr} {a : Act} {S : St}
structure ni(w w':World)(b o:Nat)(us us':Array Value)(t:TypeId)(fz:Nat×Nat)(vs:List Value):Prop where
 os:w'.os=w.os
 tape:w'.tape=w.tape
 output:w'.output=w.output
 size:w'.heap.size=w.heap.size
 block:w'.heap[b]?=some (.cells us' t fz)
 len:us'.size=us.size
 get:∀k,us'[k]?=if o≤k∧k<o+vs.length then vs[k-o]? else us[k]?
 other:∀b',b'≠b→w'.heap[b']?=w.heap[b']?
theorem pn(P:Program)(b o:Nat)(t:TypeId)(lo hi:Nat):∀(vs:List Value) (i:Nat) (w:World) (us:Array Value),
  w.heap[b]?=some (.cells us t (lo,hi))→(hi≤lo∨us.size≤lo)→o+i+vs.length≤us.size→(∀v∈vs,v.oneCell'=true) →
  ∃w' us',(storeCells ⟨b,o,none⟩ vs i).run P w=.ok () w'∧ni w w' b (o+i) us us' t (lo,hi) vs
 | [],i,w,us,hb,_,_,_=>⟨w,us,rfl,rfl,rfl,rfl,rfl,hb,rfl,fun k=>by rw[if_neg (by simp only[cP];omega)],fun _ _=>rfl⟩
 |v::vs,i,w,us,hb,hfz,hl,hone=>by
  simp only[bE]at hl
  have hcell:w.cell? ⟨b,o+i,none⟩=some (us[o+i]'(by omega)):=by
   simp[World.cell?,hb]
  have hfr:w.frozen? ⟨b,o+i,none⟩=false:=by
   simp only[World.frozen?,hb];rcases hfz with h|h
   ·simp;omega
   ·simp;omega
  have hst:(store ((⟨b,o,none⟩:Addr).add i) v).run P w=.ok () (w.setCell ⟨b,o+i,none⟩ v):=by
   rw[eV,run_store P w _ v .plain (hone v (by simp)),hcell];simp[hfr]
  have hb':(w.setCell ⟨b,o+i,none⟩ v).heap[b]?=some (.cells (us.setIfInBounds (o+i) v) t (lo,hi)):=by
   simp[World.setCell,lO,hb]
  obtain⟨w',us',h1,h2⟩:=pn P b o t lo hi vs (i+1) (w.setCell ⟨b,o+i,none⟩ v) (us.setIfInBounds (o+i) v) hb' (by simpa using hfz) (by simp;omega)
   (fun x hx=>hone x (by simp[hx]))
  refine⟨w',us',?_,h2.os,h2.tape,h2.output,?_,h2.block,?_,?_,?_⟩
  ·simp only[storeCells,Sem.run_bind,hst,Result.andThen_ok];exact h1
  ·rw[h2.size];simp
  ·rw[h2.len];simp
  ·intro k;rw[h2.get k];simp only[bE];by_cases hk:k=o+i
   ·subst hk;rw[if_neg (by omega),if_pos (by omega)];have:o+i<us.size:=by omega
    simp[this]
   ·rw[fJ (by omega)];by_cases hc:o+(i+1)≤k∧k<o+(i+1)+vs.length
    ·rw[if_pos hc,if_pos (by omega)];obtain⟨m,rfl⟩:∃m,k=o+i+1+m:=⟨k-(o+i+1),by omega⟩;rw[show o+i+1+m-(o+i)=m+1 by omega,show o+i+1+m-(o+(i+1))=m by omega];simp
    ·rw[if_neg hc,if_neg (by omega)]
  ·intro b' hne;rw[h2.other b' hne];simp only[World.setCell,lO];rw[if_neg (by omega)]
def ni.cell{w w':World}{b o:Nat}{us us':Array Value}{t:TypeId}{fz:Nat×Nat}{vs:List Value}(h:ni w w' b o us us' t fz vs)(hb:w.heap[b]?=some (.cells us t fz))
  {b' k:Nat}(hk:b'≠b∨k<o):w'.cell? ⟨b',k,none⟩=w.cell? ⟨b',k,none⟩:=by
 by_cases e:b'=b
 ·subst e;have hk:k<o:=hk.resolve_left (by simp);have:=h.get k;rw[if_neg (by omega)]at this;simp only[World.cell?,h.block,hb];simpa using this
 ·simp only[World.cell?,h.other b' e]
def ni.le{w w':World}{b o:Nat}{us us':Array Value}{t:TypeId}{fz:Nat×Nat}{vs:List Value}(h:ni w w' b o us us' t fz vs)(hb:w.heap[b]?=some (.cells us t fz))
  {g':Gh}(hobj:g'.obj=g.obj)(harr:g'.arr=g.arr)(hasz:g'.asz=g.asz)(hpub:∀b',g.pub b'≤g'.pub b')(hpubO:∀b',b'≠b→g'.pub b'=g.pub b')(hin:(∃id,g.obj id=some b)∨g.arr b≠none)(hp:g.pub b≤o)(hmp:g'.mp=g.mp)(hmfz:g'.mfz=g.mfz:=by rfl):Le g w g' w' where
 os:=h.os
 tape:=h.tape
 output:=h.output
 size:=by rw[h.size];exact aR _
 obj:=by rw[hobj];exact fun _ _ e=>e
 arr:=by rw[harr];exact fun _ _ e=>e
 asz:=by rw[hasz];exact fun _ _ e=>e
 pub:=hpub
 cell:=fun b' j hj=>h.cell hb (by
  by_cases e:b'=b
  ·subst e;right;omega
  ·exact .inl e)
 shape:=fun b' us0 t0 fz0 e=>by
  by_cases hne:b'=b
  ·subst hne;rw[hb]at e;cases e;exact⟨us',h.block,h.len⟩
  ·exact⟨us0,by rw[h.other b' hne];exact e,rfl⟩
 objN:=by rw[hobj];exact fun id _ e=>.inl ⟨id,e⟩
 arrN:=by rw[harr];exact fun _ _ e=>.inl e
 keep:=fun b' _ ho ha _=>h.other b' (fun e=>by
  subst e;rcases hin with⟨id,hid⟩|hin
  ·exact ho id hid
  ·exact hin ha)
 pubN:=fun b' _ ho ha _=>hpubO b' (fun e=>by
  subst e;rcases hin with⟨id,hid⟩|hin
  ·exact ho id hid
  ·exact hin ha)
 mp:=by rw[hmp];exact fun _ _ e=>e
 mpN:=by rw[hmp];exact fun _ _ e=>.inl e
 mf:=fun b' es c e1 e2=>⟨by rw[hmfz];exact e1,by
  rw[h.other b' (fun e=>by subst e;rw[hb]at e2;cases e2)];exact e2⟩
def bu(X:Tie)(g:Gh)(w:World)(S':St)(v:PV)(u:Value)(w':World):Prop:=
 ∃g',Le g w g' w'∧SR X g' S' w'∧VR X g' w' v u
def xz(hS:SR X g S w){id off b:Nat}(hid:g.obj id=some b){cs:List PV}(hcs:S.objs[id]?=some cs){vs:List PV}{xs:Array Value}
  (hv:vs.length=xs.size∧∀(j:Nat)(c:PV)(u:Value),vs[j]?=some c→xs[j]?=some u→VR X g w c u)(hone:vs.all PV.one=true)(hoff:off+vs.length≤cs.length) :
  ∃w',(storeCells ⟨b,off,none⟩ xs.toList).run X.P w=.ok () w'∧bu X g w {S with objs:=S.objs.set id (bB cs off vs)} .und undef w':=by
 obtain⟨cs',us,t0,h1,⟨⟨flo,fhi⟩,h2,hfz⟩,h3,h4⟩:=hS.obj id b hid;rw[hcs]at h1;cases h1;obtain⟨c1,c2⟩:=hv;by_cases hlv:bt S id
 rotate_left
 ·have hc0:cs=[]:=by
   cases cs with
   |nil=>rfl
   |cons c l=>exact absurd ⟨c,l,hcs⟩ hlv
  subst hc0;have hm0:vs=[]:=fW.1 (by rw[cP]at hoff;omega);have hu0:xs.toList=[]:=fW.1 (by rw[ii,←c1,hm0];rfl)
  have hset:S.objs.set id []=S.objs:=by
   apply lP;intro i;by_cases hi:i=id
   ·subst hi;rw[dd (aL.1 hcs).1,hcs]
   ·rw[bq (Ne.symm hi)]
  refine⟨w,?_,g,Le.refl g w,?_,.und _⟩
  ·simp[hu0,storeCells]
  ·have:bB [] off vs=[]:=by rw[hm0];simp[bB]
   rw[this,hset];exact hS
 have hpub:=(hS.objpub id b hid).1 hlv
 have hall:∀x∈xs.toList,x.oneCell'=true:=by
  intro x hx;obtain⟨j,hj⟩:=fm hx;have hj':xs[j]?=some x:=by simpa using hj
  have hlt:j<vs.length:=by rw[c1];exact(bc.1 hj').1
  have:=c2 j vs[j] x (by simp[bK hlt]) hj';exact this.one ((List.all_eq_true.1 hone) _ (fK hlt))
 obtain⟨w',us',s1,s2⟩:=pn X.P b off t0 flo fhi xs.toList 0 w us h2 hfz (by simp;omega) hall;rw[eo]at s2;have hle:Le g w g w':=s2.le h2 rfl rfl rfl (fun _=>aR _) (fun _ _=>rfl) (.inl ⟨id,hid⟩) (by omega) rfl;refine⟨w',?_,g,hle,?_,.und _⟩
 ·exact s1
 ·have hlive:∀i,bt {S with objs:=S.objs.set id (bB cs off vs)} i→bt S i:=by
   rintro i ⟨c,l,e⟩;by_cases hi:i=id
   ·subst hi;exact hlv
   ·simp only at e;rw[bq (Ne.symm hi)]at e;exact⟨c,l,e⟩
  refine⟨fun i b' hi=>?_,fun i j b' h1 h2 h3=>hS.inj i j b' h1 h2 (hlive j h3),fun i b' h1=>⟨fun h2=>(hS.objpub i b' h1).1 (hlive i h2),(hS.objpub i b' h1).2⟩,hS.arr,hS.asz,fun b' hb'=>hS.lt b' (by rw[s2.size]at hb';exact hb'),
   hS.maps.of (fun _ _ h=>h) (fun i b' hi=>by
    have:i≠id:=fun e=>by subst e;exact hS.maps.dis _ _ _ hi hid
    simp[bq (Ne.symm this)]) (fun i b' hi=>s2.other b' (fun e=>by
    obtain⟨_,_,_,_,q,_⟩:=hS.maps.ent i b' hi;subst e;rw[h2]at q;cases q)) (fun c u r=>r.mono hle) (fun _ _ _=>⟨rfl,rfl⟩) (fun _ _ _ _ h=>h),hS.gl.le hle⟩
  by_cases hib:i=id
  ·subst hib;rw[hid]at hi;cases hi;refine⟨bB cs off vs,us',t0,by simp[(aL.1 hcs).1],⟨_,s2.block,by rw[s2.len];exact hfz⟩,?_,?_⟩
   ·rw[Nu _ _ _ (by omega),s2.len];exact h3
   ·intro j c x e1 e2;rw[s2.get j]at e2;rw[Nt _ _ _ (by omega)]at e1;by_cases hj:off≤j∧j<off+vs.length
    ·rw[if_pos hj]at e1;rw[if_pos (by simp;omega)]at e2;exact(c2 (j-off) c x e1 (by simpa using e2)).mono hle
    ·rw[if_neg hj]at e1;rw[if_neg (by simp;omega)]at e2;exact(h4 j c x e1 e2).mono hle
  ·obtain⟨cs2,us2,t2,k1,k2,k3,k4⟩:=hS.obj i b' hi;by_cases hbe:b'=b
   ·subst hbe
    have:cs2=[]:=by
     cases cs2 with
     |nil=>rfl
     |cons c l=>
      have q1:=hS.inj id i b' hid hi ⟨c,l,k1⟩;have q2:=hS.inj i id b' hi hid hlv;omega
    subst this;exact⟨[],us',t0,by simp[bq (Ne.symm hib),k1],⟨_,s2.block,by rw[s2.len];exact hfz⟩,bh _,fun j c x e1 _=>by simp at e1⟩
   have hbne:b'≠b:=hbe;exact⟨cs2,us2,t2,by simp[bq (Ne.symm hib),k1],by rw[s2.other b' hbne];exact k2,k3,fun j c x e1 e2=>(k4 j c x e1 e2).mono hle⟩
def Xz(hS:SR X g S w){id off m b:Nat}(hid:g.obj id=some b){cs:List PV}(hcs:S.objs[id]?=some cs){v:PV}{u:Value}(r:VR X g w v u)(hone:v.cells.all PV.one=true)
  (hm:v.cells.length=m)(hoff:off+m≤cs.length){t:TypeId}(hsz:(Go.sizeOf t).run X.P w=.ok m w) :
  ∃w',(Instr.storeAt t (.pointer (some ⟨b,off,none⟩)) u).run X.P w=.ok () w'∧bu X g w {S with objs:=S.objs.set id (bB cs off v.cells)} .und undef w':=by
 obtain⟨w',h1,h2⟩:=xz (off:=off) hS hid hcs (r.cells hone) hone (by omega);refine⟨w',?_,h2⟩;have c1:=(r.cells hone).1;simp only[Instr.storeAt,Instr.sureAddr,Sem.run_bind,Sem.run_pure,Result.andThen_ok,storeVar,hsz];rw[if_neg (by simp;omega)];exact h1
def cj(w:World)(o:Obj)(b:Nat):(w.heap.push o)[b]?=if b=w.heap.size then some o else w.heap[b]?:=by
 rw[Array.getElem?_push]
def lB{w w':World}{o:Obj}{g':Gh}(hh:w'.heap=w.heap.push o)(hos:w'.os=w.os)(htape:w'.tape=w.tape)(hout:w'.output=w.output)
  (hlt:∀b,w.heap.size≤b→g.pub b=0∧g.arr b=none)(hobj:∀id b,g.obj id=some b→g'.obj id=some b)(hobjN:∀id b,g'.obj id=some b→g.obj id=some b∨b=w.heap.size)
  (harr:∀b x,g.arr b=some x→g'.arr b=some x)(harrN:∀b x,g'.arr b=some x→g.arr b=some x∨b=w.heap.size)(hasz:∀id m,g.asz id=some m→g'.asz id=some m)
  (hpub:∀b,b≠w.heap.size→g'.pub b=g.pub b)(hmp:∀id b,g.mp id=some b→g'.mp id=some b)(hmpN:∀id b,g'.mp id=some b→g.mp id=some b∨b=w.heap.size)(hmfz:∀b,g.mfz b=true→g'.mfz b=true:=by exact fun _ h=>h):Le g w g' w' where
 os:=hos
 tape:=htape
 output:=hout
 size:=by rw[hh];simp
 obj:=hobj
 arr:=harr
 asz:=hasz
 pub:=fun b=>by
  by_cases e:b=w.heap.size
  ·have:=(hlt b (by omega)).1;omega
  ·rw[hpub b e];exact aR _
 cell:=fun b j hj=>by
  have e:b≠w.heap.size:=fun e=>by have:=(hlt b (by omega)).1;omega
  simp only[World.cell?,hh,cj,if_neg e]
 shape:=fun b us t fz e=>⟨us,by
  have hb:b<w.heap.size:=(bc.1 e).1;rw[hh,cj,if_neg (by omega)];exact e,rfl⟩
 objN:=fun i b e=>(hobjN i b e).imp (fun h=>⟨i,h⟩) (fun h=>by omega)
 arrN:=fun b x e=>(harrN b x e).imp (fun h=>h) (fun h=>by omega)
 keep:=fun b hb _ _ _=>by rw[hh,cj,if_neg (by omega)]
 pubN:=fun b hb _ _ _=>hpub b (by omega)
 mp:=hmp
 mpN:=fun id b e=>(hmpN id b e).imp (fun h=>h) (fun h=>by omega)
 mf:=fun b es c e1 e2=>⟨hmfz b e1,by
  have hb:b<w.heap.size:=(bc.1 e2).1;rw[hh,cj,if_neg (by omega)];exact e2⟩
def yA(hS:SR X g S w){w':World}{o:Obj}{g':Gh}{S':St}(hh:w'.heap=w.heap.push o)(hvr:∀c u,VR X g w c u→VR X g' w' c u)(hmp:g'.mp=g.mp)(hobj:g'.obj=g.obj)(hobjs:S'.objs=S.objs)
  (hpub:∀b,b≠w.heap.size→g'.pub b=g.pub b) (harr:∀b,b≠w.heap.size→g'.arr b=g.arr b) (hmfz:g'.mfz=g.mfz:=by rfl):hY X g' S' w':=
 hS.maps.of (fun id b h=>by rw[hmp]at h;exact h) (fun i b h=>by rw[hobjs]) (fun i b h=>by
  have:=hS.maps.lt h;rw[hh,cj,if_neg (by omega)]) hvr (fun i b h=>by
  have:=hS.maps.lt h;exact⟨hpub b (by omega),harr b (by omega)⟩) (fun i b c _ h2=>by rw[hobj]at h2;exact h2) (fun id b h=>by rw[hmp];exact h) (fun b h=>by rw[hmfz]at h;exact h)
def OK(hS:SR X g S w){cs:List PV}{us:Array Value}(hv:bD X g w cs us)(t:TypeId):bu X g w (cR S cs).2 (cR S cs).1 (.pointer (some ⟨w.heap.size,0,none⟩)) (w.alloc (.cells us t)):=by
 have hnew:g.obj S.objs.length=none:=by
  cases h:g.obj S.objs.length with
  |none=>rfl
  |some b=>
   obtain⟨cs',us',t',h1,_⟩:=hS.obj _ _ h;rw[cr (aR _)]at h1;cases h1
 let g':Gh:={g with obj:=fun i=>if i=S.objs.length then some w.heap.size else g.obj i}
 have hle:Le g w g' (w.alloc (.cells us t)):=lB rfl rfl rfl rfl hS.lt
  (fun i b h=>by simp only[g'];rw[if_neg (fun e=>by subst e;rw[hnew]at h;cases h)];exact h)
  (fun i b h=>by
   simp only[g']at h;split at h
   ·cases h;exact .inr rfl
   ·exact .inl h)
  (fun _ _ h=>h) (fun _ _ h=>.inl h) (fun _ _ h=>h) (fun _ _=>rfl) (fun _ _ h=>h) (fun _ _ h=>.inl h)
 have hbl:∀i b,g.obj i=some b→b<w.heap.size:=fun i b h=>by
  obtain⟨_,_,_,_,⟨_,h2,_⟩,_⟩:=hS.obj i b h;exact(bc.1 h2).1
 have hol:∀i b,g.obj i=some b→i<S.objs.length:=fun i b h=>by
  obtain⟨_,_,_,h1,_⟩:=hS.obj i b h;exact(aL.1 h1).1
 have hlive:∀i b,g.obj i=some b→bt (cR S cs).2 i→bt S i:=by
  rintro i b h ⟨c,l,e⟩;simp only[cR]at e;rw[aw (hol i b h)]at e;exact⟨c,l,e⟩
 refine⟨g',hle,⟨fun i b h=>?_,fun i j b h1 h2 hl=>?_,fun i b h=>?_,hS.arr,hS.asz,fun b hb=>hS.lt b (by simp at hb;omega),
   hS.maps.of (fun _ _ h=>h) (fun i b h=>by
    obtain⟨_,_,_,q,_⟩:=hS.maps.ent i b h;simp only[cR];rw[aw (aL.1 q).1]) (fun i b h=>by
    have:=hS.maps.lt h;rw[World.alloc,cj,if_neg (by omega)]) (fun c u r=>r.mono hle) (fun _ _ _=>⟨rfl,rfl⟩) (fun i b c h h2=>by
    simp only[g']at h2;split at h2
    ·rename_i e;subst e;obtain⟨_,_,_,q,_⟩:=hS.maps.ent _ b h;rw[cr (aR _)]at q;cases q
    ·exact h2),hS.gl.le hle⟩,.ptr _ _ _ (by simp[g'])⟩
 ·simp only[g']at h;split at h
  ·rename_i e;subst e;cases h;exact⟨cs,us,t,by simp[cR],⟨(0,0),by rw[World.alloc,cj,if_pos rfl],.inl (aR _)⟩,tu hv.1,fun j c u e1 e2=>(hv.2 j c u e1 e2).mono hle⟩
  ·rename_i e;obtain⟨cs',us',t',h1,h2,h3,h4⟩:=hS.obj i b h;have:=hbl i b h;refine⟨cs',us',t',?_,by rw[World.alloc,cj,if_neg (by omega)];exact h2,h3,fun j c u e1 e2=>(h4 j c u e1 e2).mono hle⟩;simp only[cR];rw[aw (aL.1 h1).1];exact h1
 ·simp only[g']at h1 h2;split at h1<;>split at h2
  ·omega
  ·cases h1;have:=hbl j _ h2;omega
  ·cases h2;have:=hbl i _ h1;omega
  ·exact hS.inj i j b h1 h2 (hlive j b h2 hl)
 ·simp only[g']at h;split at h
  ·cases h;exact⟨fun _=>(hS.lt _ (aR _)).1,(hS.lt _ (aR _)).2⟩
  ·exact⟨fun hl=>(hS.objpub i b h).1 (hlive i b h hl),(hS.objpub i b h).2⟩
def yB(hS:SR X g S w){cs:List PV}{us:Array Value}(hv:bD X g w cs us)(t:TypeId):bu X g w S (.ref cs) (.pointer (some ⟨w.heap.size,0,none⟩)) (w.alloc (.cells us t)):=by
 let g':Gh:={g with pub:=fun b=>if b=w.heap.size then us.size else g.pub b}
 have hle:Le g w g' (w.alloc (.cells us t)):=lB rfl rfl rfl rfl hS.lt
  (fun _ _ h=>h) (fun _ _ h=>.inl h) (fun _ _ h=>h) (fun _ _ h=>.inl h) (fun _ _ h=>h) (fun b hb=>by simp[g',hb]) (fun _ _ h=>h) (fun _ _ h=>.inl h)
 have hbl:∀i b,g.obj i=some b→b<w.heap.size:=fun i b h=>by
  obtain⟨_,_,_,_,⟨_,h2,_⟩,_⟩:=hS.obj i b h;exact(bc.1 h2).1
 refine⟨g',hle,⟨fun i b h=>?_,hS.inj,fun i b h=>?_,fun b id base h=>?_,hS.asz,fun b hb=>?_,yA hS rfl (fun c u r=>r.mono hle) rfl rfl rfl (fun b hb=>by simp only[g'];rw[if_neg hb]) (fun b hb=>rfl),hS.gl.le hle⟩,sO ⟨fun j=>us.getD j undef,fun j c hc=>?_⟩ (by simp[g',hv.1])⟩
 ·obtain⟨cs',us',t',h1,h2,h3,h4⟩:=hS.obj i b h;have:=hbl i b h;exact⟨cs',us',t',h1,by rw[World.alloc,cj,if_neg (by omega)];exact h2,h3,fun j c u e1 e2=>(h4 j c u e1 e2).mono hle⟩
 ·have:=hbl i b h;have h2:=hS.objpub i b h;exact⟨fun hl=>by simp only[g'];rw[if_neg (by omega)];exact h2.1 hl,h2.2⟩
 ·have hne:b≠w.heap.size:=fun e=>by
   have:=(hS.lt b (by omega)).2;rw[show g.arr b=some (id,base)from h]at this;cases this
  obtain⟨sz,tip,h1,h2,h3,h4⟩:=hS.arr b id base h;exact⟨sz,tip,h1,h2,h3,by simp only[g'];rw[if_neg hne];exact h4⟩
 ·simp only[World.size_alloc]at hb;have:=hS.lt b (by omega);exact⟨by simp only[g'];rw[if_neg (by omega)];exact this.1,this.2⟩
 ·have hj:j<us.size:=by rw[←hv.1];exact(aL.1 hc).1
  refine⟨by simp[hj,Array.getD],(hv.2 j c _ hc ?_).mono hle⟩;simp[Array.getD,hj]
end
end Ps
