/- The rest of what only computes, and all of it together. -/
import Derived.Test.YtpjmpaidcidjgaaGreatDoorAbbKt
import Derived.Test.YtpjmpaidcidjgaaGreatDoorSimEKt
set_option linter.defProp false
namespace Ps
open Go
section
variable {X : Tie} {g : Gh} {w : World} {n : Dn} {fr : Fr} {a : Act}
def Xj(hF:FR X n g w fr a){z:List PV}{parts:List (Nat×Nat×aG)}{t:TypeId}{ps:Array (Nat×Operand)}(hz:jC X.P t z=true)
    (hp:(match X.P.underlying t with
       |some (.struct _)=>(match ur X.P t with|some places=>lc X places ps.toList parts|none=>false)
       |some (.array _ e)=>(match X.P.info? e with|some i=>ld X i.size ps.toList parts|none=>false)
       |_=>false)=true) {v:PV} (hv:aQ fr (.build z parts)=some v):bk X g w a (.build t ps) v:=by
  intro dst ty pos after guard;simp only[aQ]at hv;split at hv
  · rename_i cs hcs
    cases hv;unfold jC at hz;split at hz
    · rename_i i hi
      split at hz
      · rename_i zu hzu
        have hzr:=mH (X:=X) (g:=g) (w:=w) hz;have hzv:bD X g w z zu.cells:=⟨by simpa using hzr.1,fun j c u e1 e2=>hzr.2 j c u e1 (by simpa using e2)⟩
        have key:∃us,X.P.built t (ps.map fun(i,x)=>(i,a.eval x)).toList=some us∧bD X g w cs us:=by
          unfold Program.built;split at hp
          · rename_i fs hu
            split at hp
            · rename_i places hpl
              simp only[ur,hu]at hpl;obtain⟨us,h1,h2⟩:=Nv hF places (places.toArray[·]?) (fun i=>by simp) ps.toList parts z cs zu.cells hp hcs hzv;refine⟨us,?_,h2⟩;simp only[hi,hu,hzu,hpl,Array.toList_map];exact h1
            · cases hp
          · rename_i m e hu
            split at hp
            · rename_i ie hie
              obtain⟨us,h1,h2⟩:=Nw hF ie.size ps.toList parts z cs zu.cells hp hcs hzv;refine⟨us,?_,h2⟩;simp only[hi,hu,hzu,hie,Array.toList_map];exact h1
            · cases hp
          · cases hp
        obtain⟨us,h1,h2⟩:=key;exact⟨.agg us,by simp only[execOp,Sem.run_bind];rw[run_build w t _ us h1];rfl,.agg _ _ h2.1 h2.2⟩
      · cases hz
    · cases hz
  · cases hv
def Xk(hF:FR X n g w fr a){x i:aG}{x' i':Operand}{t:TypeId}(ht:fc X.P t=true)(hx:aK X x' x=true)(hi:aK X i' i=true){v:PV}
  (hv:aQ fr (.idxs x i)=some v):bk X g w a (.index t x' i') v:=by
 intro dst ty pos after guard;have r1:=af hF hx;have r2:=af hF hi;simp only[aQ]at hv;split at hv
 ·rename_i s k j e1 e2;rw[e1]at r1;rw[e2]at r2;generalize hu1:a.eval x'=u1 at r1;generalize hu2:a.eval i'=u2 at r2;cases r1;cases r2;split at hv
  ·rename_i h0;split at hv
   ·rename_i b hb;cases hv;refine⟨.int .u8 b.toNat,?_,.int _ _⟩;have hlt:j.toNat<s.length:=(aL.1 hb).1;have hj:j<((ByteArray.mk s.toArray).size:Int):=by simp[ByteArray.size];omega
    simp only[execOp,Sem.run_bind,hu1,hu2];rw[run_index_string w t _ k j (kz ht),dif_pos ⟨h0,hj⟩]
    have hb':(ByteArray.mk s.toArray)[j.toNat]'(by simp[ByteArray.size];exact hlt)=b:=by
     have:=(aL.1 hb).2;simpa[ByteArray.getElem_eq_getElem_data]using this
    simp only[Result.andThen_ok,Sem.run_pure,hb']
   ·cases hv
  ·cases hv
 ·cases hv
def Xl(hF:FR X n g w fr a){len m:Nat}{ag:Bool}{x i:aG}{x' i':Operand}{t:TypeId}
  (ht:(match X.P.underlying t with|some (.array k e)=>k==len&&gR X.P e ag m|_=>false)=true)(hx:aK X x' x=true)(hi:aK X i' i=true){v:PV}
  (hv:aQ fr (.idxa len m ag x i)=some v):bk X g w a (.index t x' i') v:=by
 intro dst ty pos after guard;have r1:=af hF hx;have r2:=af hF hi;simp only[aQ]at hv;split at ht
 ·rename_i k e hu;simp only[aI,beq_iff_eq]at ht;obtain⟨rfl,ht⟩:=ht;split at hv
  ·rename_i cs kk j e1 e2;rw[e1]at r1;rw[e2]at r2;generalize hu1:a.eval x'=u1 at r1;generalize hu2:a.eval i'=u2 at r2;cases r2
   cases r1 with
   |agg _ us hl hv1=>
    split at hv
    ·rename_i hb;obtain⟨u,h1,h2⟩:=Nr ht hv hl hv1;obtain⟨_,hsz,_⟩:=xk (w:=w) ht;exact⟨u,by simp[execOp,hu1,hu2,Instr.index,asIntOf,run_underlying hu,hb,hsz,h1],h2⟩
    ·cases hv
  ·cases hv
 ·cases ht
def Xm(s:List UInt8)(l h:Nat):(ByteArray.mk s.toArray).extract l h=ByteArray.mk ((s.take h).drop l).toArray:=by
 rw[ByteArray.extract_mk,List.drop_take]
def Xn(hF:FR X n g w fr a){lo hi:Option aG}{lo' hi':Option Operand}{x:aG}{x':Operand}{t:TypeId}(ht:fc X.P t=true)(hx:aK X x' x=true)
  (hlo:eK X lo' lo=true)(hhi:eK X hi' hi=true){v:PV}(hv:aQ fr (.slcs lo hi x)=some v):bk X g w a (.slice t x' lo' hi' none) v:=by
 intro dst ty pos after guard;have r1:=af hF hx;simp only[aQ]at hv;split at hv
 ·rename_i s e1;rw[e1]at r1;generalize hu1:a.eval x'=u1 at r1;cases r1;split at hv
  ·rename_i l h hb;cases hv;obtain⟨h1,h2,h3⟩:=kx hF hlo hhi (sl:=false) hb (aR _);refine⟨_,?_,.str _⟩;have hs:(ByteArray.mk s.toArray).size=s.length:=by simp[ByteArray.size]
   simp[execOp,hu1,Instr.sliceAt,Instr.slice,run_underlying (kz ht),hs,h1,Xm]
  ·cases hv
 ·cases hv
def Xo(hF:FR X n g w fr a){sz:Nat}{lo hi:Option aG}{lo' hi':Option Operand}{x:aG}{x':Operand}{t:TypeId}(ht:kT X.P t sz=true)(hx:aK X x' x=true)
  (hlo:eK X lo' lo=true)(hhi:eK X hi' hi=true){v:PV}(hv:aQ fr (.slc sz lo hi x)=some v):bk X g w a (.slice t x' lo' hi' none) v:=by
 intro dst ty pos after guard;have r1:=af hF hx;obtain⟨e,ie,hu,hie,hsz⟩:=xr ht;have hsize:(Go.sizeOf e).run X.P w=.ok sz w:=by simp[Go.sizeOf,typeInfo,hie,hsz]
 simp only[aQ]at hv;split at hv
 ·rename_i e1;rw[e1]at r1;generalize hu1:a.eval x'=u1 at r1;cases r1;split at hv
  ·rename_i p hb;cases hv;obtain⟨l,h⟩:=p;obtain⟨h1,h2,h3⟩:=kx hF hlo hhi (sl:=true) hb (aR _);have:l=0∧h=0:=by omega
   obtain⟨rfl,rfl⟩:=this;exact⟨.slice none 0 0,by simp[execOp,hu1,Instr.sliceAt,Instr.slice,run_underlying hu,h1,hsize],.nils⟩
  ·cases hv
 ·rename_i tip es sp e1;rw[e1]at r1;split at hv
  ·cases hv
  ·rename_i hok;split at hv
   ·rename_i l h hb;cases hv;generalize hu1:a.eval x'=u1 at r1
    cases r1 with
    |slz aa=>
     have hb:cC 0 0 (bj fr lo) (bj fr hi)=some (l,h):=hb;obtain⟨h1,h2,h3⟩:=kx hF hlo hhi (sl:=true) hb (aR _);have:l=0∧h=0:=by omega
     obtain⟨rfl,rfl⟩:=this
     exact⟨.slice (some aa) 0 0,by simp[execOp,hu1,Instr.sliceAt,Instr.slice,run_underlying hu,h1,hsize],by simpa using VR.slz aa⟩
    |sl _ _ _ b o cap sz' us hcap hpos hszs hpub hc hvs hlink hone=>
     have hb':cC es.length cap (bj fr lo) (bj fr hi)=some (l,h)∧h≤es.length+sp.length:=by
      simp only[cC]at hb ⊢
      cases hH:fP es.length (es.length+sp.length) (bj fr hi)with
      |none=>simp[hH]at hb
      |some H=>
       have hH':fP es.length cap (bj fr hi)=some H∧H≤es.length+sp.length:=by
        revert hH
        cases bj fr hi with
        |none=>intro hH;simp only[fP,ae]at hH ⊢;exact⟨hH,by omega⟩
        |some q=>
         intro hH;cases q<;>simp only[fP,dh]at hH<;>try (cases hH;done)
         rename_i kk q;simp only[fP,dh];split at hH
         ·rename_i hq;cases hH;rw[if_pos ⟨hq.1,by omega⟩];exact⟨rfl,by omega⟩
         ·cases hH
       rw[hH]at hb;rw[hH'.1];simp only at hb ⊢;refine⟨hb,?_⟩;split at hb
       ·cases hb
       ·split at hb
        ·cases hb;exact hH'.2
        ·cases hb
     obtain⟨hb1,hh⟩:=hb';obtain⟨h1,h2,h3⟩:=kx hF hlo hhi (sl:=true) hb1 (by omega)
     have hszq:l=0∨sz'=sz:=by
      by_cases hl0:l=0
      ·exact .inl hl0
      ·right
       have:∃x,x∈es++sp∧x.cells.length=sz:=by
        cases hes:es++sp with
        |nil=>
         have:=congrArg List.length hes;rw[ak,cP]at this
         omega
        |cons y ys=>
         rw[hes]at hok;exact⟨y,by simp,by simpa[gS]using hok⟩
       obtain⟨y,hy,hyl⟩:=this;rw[←hyl,hszs y hy]
     have hvals:VR X g w (.sl (if h=es.length then tip else none) (((es++sp).take h).drop l) ((es++sp).drop h))
       (.slice (some (if cap=l then⟨b,o,none⟩else⟨b,o+l*sz',none⟩)) (h-l) (cap-l)):=by
      have hlen:((((es++sp).take h).drop l)).length=h-l:=by simp;omega
      have hlen2:((es++sp).drop h).length=es.length+sp.length-h:=by simp
      have hjoin:(((es++sp).take h).drop l)++((es++sp).drop h)=(es++sp).drop l:=by
       rw[←tW (by simp;omega),kI]
      have hflat:=Nx (es:=es++sp) l hszs (by simp;omega)
      have hmem:∀y∈(((es++sp).take h).drop l)++((es++sp).drop h),y.cells.length=sz':=by
       rw[hjoin];exact fun y hy=>hszs y (fo hy)
      have hmem1:∀y∈(((es++sp).take h).drop l)++((es++sp).drop h),y.cells.all PV.one=true:=by
       rw[hjoin];exact fun y hy=>hone y (fo hy)
      by_cases hcl:cap=l
      ·have e1:h=l:=by omega
       have e2:es.length+sp.length=l:=by omega
       rw[if_pos hcl];rw[←hlen];refine .sl _ _ _ b o _ sz' us (by rw[hlen,hlen2];omega) hpos hmem ?_ ?_ ?_ ?_ hmem1
       ·rw[hlen,hlen2];have:h-l+(es.length+sp.length-h)=0:=by omega
        rw[this];have:=bh ((es.length+sp.length)*sz');omega
       ·intro j hj;rw[hlen,hlen2]at hj;have:h-l+(es.length+sp.length-h)=0:=by omega
        rw[this]at hj;omega
       ·intro j c hjc;rw[hjoin,hflat,List.drop_eq_nil_of_le (by rw[gV hszs];simp;rw[e2];omega)]at hjc;simp at hjc
       ·intro id e' ht' hs'
        have hhe:h=es.length:=by
         by_cases q:h=es.length
         ·exact q
         ·rw[if_neg q]at ht';cases ht'
        rw[if_pos hhe]at ht'
        have hsp:sp=[]:=by
         have:=congrArg List.length hs';rw[hlen2]at this;simp at this
         cases sp with
         |nil=>rfl
         |cons _ _=>simp at *;omega
        obtain⟨k1,k2,k3⟩:=hlink id e' ht' hsp;refine⟨by rw[hlen];omega,k2,.inl ⟨by omega,.inl (fW.1 (by omega))⟩⟩
      ·rw[if_neg hcl];rw[←hlen];have htot:h-l+(es.length+sp.length-h)=es.length+sp.length-l:=by omega
       have hmul:l*sz'+(es.length+sp.length-l)*sz'=(es.length+sp.length)*sz':=by
        rw[←cu];congr 1;omega
       refine .sl _ _ _ b (o+l*sz') _ sz' (fun j=>us (l*sz'+j)) (by rw[hlen,hlen2];omega) hpos hmem ?_ ?_ ?_ ?_ hmem1
       ·rw[hlen,hlen2,htot];omega
       ·intro j hj;rw[hlen,hlen2,htot]at hj;rw[fq];exact hc (l*sz'+j) (by omega)
       ·intro j c hjc;rw[hjoin,hflat,gK]at hjc;exact hvs _ c hjc
       ·intro id e' ht' hs'
        have hhe:h=es.length:=by
         by_cases q:h=es.length
         ·exact q
         ·rw[if_neg q]at ht';cases ht'
        rw[if_pos hhe]at ht'
        have hsp:sp=[]:=by
         have:=congrArg List.length hs';rw[hlen2]at this;simp at this
         cases sp with
         |nil=>rfl
         |cons _ _=>simp at *;omega
        obtain⟨k1,k2,k3⟩:=hlink id e' ht' hsp;refine⟨by rw[hlen];omega,k2,?_⟩;rcases k3 with k3|⟨base,k4,k5,k6⟩
        ·exact .inl ⟨by have:=k3.1;omega,k3.2.elim (fun q=>.inl (fW.1 (by rw[hlen,hhe,q];simp))) (fun q=>.inr (by omega))⟩
        ·refine .inr ⟨base,k4,?_,?_⟩
         ·rw[hlen,←k5];have:l*sz'+(h-l)*sz'=es.length*sz':=by rw[←cu];congr 1;omega
          omega
         ·have:o+l*sz'+(cap-l)*sz'=o+cap*sz':=by
           rw[fq,←cu];congr 2;omega
          rw[this];exact k6
     refine⟨_,?_,hvals⟩
     have hadd:(if cap=l then(some (⟨b,o,none⟩:Addr))else(some (⟨b,o,none⟩:Addr)).map (·.add (l*sz)))=some (if cap=l then⟨b,o,none⟩else⟨b,o+l*sz',none⟩):=by
      split
      ·rfl
      ·simp only[ip,eV];rcases hszq with rfl|rfl
       ·simp
       ·rfl
     simp only[execOp,Sem.run_bind,hu1,Instr.sliceAt,run_underlying hu,Result.andThen_ok,Instr.slice,h1,hsize,Sem.run_pure,Option.map_none];rw[hadd]
   ·cases hv
 ·rename_i id off len sz' e1;rw[e1]at r1;generalize hu1:a.eval x'=u1 at r1;split at hv
  ·rename_i hq;obtain⟨rfl,hpos⟩:=hq;split at hv
   ·rename_i l h hb;split at hv
    ·rename_i hlh;cases hv
     cases r1 with
     |osl _ _ _ _ cap b h0 hl hr=>
      obtain⟨hb',h4⟩:=XP hb (aR _) hl;obtain⟨h1,h2,h3⟩:=kx hF hlo hhi (sl:=true) hb' hl;have hmul:l*sz'+(cap-l)*sz'=cap*sz':=by rw[←cu];congr 1;omega
      refine⟨.slice (some ⟨b,off+l*sz',none⟩) (h-l) (cap-l),?_,.osl _ _ _ _ _ b h0 (by omega) (fun _=>by
       rw[fq,hmul];exact hr hpos)⟩
      have hadd:(if cap=l then(some (⟨b,off,none⟩:Addr))else(some (⟨b,off,none⟩:Addr)).map (·.add (l*sz')))=some ⟨b,off+l*sz',none⟩:=by
       split
       ·have:l=0:=by omega
        subst this;simp
       ·simp[eV]
      simp only[execOp,Sem.run_bind,hu1,Instr.sliceAt,run_underlying hu,Result.andThen_ok,Instr.slice,h1,hsize,Sem.run_pure,Option.map_none];rw[hadd]
    ·cases hv
   ·cases hv
  ·cases hv
 ·rename_i e1;rw[e1]at r1;generalize hu1:a.eval x'=u1 at r1
  cases r1 with
  |emp aa=>
  split at hv
  ·rename_i p hb;cases hv;obtain⟨l,h⟩:=p;obtain⟨h1,h2,h3⟩:=kx hF hlo hhi (sl:=true) hb (aR _);have:l=0∧h=0:=by omega
   obtain⟨rfl,rfl⟩:=this;exact⟨.slice (some aa) 0 0,by simp[execOp,hu1,Instr.sliceAt,Instr.slice,run_underlying hu,h1,hsize],.emp aa⟩
  ·cases hv
 ·cases hv
def Xp(hF:FR X n g w fr a){x:aG}{x':Operand}{t:TypeId}
    (ht:(match X.P.underlying t with|some (.slice e)=>(X.P.info? e).isSome|_=>false)=true)(hx:aK X x' x=true)
    {v:PV}(hv:aQ fr (.emp3 x)=some v):bk X g w a (.slice t x' none (some (.const (.int .i64 0))) (some (.const (.int .i64 0)))) v:=by
  intro dst ty pos after guard;have r1:=af hF hx;split at ht
  · rename_i e hu
    obtain⟨ie,hie⟩:=oT.1 ht;have hsize:(Go.sizeOf e).run X.P w=.ok ie.size w:=by simp[Go.sizeOf,typeInfo,hie]
    have run:∀(b:Option Addr) (len cap:Nat),a.eval x'=.slice b len cap→∃b',(b=none→b'=none)∧(b≠none→b'≠none) ∧
        (execOp a.eval ⟨dst,.slice t x' none (some (.const (.int .i64 0))) (some (.const (.int .i64 0))),ty,pos,after,guard⟩).run X.P w=.ok (.value (.slice b' 0 0)) w:=by
      intro b len cap hb
      have hbd:(Instr.sliceBounds true len cap none (some (Value.int .i64 0)) (some (Value.int .i64 0))).run X.P w=.ok (0,0,0) w:=by
        simp[Instr.sliceBounds,Instr.sliceBound,asIntOf]
      have hev:a.eval (.const (.int .i64 0))=.int .i64 0:=rfl;refine⟨b,fun h=>h,fun h=>h,?_⟩;simp[execOp,hb,Instr.sliceAt,Instr.slice,run_underlying hu,hsize,hev,hbd]
    have some_of:∀{b':Option Addr},b'≠none→∃aa,b'=some aa:=fun h=>Option.ne_none_iff_exists'.1 h;simp only[aQ]at hv;generalize hu1:a.eval x'=u1 at r1;split at hv
    · rename_i e1;rw[e1]at r1;cases hv;cases r1
      obtain⟨b',h1,_,h2⟩:=run _ _ _ hu1;rw[h1 rfl]at h2;exact⟨_,h2,.nils⟩
    all_goals first
      |(cases hv;done)
      | (rename_i e1
         rw[e1]at r1;cases hv;cases r1 <;>
         (obtain⟨b',_,h1,h2⟩:=run _ _ _ hu1
          obtain⟨aa,rfl⟩:=some_of (h1 (by simp));exact⟨_,h2,.emp aa⟩))
  · cases ht
def Xq(hF:FR X n g w fr a){len sz:Nat}{lo hi:Option aG}{lo' hi':Option Operand}{x:aG}{x':Operand}{t:TypeId}(ht:nF X.P t len sz=true)(hx:aK X x' x=true)
  (hlo:eK X lo' lo=true)(hhi:eK X hi' hi=true){v:PV}(hv:aQ fr (.slca len sz lo hi x)=some v):bk X g w a (.slice t x' lo' hi' none) v:=by
 intro dst ty pos after guard;have r1:=af hF hx;obtain⟨e,ie,hu,hie,hsz⟩:=OG ht;have hsize:(Go.sizeOf e).run X.P w=.ok sz w:=by simp[Go.sizeOf,typeInfo,hie,hsz]
 simp only[aQ]at hv;split at hv
 ·rename_i id off e1;rw[e1]at r1;generalize hu1:a.eval x'=u1 at r1
  cases r1 with
  |ptr _ _ b hb0=>
   split at hv
   ·rename_i l h hb;split at hv
    ·rename_i hlt;cases hv;obtain⟨h1,h2,h3⟩:=kx hF hlo hhi (sl:=false) hb (aR _);refine⟨.slice (some ⟨b,off+l*sz,none⟩) (h-l) (len-l),?_,.osl _ _ _ _ _ b hb0 (by omega) (fun h=>by omega)⟩;have hne:¬len=l:=by omega
     simp[execOp,hu1,Instr.sliceAt,run_underlying hu,Instr.sureAddr,h1,hsize,hne,eV]
    ·cases hv
   ·cases hv
 ·rename_i cs e1;rw[e1]at r1;generalize hu1:a.eval x'=u1 at r1
  cases r1 with
  |ref _ b o us hpub hc hvs=>
   split at hv
   ·rename_i hq;obtain⟨rfl,hcl,hone⟩:=hq;split at hv
    ·rename_i l h hb;split at hv
     ·rename_i hlt;cases hv;obtain⟨h1,h2,h3⟩:=kx hF hlo hhi (sl:=false) hb (aR _);have hne:¬len=l:=by omega
      have hl1:((cs.take h).drop l).length=h-l:=by simp;omega
      have hl2:(cs.drop h).length=len-h:=by simp;omega
      have hj:(cs.take h).drop l++cs.drop h=cs.drop l:=by
       rw[←tW (by simp;omega),kI]
      have hone':∀e∈cs,PV.one e=true:=List.all_eq_true.1 hone
      have hcells:∀e∈cs,e.cells=[e]:=fun e he=>by
       have:=hone' e he;cases e<;>first|rfl|(simp[PV.one]at this)
      have hfl:∀l:List PV,(∀e∈l,e.cells=[e])→l.flatMap PV.cells=l:=by
       intro l
       induction l with
       |nil=>intro _;rfl
       |cons y l ih=>
        intro hy;rw[dB,hy y (by simp),ih (fun e he=>hy e (by simp[he]))];rfl
      have r2:VR X g w (.sl none ((cs.take h).drop l) (cs.drop h)) (.slice (some ⟨b,o+l,none⟩) ((cs.take h).drop l).length (len-l)):=by
       refine .sl none _ _ b (o+l) (len-l) 1 (fun j=>us (l+j)) (by rw[hl1,hl2];omega) (by omega) ?_ (by rw[hl1,hl2];omega) ?_ ?_ (fun id e ht' _=>by cases ht') ?_
       ·intro e he;rw[hj]at he;rw[hcells e (fo he)];rfl
       ·intro j hjl;rw[hl1,hl2]at hjl;have:=hc (l+j) (by omega);rw[fq];exact this
       ·intro j c hjc;rw[hj,hfl _ (fun e he=>hcells e (fo he)),gK]at hjc;exact hvs _ c hjc
       ·intro e he;rw[hj]at he;rw[hcells e (fo he)];simp[hone' e (fo he)]
      rw[hl1]at r2;refine⟨_,?_,r2⟩;simp[execOp,hu1,Instr.sliceAt,run_underlying hu,Instr.sureAddr,h1,hsize,hne,eV]
     ·cases hv
    ·cases hv
   ·cases hv
 ·cases hv
def Xr(hF:FR X n g w fr a){off f:Nat}{x:aG}{x':Operand}{t:TypeId}
  (ht:(match X.P.underlying t with
   |some (.struct fs)=>(match fs[f]? with|some g=>g.offset==off&&(match X.P.info? g.type with|some i=>i.size != 0|none=>false)|none=>false)
   |_=>false)=true) (hx:aK X x' x=true) {v:PV} (hv:aQ fr (.faddr off x)=some v):bk X g w a (.fieldAddr t x' f) v:=by
 intro dst ty pos after guard;have r:=af hF hx;split at ht
 ·rename_i fs hu;split at ht
  ·rename_i fd hfd;simp only[aI,beq_iff_eq]at ht;obtain⟨rfl,ht⟩:=ht
   have hs:∃k,(Go.sizeOf fd.type).run X.P w=.ok k w∧k≠0:=by
    split at ht
    ·rename_i i hi;exact⟨i.size,by simp[Go.sizeOf,typeInfo,hi],by simpa using ht⟩
    ·cases ht
   obtain⟨k,hs1,hs2⟩:=hs
   have run:∀b o,a.eval x'=.pointer (some ⟨b,o,none⟩)→(execOp a.eval ⟨dst,.fieldAddr t x' f,ty,pos,after,guard⟩).run X.P w=.ok (.value (.pointer (some ⟨b,o+fd.offset,none⟩))) w:=by
    intro b o he;simp[execOp,he,Instr.fieldAt,run_underlying hu,hfd,Instr.sureAddr,fieldPlace,hs1,hs2,eV]
   simp only[aQ]at hv;split at hv
   ·rename_i id o e;rw[e]at r;cases hv;generalize hu1:a.eval x'=u at r
    cases r with
    |ptr _ _ b hb=>exact⟨_,run b o hu1,.ptr _ _ b hb⟩
   ·rename_i cs e;rw[e]at r;obtain⟨b,o,h1,h2,h3⟩:=sN r;split at hv
    ·rename_i hle;cases hv;exact⟨_,run b o h1,sO (h2.drop _) (by simp;omega)⟩
    ·cases hv
   ·cases hv
  ·cases ht
 ·cases ht
def Xs(hF:FR X n g w fr a){sz:Nat}{x i:aG}{x' i':Operand}{t:TypeId}(ht:kT X.P t sz=true)(hx:aK X x' x=true)(hi:aK X i' i=true){v:PV}
  (hv:aQ fr (.iaddr sz x i)=some v):bk X g w a (.indexAddr t x' i') v:=by
 intro dst ty pos after guard;have r1:=af hF hx;have r2:=af hF hi;obtain⟨e,ie,hu,hie,hsz⟩:=xr ht;have hsize:(Go.sizeOf e).run X.P w=.ok sz w:=by simp[Go.sizeOf,typeInfo,hie,hsz]
 simp only[aQ]at hv;split at hv
 ·rename_i tip es sp k j e1 e2;rw[e1]at r1;rw[e2]at r2;generalize hu1:a.eval x'=u1 at r1;generalize hu2:a.eval i'=u2 at r2;cases r2;split at hv
  ·rename_i h0;split at hv
   ·rename_i el hel;split at hv
    ·rename_i hels;cases hv
     cases r1 with
     |slz aa=>simp at hel
     |sl _ _ _ b o cap sz' us hcap hpos hszs hpub hc hvs hlink=>
      have hlt:j.toNat<es.length:=(aL.1 hel).1;have hmem:el∈es++sp:=oR _ (ct hel);have hss:sz'=sz:=by rw[←hels,hszs el hmem]
      subst hss;have hget:(es++sp)[j.toNat]?=some el:=by rw[aw hlt];exact hel
      have hmul:j.toNat*sz'+sz'≤(es.length+sp.length)*sz':=by
       rw[show j.toNat*sz'+sz'=(j.toNat+1)*sz' by rw[cu];omega];exact gM _ (by omega)
      refine⟨.pointer (some ⟨b,o+j.toNat*sz',none⟩),?_,sO ⟨fun q=>us (j.toNat*sz'+q),fun q c hq=>?_⟩ (by rw[hels];omega)⟩
      ·simp only[execOp,Sem.run_bind,hu1,hu2,Instr.indexAt,asIntOf,Sem.run_pure,Result.andThen_ok,run_underlying hu];rw[if_pos ⟨h0,by omega⟩];simp[hsize,eV]
      ·have hq':q<sz':=by rw[←hels];exact(aL.1 hq).1
       have hf:=ky hszs hget q hq';rw[fq];exact⟨hc _ (by omega),hvs _ c (by rw[hf];exact hq)⟩
    ·cases hv
   ·cases hv
  ·cases hv
 ·rename_i id off m sz0 k j e1 e2;rw[e1]at r1;rw[e2]at r2;generalize hu1:a.eval x'=u1 at r1;generalize hu2:a.eval i'=u2 at r2;cases r2;split at hv
  ·rename_i hb;cases hv
   cases r1 with
   |osl _ _ _ _ cap b h0 hl hr=>
    refine⟨.pointer (some ⟨b,off+j.toNat*sz,none⟩),?_,.ptr _ _ b h0⟩;simp only[execOp,Sem.run_bind,hu1,hu2,Instr.indexAt,asIntOf,Sem.run_pure,Result.andThen_ok,run_underlying hu];rw[if_pos hb];simp[hsize,eV]
  ·cases hv
 ·cases hv
def Xt(hF:FR X n g w fr a){len sz:Nat}{x i:aG}{x' i':Operand}{t:TypeId}(ht:nF X.P t len sz=true)(hx:aK X x' x=true)(hi:aK X i' i=true){v:PV}
  (hv:aQ fr (.iaddra len sz x i)=some v):bk X g w a (.indexAddr t x' i') v:=by
 intro dst ty pos after guard;have r1:=af hF hx;have r2:=af hF hi;obtain⟨e,ie,hu,hie,hsz⟩:=OG ht;have hsize:(Go.sizeOf e).run X.P w=.ok sz w:=by simp[Go.sizeOf,typeInfo,hie,hsz]
 have run:∀b o k (j:Int),a.eval x'=.pointer (some ⟨b,o,none⟩)→a.eval i'=.int k j→0≤j∧j<len →
   (execOp a.eval ⟨dst,.indexAddr t x' i',ty,pos,after,guard⟩).run X.P w=.ok (.value (.pointer (some ⟨b,o+j.toNat*sz,none⟩))) w:=by
  intro b o k j h1 h2 hb;simp only[execOp,Sem.run_bind,h1,h2,Instr.indexAt,asIntOf,Sem.run_pure,Result.andThen_ok,run_underlying hu,Instr.sureAddr];rw[if_pos hb];simp[hsize,eV]
 simp only[aQ]at hv;split at hv
 ·rename_i id off k j e1 e2;rw[e1]at r1;rw[e2]at r2;generalize hu1:a.eval x'=u1 at r1;generalize hu2:a.eval i'=u2 at r2;cases r2;split at hv
  ·rename_i hb;cases hv
   cases r1 with
   |ptr _ _ b h0=>exact⟨_,run b off k j hu1 hu2 hb,.ptr _ _ b h0⟩
  ·cases hv
 ·rename_i cs k j e1 e2;rw[e1]at r1;rw[e2]at r2;generalize hu2:a.eval i'=u2 at r2;cases r2;split at hv
  ·rename_i hb;cases hv;obtain⟨b,o,h1,h2,h3⟩:=sN r1;exact⟨_,run b o k j h1 hu2 ⟨hb.1,hb.2.1⟩,sO (h2.drop _) (by simp;omega)⟩
  ·cases hv
 ·cases hv
def Xu(hF:FR X n g w fr a){st:Bool}{x:aG}{y:Operand}{c:Go.Call}{t:TypeId}(hc:c.callee=.builtin .len)(ha:c.args.toList=[y])(hts:c.argTypes.toList=[t])
  (ht:(match X.P.underlying t with|some .string=>st|some (.slice _)=>!st|_=>false)=true)(hx:aK X y x=true){v:PV}
  (hv:aQ fr (.len st x)=some v):bk X g w a (.call c) v:=by
 intro dst ty pos after guard;have r:=af hF hx;obtain⟨consts,hb⟩:=lA (a:=a) hc dst ty pos after guard;rw[hb,ng ha,nh hts];generalize hp:ev fr x=p at *;generalize hu1:a.eval y=u at r;cases st
 ·split at ht
  ·cases ht
  ·rename_i e he;simp only[aQ,hp]at hv;cases r<;>simp only at hv<;>try (cases hv;done)
   all_goals
    simp only[ae]at hv;subst hv;exact⟨_,by simp[builtin,hu1,Builtin.len_,run_underlying he,goInt]<;>rfl,.int _ _⟩
  ·cases ht
 ·split at ht
  ·rename_i he;simp only[aQ,hp]at hv;cases r<;>simp only at hv<;>try (cases hv;done)
   cases hv;exact⟨_,by simp[builtin,hu1,run_len_string w t ty _ he,goInt,ByteArray.size]<;>rfl,.int _ _⟩
  ·cases ht
  ·cases ht
def OH(hF:FR X n g w fr a){mx:Bool}{x y:aG}{x' y':Operand}{c:Go.Call}(hc:c.callee=.builtin (if mx then .max else .min))(ha:c.args.toList=[x',y'])
  (hx:aK X x' x=true)(hy:aK X y' y=true){v:PV}(hv:aQ fr (.mnmx mx x y)=some v):bk X g w a (.call c) v:=by
 intro dst ty pos after guard;have r1:=af hF hx;have r2:=af hF hy;obtain⟨consts,hb⟩:=lA (a:=a) hc dst ty pos after guard;rw[hb,pj ha];simp only[aQ]at hv;split at hv
 ·rename_i k p l q e1 e2;rw[e1]at r1;rw[e2]at r2;generalize hu1:a.eval x'=u1 at r1;generalize hu2:a.eval y'=u2 at r2;cases r1;cases r2;split at hv
  ·rename_i hk;subst hk;cases hv;refine⟨_,?_,.int _ _⟩;cases mx
   ·simp[builtin,hu1,hu2,run_min_int2]
   ·simp[builtin,hu1,hu2,run_max_int2]
  ·cases hv
 ·cases hv
def OI(hF:FR X n g w fr a){ag:Bool}{m:Nat}{x:aG}{x':Operand}{t:TypeId}{cs:List PV}(ht:gR X.P t ag m=true)(hx:aK X x' x=true)
  (he:ev fr x=.ref cs){v:PV}(hv:ap ag m cs=some v):bk X g w a (.load t x') v:=by
 intro dst ty pos after guard;have r:=af hF hx;rw[he]at r;obtain⟨b,o,h1,h2,h3⟩:=sN r;obtain⟨u,h4,h5⟩:=sM ht hv h2;exact⟨u,by simp[execOp,h1,Instr.loadAt,Instr.sureAddr,h4],h5⟩
end
end Ps
