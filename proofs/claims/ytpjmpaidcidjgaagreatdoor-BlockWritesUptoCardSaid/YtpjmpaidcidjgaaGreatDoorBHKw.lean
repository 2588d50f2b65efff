/- Series that may be a block: block.Check. -/
import Derived.Test.YtpjmpaidcidjgaaGreatDoorAbbKw
import Derived.Test.YtpjmpaidcidjgaaGreatDoorShelfAKw
import Derived.Test.YtpjmpaidcidjgaaGreatDoorCXKw
import Derived.Test.YtpjmpaidcidjgaaGreatDoorExtMKw
import Derived.Test.YtpjmpaidcidjgaaGreatDoorSimVKw
import Derived.Test.YtpjmpaidcidjgaaGreatDoorBFKw
import Derived.Test.YtpjmpaidcidjgaaGreatDoorBSKw
set_option linter.defProp false
namespace Ps
set_option linter.unusedSimpArgs false
set_option linter.unusedVariables false
open Go Go.Proofs
open Go.RowKit (Below)
def kC:List PV→St→Option (PV×St)
 | [.iface 3 (.agg [.int .i64 n]),.iface 2 (.ptr id off)],S=>match S.objs[id]? with
  |some cs=>if off<cs.length then some (.bool true,{S with objs:=S.objs.set id (bK cs off [.int .i64 n])})else none
  |none=>none
 |_,_=>none
def TK{X:Tie}{g:Gh}{w:World}{a b:PV}{us:Array Value}(hV:bQ X g w [a,b] us):∃x y,us = #[x,y]∧VR X g w a x∧VR X g w b y:=by
 have h2:us.size=2:=hV.1.symm;refine⟨us[0],us[1],?_,hV.2 0 a us[0] rfl (fK (by omega)),hV.2 1 b us[1] rfl (fK (by omega))⟩;apply vJ
 ·simp[h2]
 ·intro i hi1 hi2;simp at hi2
  match i with
  |0=>rfl
  |1=>rfl
  |i+2=>omega
set_option maxRecDepth 20000 in
def BL:re tie 159 kC:=by
 intro args S r S' h g w us hS hV;unfold kC at h;split at h
 ·rename_i n id off;split at h
  ·rename_i cs hcs;split at h
   ·rename_i hoff;cases h;obtain⟨x,y,rfl,hx,hy⟩:=TK hV
    cases hx with
    |iface _ _ u0 h0=>
     have hu0:u0=.agg #[.int .i64 n]:=by
      cases h0 with
      |agg _ vs hl hv=>
       obtain⟨l⟩:=vs
       match l,hl with
       | [a],_=>have h0:=hv 0 _ _ rfl rfl;cases h0;rfl
     subst hu0
     cases hy with
     |iface _ _ u1 h1=>
      cases h1 with
      |ptr _ _ b hb=>
       have ht3:tie.ty 3=72:=by kernel_rfl
       have ht2:tie.ty 2=77:=by kernel_rfl
       rw[ht3,ht2];obtain⟨hpr,hgl⟩:=hS.gl (0,.iface 169 (.agg #[.pointer (some ⟨1,74,none⟩)])) (mB.2 rfl);obtain⟨cs',us',t,q1,q2,q3,q4⟩:=hS.obj id b hb;rw[hcs]at q1;cases q1;have hlt:off<us'.size:=by omega
       have hcell:w.cell? ⟨b,off,none⟩=some us'[off]:=by simp[World.cell?,q2,hlt]
       have hfz:w.frozen? ⟨b,off,none⟩=false:=by simp[World.frozen?,q2]
       have hcall:=Tz.as_hit n ⟨b,off,none⟩ us'[off] w hgl hcell hfz;have hfn:tie.fnOf 159=36:=by kernel_rfl
       rw[hfn];refine Qf (X:=tie) (f:=36) (fn:=Tryz.f36) Tryz.func36 (by decide +kernel) (by kernel_rfl) (hcall.mono fun e w' he=>?_);obtain⟨rfl,hw'⟩:=he;refine⟨_,rfl,?_⟩;have hbl:b<w.heap.size:=(cD.1 q2).1;obtain⟨w4,hw4⟩:∃w4,w4=(((w.alloc (.cells #[.pointer (some ⟨b,off,none⟩)] 77)).alloc (.cells #[.pointer (some ⟨1,77,none⟩),.pointer (some ⟨w.heap.size,0,none⟩),.int .u64 150] 127)).alloc (.cells #[.pointer (some ⟨1,77,none⟩),.pointer (some ⟨w.heap.size,0,none⟩),.int .u64 150] 127)).alloc (.cells #[.int .i64 n] 72):=⟨_,rfl⟩;rw[←hw4]at hw'
       have hB:Below w.heap.size w w4:=by
        rw[hw4];exact((((Below.refl _ w).alloc (aX _) _).alloc (by simp) _).alloc (by simp;omega) _).alloc (by simp;omega) _
       have hle:=nO hS hB;have hS4:=vC hS hB
       obtain⟨w5,hrun,hst⟩:=zX (off:=off) (cs:=cs) (vs:=[.int .i64 n]) (xs:=#[.int .i64 n]) hS4 hb hcs ⟨rfl,fun j c u e1 e2=>by
        cases j with
        |zero=>simp at e1 e2;subst e1;subst e2;exact .int _ _
        |succ j=>simp at e1⟩ rfl (by have:=hoff;simp only[bE,cO];omega)
       have hc4:w4.cell? ⟨b,off,none⟩=some us'[off]:=by rw[←hcell];simp only[World.cell?,hB.block b hbl]
       have hf4:w4.frozen? ⟨b,off,none⟩=false:=by rw[←hfz];simp only[World.frozen?,hB.block b hbl]
       have hrun2:(storeCells ⟨b,off,none⟩ [.int .i64 n]).run tie.P w4=.ok () (w4.setCell ⟨b,off,none⟩ (.int .i64 n)):=by
        simp only[storeCells,Sem.run_bind,Addr.add];simp[run_store_int,stored,hc4,hf4]
       have hw5:w5=w':=by
        have:(storeCells ⟨b,off,none⟩ [.int .i64 n]).run tie.P w4=.ok () w5:=by simpa using hrun
        rw[hrun2]at this;cases this;exact hw'.symm
       subst hw5;obtain⟨g',hl',hS',_⟩:=hst;exact⟨g',hle.trans hl',hS',.bool true⟩
   ·cases h
  ·cases h
 ·cases h
end Ps
set_option linter.defProp false
namespace Ps
set_option linter.unusedSimpArgs false
set_option linter.unusedVariables false
open Go Go.Proofs
set_option maxRecDepth 100000
def CL:PV→aT
 |.agg [.str a,.str b]=>(a,b,())
 |_=>([],[],())
def ph:PV→List PV
 |.sl _ es _=>es
 |_=>[]
def pi(v:PV):List (List aT):=(ph v).map fun e=>(ph e).map CL
def WI{sz:Nat}{v:PV}{es:List PV}(h:am sz v es):ph v=es:=by
 rcases h.val with⟨rfl,rfl⟩|⟨sp,rfl,_⟩<;>rfl
def WJ{S:St}{sz n0:Nat}{v:PV}{es:List PV}(h:eL S sz n0 v es):ph v=es:=by
 rcases h with⟨rfl,rfl⟩|⟨id,_,rfl,_⟩<;>rfl
def WK(l:List aT):(l.map ac).map CL=l:=by
 rw[sI]
 conv=>rhs;rw[←pM l]
 exact ly fun x _=>rfl
def WM{sv:PV}{qs:List PV}{ls:List (List aT)}(he:ph sv=qs)(hl:qs.length=ls.length)(hq:∀(j:Nat)(h:j<ls.length)(h':j<qs.length),am 2 qs[j] (ls[j].map ac)):pi sv=ls:=by
 unfold pi;rw[he];apply List.ext_getElem (by simpa using hl);intro i h1 h2;simp only[List.getElem_map];rw[WI (hq i h2 (by omega)),WK]
open Classical in
noncomputable def mM:List PV→St→Option (PV×St)
 | [.ptr ox 0],S=>match S.objs[ox]? with
  |some [sv,.map _]=>if gc S (.ptr ox 0) (pi sv)∧fC (pi sv)then some (.sl none (aI (dP (pi sv))) [],S)else none
  |_=>none
 |_,_=>none
def WN{S:St}{p:PV}{ls:List (List aT)}(h:gc S p ls)(hx:fC ls):mM [p] S=some (.sl none (aI (dP ls)) [],S):=by
 obtain⟨ox,om,n0,sv,qs,kv,rfl,hne,hox,hom,hown,hql,hqs,hnd,hk⟩:=id h.at_;have e:=WM (WJ hown) hql hqs;unfold mM;simp only[hox];rw[if_pos (by rw[e];exact⟨h,hx⟩),e]
noncomputable def T1:aQ:=⟨fun f=>if f=159 then some (.exs kC)else if f=134 then some (.exs mM)else T.fn f,T.meth⟩
noncomputable def tie1:Tie:=tie.withT T1
def WO:T1.fn 134=some (.exs mM):=rfl
def CN(f:Nat):T1.fn f=if f=159 then some (.exs kC)else if f=134 then some (.exs mM)else T.fn f:=rfl
def WP:T.fn 159=none:=rfl
def WQ:T.fn 134=none:=rfl
def WR:ri T T1 where
 meth:=rfl
 fn:=fun f pf h=>by
  have h1:f≠159:=fun e=>by rw[e]at h;exact absurd (h.symm.trans WP) (by simp)
  have h2:f≠134:=fun e=>by rw[e]at h;exact absurd (h.symm.trans WQ) (by simp)
  rw[CN,if_neg h1,if_neg h2];exact h
def gh{f:Nat}{args:List PV}{S:St}{r:PV×St}(h:aM T f args S=some r):aM T1 f args S=some r:=aDh WR h
def WS:re (tie.withT T1) 134 mM:=AL (X:=tie) (T:=T1) fun args S r S' he=>by
 unfold mM at he;split at he
 ·split at he
  ·split at he
   ·rename_i hh;cases he;exact CK hh.1 hh.2
   ·cases he
  ·cases he
 ·cases he
def WT:aj (tie.withT T1) 159 (.exs kC):=aj.tb (X:=tie) (T:=T1) (show aj tie 159 (.exs kC)from BL)
def tieOk1:cR (tie.withT T1):=cR.of (X:=tie) (T:=T1) tieOk rfl fun f pf h=>by
 rw[CN]at h;by_cases e:f=159
 ·rw[if_pos e]at h;have:=gD h;subst this e;exact WT
 ·rw[if_neg e]at h;by_cases e2:f=134
  ·rw[if_pos e2]at h;have:=gD h;subst this e2;exact WS
  ·rw[if_neg e2]at h;exact(tieOk.fns f pf h).tb
def WU{S:St}{p:PV}{ls:List (List aT)}(h:gc S p ls)(hx:fC ls):aM T1 134 [p] S=some (.sl none (aI (dP ls)) [],S):=CG WO (WN h hx)
end Ps
set_option linter.defProp false
namespace Ps
set_option linter.unusedSimpArgs false
set_option linter.unusedVariables false
open Go
def bi(l:List Sm):List (List Sm):=if h:l=[]then []else l.take 120::bi (l.drop 120)
termination_by l.length
decreasing_by
 have:=List.length_pos_iff.2 h;simp;omega
def Bx{sz:Nat}{v:PV}{es:List PV}(h:cF sz v es){hi:Nat}{k:IntKind}(hh:hi≤es.length):∃v',dx sz none (some (.int k (hi:Int))) v=some v'∧cF sz v' (es.take hi):=by
 rcases h with⟨rfl,rfl⟩|⟨tip,sp,rfl,h⟩
 ·have:hi=0:=by simpa using hh
  subst this;exact⟨.nils,by rw[rp,tx (by omega)],.inl ⟨rfl,rfl⟩⟩
 ·refine⟨.sl (if hi=es.length then tip else none) (es.take hi) ((es++sp).drop hi),?_,.inr ⟨_,_,rfl,fun e he=>?_⟩⟩
  ·rw[ry,mo h,tx (by omega)];simp only[vO,bp,if_false,pH,jy hh]
  apply h;rcases bd.1 he with he|he
  ·exact pN _ (fm he)
  ·exact fT he
def sd(qs:List PV)(cs:List (List Sm)):Prop:=qs.length=cs.length∧∀(i:Nat) (h:i<qs.length) (h':i<cs.length),∃tip,qs[i]=.sl tip (cs[i].map bB) []
def se(v:PV)(cs:List (List Sm)):Prop:=∃es,am 1 v es∧es.length=cs.length∧∀(i:Nat) (h:i<cs.length) (h':i<es.length),am 2 es[i] (cs[i].map bB)
def Vm:T.fn 263=some (.code lB):=rfl
def Vn{S0:St}{K:List Kt}{Q:Fr→St→Prop}:∀(n:Nat) (l:List Sm),l.length=n→n≤4000000000→∀(cs:List (List Sm)) (qs:List PV) (v:PV) (fr:Fr) (S:St),cs.length+l.length≤4000000000 →
  cF 2 v (l.map bB)→fr 0=v→ad S0 1 S (fr 3) qs→sd qs cs→(∀fr' S' qs',ad S0 1 S' (fr' 3) qs'→sd qs' (cs++bi l)→Ok (aE T K fr' S') Q) →
  Ok (aE T (.lp xc::.blk 0::K) fr S) Q:=by
 intro n
 induction n using Nat.strongRecOn with
 |_ n ih=>
  intro l hln hn cs qs v fr S hb hv h0 ha hq kk;have hlen:=hv.len;rw[bU]at hlen;rw[aV];by_cases hl:l=[]
  ·subst hl;simp -implicitDefEqProofs [h0,hlen];refine kk _ _ qs (by simpa using ha) ?_;rw[bi,dif_pos rfl,dR];exact hq
  ·have hpos:(0:Int)<(l.length:Int):=by have:=List.length_pos_iff.2 hl;omega
   have hmin:(if(120:Int)<(l.length:Int)then(120:Int)else(l.length:Int))=((min 120 l.length:Nat):Int):=by split<;>omega
   obtain⟨v1,s1,s2⟩:=Bx hv (hi:=min 120 l.length) (k:=.i64) (by rw[bU];omega);obtain⟨v2,s3,s4⟩:=hv.lo (lo:=min 120 l.length) (k:=.i64) (by rw[bU];omega)
   have e1:(l.map bB).take (min 120 l.length)=(l.take 120).map bB:=by
    rw[←ve];congr 1;by_cases h:120≤l.length
    ·rw[mD h]
    ·rw[Nat.min_eq_right (by omega),jz (by omega),jz (by omega)]
   have e2:(l.map bB).drop (min 120 l.length)=(l.drop 120).map bB:=by
    rw[←vd];congr 1;by_cases h:120≤l.length
    ·rw[mD h]
    ·rw[Nat.min_eq_right (by omega),sF (by omega),sF (by omega)]
   rw[e1]at s2;rw[e2]at s4;have hap:=s2.appdS (S:=S);have hpl:((l.take 120).map bB).length≤120:=by simp;omega
   have hA:dF 2 16 S .nils ((l.take 120).map bB)=some (.sl (some (S.tips.length,((l.take 120).map bB).length)) ((l.take 120).map bB) [],⟨S.objs,S.tips++[(((l.take 120).map bB).length,2)]⟩):=by
    have hne:((l.take 120).map bB).isEmpty=false:=by cases l with|nil=>exact absurd rfl hl|cons a r=>rfl
    unfold dF;simp only[hne,bp,if_false];rw[if_pos (by omega)];rfl
   have hpos2:0<l.length:=List.length_pos_iff.2 hl;have hql:=hq.1;obtain⟨v',S2,a1,a2,a3⟩:=(ha.arrs [(((l.take 120).map bB).length,2)]).push (bytes:=24) (.sl (some (S.tips.length,((l.take 120).map bB).length)) ((l.take 120).map bB) []) (by omega);have hL:=ih (l.drop 120).length (by have:=List.length_pos_iff.2 hl;simp;omega) (l.drop 120) rfl (by simp;omega) (cs++[l.take 120]) (qs++[.sl (some (S.tips.length,((l.take 120).map bB).length)) ((l.take 120).map bB) []]) v2;have hcut:bi l=l.take 120::bi (l.drop 120):=by rw[bi,dif_neg hl]
   have hqs:sd (qs++[.sl (some (S.tips.length,((l.take 120).map bB).length)) ((l.take 120).map bB) []]) (cs++[l.take 120]):=by
    refine⟨by simp[hql],fun i h h'=>?_⟩;by_cases e:i<qs.length
    ·obtain⟨tip,ht⟩:=hq.2 i e (by omega);rw[List.getElem_append_left e,List.getElem_append_left (by omega)];exact⟨tip,ht⟩
    ·have:i=qs.length:=by simp at h;omega
     subst this;exact⟨some (S.tips.length,((l.take 120).map bB).length),by simp[hql]⟩
   simp only[List.append_assoc,jS,nX]at a1;generalize (l.take 120).map bB=pc at *;simp -implicitDefEqProofs [h0,hlen,hpos,hpos2,hmin,s1,s3,hap,hA,aH,cA,cc,a1];exact hL _ _ (by simp;omega) s4 (by simp) (by simpa using a2) hqs (fun fr' S' qs' b1 b2=>kk fr' S' qs' b1 (by rw[hcut];simpa using b2))
def Vo{l:List Sm}{v:PV}(hv:cF 2 v (l.map bB))(hl:l.length≤4000000000)(S:St):∃v',aM T 263 [v] S=some (v',S)∧se v' (bi l):=by
 have main:∀Q:Fr→St→Prop,(∀fr S' v' qs,ad S 1 S' v' qs→sd qs (bi l)→fr 2=v'→Q fr S')→Ok (aE T [.code lB.body] (bg [v]) S) Q:=by
  intro Q hQ;simp -implicitDefEqProofs [lB];refine Vn l.length l rfl hl [] [] v _ S (by simp;exact hl) hv (by simp) (by simpa using oS 1 (aN.refl S)) ⟨rfl,fun i h=>by simp at h⟩ (fun fr' S' qs' b1 b2=>?_);simp -implicitDefEqProofs;exact hQ _ _ _ qs' b1 (by simpa using b2) (by simp)
 obtain⟨r,S',h1,h2,h3⟩:=gt (R:=fun r S'=>S'=S∧se r (bi l)) Vm rfl (main _ (fun fr S' v' qs ha hq f2=>by
  refine⟨[v'],by simp[lB,bh,fN,f2],?_⟩;obtain⟨hql,hqe⟩:=hq
  have hfree:PV.freeL qs=true:=gT fun x hx=>by
   obtain⟨i,hi,rfl⟩:=eC hx;obtain⟨tip,e⟩:=hqe i hi (by omega);rw[e];simp[PV.free,PV.freeL,nj]
  have hcv:se (gu v' (qs.map PV.frz)) (bi l):=by
   refine⟨qs.map PV.frz,?_,by simp[hql],fun i h h'=>?_⟩
   ·rcases ha.acc with⟨rfl,rfl⟩|⟨id,_,rfl,_⟩
    ·exact ib 1
    ·refine ic (fun e he=>?_) ?_ ?_
     ·obtain⟨x,hx,rfl⟩:=List.mem_map.1 he;obtain⟨i,hi,rfl⟩:=eC hx;obtain⟨tip,e⟩:=hqe i hi (by omega);rw[e];rfl
     ·exact gT fun x hx=>by
       obtain⟨y,hy,rfl⟩:=List.mem_map.1 hx;obtain⟨i,hi,rfl⟩:=eC hy;obtain⟨tip,e⟩:=hqe i hi (by omega);rw[e];simp[PV.frz,PV.free,PV.freeL,PV.frzL,nj,mH]
     ·rw[fH,sI];refine ly fun x hx=>?_;obtain⟨i,hi,rfl⟩:=eC hx;obtain⟨tip,e⟩:=hqe i hi (by omega);simp[e,PV.frz,PV.frzL,mH]
   ·have hi:i<qs.length:=by omega
    obtain⟨tip,e⟩:=hqe i hi h;rw[List.getElem_map,e];have:(PV.sl tip ((bi l)[i].map bB) []).frz=.sl none ((bi l)[i].map bB) []:=by simp[PV.frz,PV.frzL,mH]
    rw[this];exact ic (BV _) (nj _) (mH _)
  have e:ak false S S' v'=(gu v' (qs.map PV.frz),S):=by
   rcases ha.acc with⟨rfl,rfl⟩|⟨id,_,rfl,_⟩
   ·exact eR ha.grows rfl
   ·rw[eR ha.grows (by simp[PV.free,hfree,PV.freeL])];simp[PV.frz,gu,PV.frzL,fH]
  exact⟨congrArg Prod.snd e,by rw[show(ak lB.raw S S' (bu [v'])).1=_ from congrArg Prod.fst e];exact hcv⟩))
 subst h2;exact⟨r,h1,h3⟩
end Ps
set_option linter.defProp false
namespace Ps
set_option linter.unusedSimpArgs false
set_option linter.unusedVariables false
open Go
def Um:T.fn 64=some (.code z35):=rfl
def bZ(l:List bf):Nat:=(l.map fun s=>s.2.length).sum
def fZ(l:List bf)(i:Nat):Nat:=
 if h:i<l.length then(if l[i].2.length=0 then 2 else if cE l[i].2 0=0 then fZ l (i+1)else cE l[i].2 0)else 0
termination_by l.length-i
def dU(l:List bf):Nat:=if 256<l.length∨65536<bZ l then 3 else if df (l.map (·.1))≠0 then df (l.map (·.1))else fZ l 0
def Un(a:Sm):dZ [a]=if eu a.1 a.2=false then 11 else 0:=by
 rw[dZ,if_neg (by simp),cE,dif_pos (by simp),cW];simp only[List.getElem_cons_zero,Nat.lt_irrefl,dite_false];split
 ·simp
 ·rw[if_pos rfl,cE,dif_neg (by simp)]
def Uo(a b:Sm)(ha:eu a.1 a.2=true):dZ [a,b]=if eu b.1 b.2=false then 11 else if b.1≤a.1 then 13 else 0:=by
 have e0:∀h,cW [a,b] 0 h=0:=fun h=>by simp[cW,ha]
 have e1:∀h,cW [a,b] 1 h=if eu b.1 b.2=false then 11 else if b.1≤a.1 then 13 else 0:=fun h=>by simp[cW]
 rw[dZ,if_neg (by simp),cE,dif_pos (by simp),e0,if_pos rfl,cE,dif_pos (by simp),e1];have e2:cE [a,b] (0+1+1)=0:=by rw[cE,dif_neg (by simp)]
 rw[e2];by_cases h1:eu b.1 b.2=false<;>by_cases h2:b.1≤a.1<;>simp[h1,h2]
def Bl(a b:List bf):bZ (a++b)=bZ a+bZ b:=by simp only[bZ,dS,List.sum_append]
def Up{l:List bf}{v:PV}{es:List PV}(hv:bW 2 v es)(hlen:es.length=l.length)(hes:∀(i:Nat)(h:i<l.length)(h':i<es.length),iT es[i] l[i])(hN:l.length≤256)(hsl:∀s∈l,s.2.length≤4000000000)
  {S0:St}{K:List Kt}{Q:Fr→St→Prop}:∀(n i:Nat),l.length-i=n→i≤l.length→∀(fr:Fr) (S:St),
  fr 0=v→fr 15=v→fr 16=.int .i64 l.length→fr 17=.int .i64 i→fr 3=.int .i64 (bZ (l.take i))→bZ (l.take i)≤65536→aN S0 S →
  (bZ l≤65536→∀fr' S',fr' 0=v→aN S0 S'→Ok (aE T K fr' S') Q) →
  (65536<bZ l→∀fr' S',aN S0 S'→fr' 2=.int .i64 3→Q fr' S')→Ok (aE T (.lp wy::.blk 0::K) fr S) Q:=by
 intro n
 induction n with
 |zero=>
  intro i hni hil fr S h0 h15 h16 h17 h3 ht hg k1 k2;have hi:i=l.length:=by omega
  rw[aV];simp -implicitDefEqProofs [h15,h16,h17,hi]
  exact k1 (by rw[hi,List.take_length]at ht;exact ht) _ _ (by simp[h0]) hg
 |succ n ih=>
  intro i hni hil fr S h0 h15 h16 h17 h3 ht hg k1 k2;have hi:i<l.length:=by omega
  have hie:i<es.length:=by omega
  obtain⟨lv,sv,he,hlv,hsv⟩:=hes i hi hie;have hget:=hv.get i hie .i64;rw[he]at hget;have hc0:(PV.agg [lv,sv]).cells=[lv,sv]:=rfl;rw[hc0]at hget;have hw:IntKind.i64.wrap ((i:Int)+1)=((i+1:Nat):Int):=by rw[au]<;>omega
  have hpo:∀{a b:PV},az true 2 [a,b]=some (.agg [a,b]):=fun {a b}=>rfl;have hp1:∀{a:PV} {m:List PV},az false 1 (a::m)=some a:=fun {a m}=>by simp[az]
  obtain⟨o1,o2⟩:=hlv.one;obtain⟨s1,s2⟩:=hsv.one;have hsl2:=hsv.len;rw[bU]at hsl2
  have htk:bZ (l.take (i+1))=bZ (l.take i)+l[i].2.length:=by
   rw[List.take_succ_eq_append_getElem hi,Bl];simp[bZ]
  have hmax:=hsl l[i] (cr hi);by_cases hb:65536<bZ (l.take (i+1))
  ·have htot:65536<bZ l:=by
    have:bZ (l.take (i+1))≤bZ l:=by
     conv=>rhs;rw[←jx (i+1) l,Bl]
     omega
    omega
   have hadd:IntKind.i64.wrap (((bZ (l.take i):Nat):Int)+(l[i].2.length:Int))=((bZ (l.take (i+1)):Nat):Int):=by rw[htk,au]<;>omega
   have hnb:(65536:Int)<((bZ (l.take (i+1)):Nat):Int):=by omega
   rw[aV];simp -implicitDefEqProofs [h0,h15,h16,h17,h3,hi,hget,hpo,hp1,aH,bK,hc0,o1,o2,s1,s2,hsl2,hadd,hnb];exact k2 htot _ _ (hg.obj _) (by simp)
  ·have hadd:IntKind.i64.wrap (((bZ (l.take i):Nat):Int)+(l[i].2.length:Int))=((bZ (l.take (i+1)):Nat):Int):=by rw[htk,au]<;>omega
   have hnb:¬(65536:Int)<((bZ (l.take (i+1)):Nat):Int):=by omega
   rw[aV];simp -implicitDefEqProofs [h0,h15,h16,h17,h3,hi,hget,hpo,hp1,aH,bK,hc0,o1,o2,s1,s2,hsl2,hadd,hnb];exact ih (i+1) (by omega) (by omega) _ _ (by simp[h0]) (by simp[h15]) (by simp[h16]) (by simp[hw]) (by simp) (by omega) (hg.obj _) k1 k2
def Uq{s:List Sm}{sv:PV}(hs:am 2 sv (s.map bB))(hN:s.length≤65536){v:PV}{o1 o2:PV}{lv:PV}{a:Nat}{S0:St}{K:List Kt}{Q:Fr→St→Prop}:∀(n i:Nat),s.length-i=n→i≤s.length→∀(fr:Fr) (S:St),
  fr 0=v→fr 38=v→fr 39=o1→fr 40=o2→fr 9=.ptr a 0→S.objs[a]?=some [lv,sv]→fr 50=.int .i64 s.length→fr 51=.int .i64 i→aN S0 S→(∀j (h:j<s.length),j<i→cW s j h=0) →
  (cE s i=0→∀fr' S',fr' 0=v→fr' 38=v→fr' 39=o1→fr' 40=o2→aN S0 S'→Ok (aE T K fr' S') Q) →
  (cE s i≠0→∀fr' S',aN S0 S'→fr' 2=.int .i64 (cE s i)→Q fr' S')→Ok (aE T (.lp xA::.blk 4::K) fr S) Q:=by
 intro n
 induction n with
 |zero=>
  intro i hni hil fr S h0 h38 h39 h40 h9 hob h50 h51 hg hok k1 k2;have hi:i=s.length:=by omega
  have hc:cE s i=0:=by rw[cE,dif_neg (by omega)]
  rw[aV];simp -implicitDefEqProofs [h50,h51,hi]
  exact k1 hc _ _ (by simp[h0]) (by simp[h38]) (by simp[h39]) (by simp[h40]) hg
 |succ n ih=>
  intro i hni hil fr S h0 h38 h39 h40 h9 hob h50 h51 hg hok k1 k2;have hi:i<s.length:=by omega
  have hw:IntKind.i64.wrap ((i:Int)+1)=((i+1:Nat):Int):=by rw[au]<;>omega
  have hw1:IntKind.i64.wrap ((i:Int)+1)=(i:Int)+1:=by rw[au]<;>omega
  have hsub:IntKind.i64.wrap ((i:Int)-1)=(i:Int)-1:=by rw[au]<;>omega
  have hmx:(if 1<(i:Int)then(i:Int)-1 else 0)=((i-1:Nat):Int):=by split<;>omega
  obtain⟨cv,hcv,hcv2⟩:=hs.isl.lh (lo:=i-1) (hi:=i+1) (k:=.i64) (j:=.i64) (by omega) (by simp;omega);have hcv':dx 2 (some (.int .i64 (if 1<(i:Int)then(i:Int)-1 else 0))) (some (.int .i64 ((i:Int)+1))) sv=some cv:=by rw[hmx];exact hcv
  have hld:∀ag n,cg S ag n (.ptr a 1)=az ag n [sv]:=fun ag n=>by rw[dM hob];rfl
  have hp1:∀{a:PV} {m:List PV},az false 1 (a::m)=some a:=fun {a m}=>by simp[az]
  obtain⟨c,hc⟩:∃c:List Sm,c=((s.take (i+1)).drop (i-1)):=⟨_,rfl⟩;have hcv3:bW 2 cv (c.map bB):=by rw[hc,vd,ve];exact hcv2.reads
  have hcc:=fun S=>BW hcv3 S
  have hval:dZ c=cW s i hi:=by
   by_cases hi0:0<i
   ·have hcd:c=[s[i-1],s[i]]:=by
     rw[hc];apply List.ext_getElem
     ·simp;omega
     ·intro q h1 h2;simp only[bE,cO]at h2
      match q with
      |0=>simp
      |1=>simp[show i-1+1=i by omega]
      |q+2=>omega
    have hp:=hok (i-1) (by omega) (by omega)
    have hm:eu s[i-1].1 s[i-1].2=true:=by
     rw[cW]at hp;split at hp
     ·cases hp
     ·rename_i h;simpa using h
    rw[hcd,Uo _ _ hm,cW,dif_pos hi0]
   ·have:i=0:=by omega
    subst this
    have hcd:c=[s[0]]:=by
     rw[hc];apply List.ext_getElem
     ·simp;omega
     ·intro q h1 h2;simp only[bE,cO]at h2
      match q with
      |0=>simp
      |q+1=>omega
    rw[hcd,Un,cW,dif_neg (by omega)]
  rw[cE,dif_pos hi]at k1 k2;by_cases hz:cW s i hi=0
  ·rw[if_pos hz]at k1 k2;rw[hz]at hval;rw[aV];simp -implicitDefEqProofs [h0,h38,h39,h40,h9,h50,h51,hi,hsub,hld,hp1,hcv',hcc,hval,hw1];refine ih (i+1) (by omega) (by omega) _ S (by simp[h0]) (by simp[h38]) (by simp[h39]) (by simp[h40]) (by simp[h9]) hob (by simp[h50]) (by simp) hg (fun j h hj=>?_) k1 k2;by_cases e:j=i
   ·subst e;exact hz
   ·exact hok j h (by omega)
  ·rw[if_neg hz]at k2;have hcb:(((cW s i hi:Nat):Int) != 0)=true:=by simpa using hz
   rw[aV];simp -implicitDefEqProofs [h0,h38,h39,h40,h9,h50,h51,hi,hsub,hld,hp1,hcv',hcc,hval,hcb,hw1];exact k2 hz _ _ hg (by simp)
def Ur{l:List bf}{v:PV}{es:List PV}(hv:bW 2 v es)(hlen:es.length=l.length)(hes:∀(i:Nat)(h:i<l.length)(h':i<es.length),iT es[i] l[i])(hN:l.length≤256)(hsl:∀s∈l,s.2.length≤65536)
  {S0:St}{K:List Kt}{Q:Fr→St→Prop}:∀(n i:Nat),l.length-i=n→i≤l.length→∀(fr:Fr) (S:St),
  fr 0=v→fr 38=v→fr 39=.int .i64 l.length→fr 40=.int .i64 i→aN S0 S→(fZ l i=0→∀fr' S',aN S0 S'→Ok (aE T K fr' S') Q) →
  (fZ l i≠0→∀fr' S',aN S0 S'→fr' 2=.int .i64 (fZ l i)→Q fr' S')→Ok (aE T (.lp xB::.blk 2::K) fr S) Q:=by
 intro n
 induction n with
 |zero=>
  intro i hni hil fr S h0 h38 h39 h40 hg k1 k2;have hi:i=l.length:=by omega
  have hc:fZ l i=0:=by rw[fZ,dif_neg (by omega)]
  rw[aV];simp -implicitDefEqProofs [h38,h39,h40,hi]
  exact k1 hc _ _ hg
 |succ n ih=>
  intro i hni hil fr S h0 h38 h39 h40 hg k1 k2;have hi:i<l.length:=by omega
  have hie:i<es.length:=by omega
  obtain⟨lv,sv,he,hlv,hsv⟩:=hes i hi hie;have hget:=hv.get i hie .i64;rw[he]at hget;have hc0:(PV.agg [lv,sv]).cells=[lv,sv]:=rfl;rw[hc0]at hget;have hw:IntKind.i64.wrap ((i:Int)+1)=((i+1:Nat):Int):=by rw[au]<;>omega
  have hpo:∀{a b:PV},az true 2 [a,b]=some (.agg [a,b]):=fun {a b}=>rfl;have hp1:∀{a:PV} {m:List PV},az false 1 (a::m)=some a:=fun {a m}=>by simp[az]
  obtain⟨o1,o2⟩:=hlv.one;obtain⟨s1,s2⟩:=hsv.one;have hsl2:=hsv.len;rw[bU]at hsl2;have hmax:=hsl l[i] (cr hi);rw[fZ,dif_pos hi]at k1 k2;by_cases h0l:l[i].2.length=0
  ·rw[if_pos h0l]at k2;have hz:(((l[i].2.length:Nat):Int)==0)=true:=by rw[beq_iff_eq];omega
   rw[aV];simp -implicitDefEqProofs [h0,h38,h39,h40,hi,hget,hpo,hp1,aH,bK,hc0,o1,o2,s1,s2,hsl2,hz];exact k2 (by decide) _ _ (hg.obj _) (by simp)
  ·rw[if_neg h0l]at k1 k2;have hz:(((l[i].2.length:Nat):Int)==0)=false:=by rw[beq_eq_false_iff_ne];omega
   rw[aV];simp -implicitDefEqProofs [h0,h38,h39,h40,hi,hget,hpo,hp1,aH,bK,hc0,o1,o2,s1,s2,hsl2,hz]
   refine Uq (v:=v) (o1:=.int .i64 l.length) (o2:=.int .i64 i) (lv:=lv) (a:=S.objs.length) hsv hmax l[i].2.length 0 (by omega) (by omega) _ _ (by simp[h0]) (by simp[h38]) (by simp[h39]) (by simp[h40]) (by simp) (by simp) (by simp) (by simp) (hg.obj _) (fun j h hj=>by omega)
    (fun hz fr' S' g0 g38 g39 g40 gg=>?_) (fun hz fr' S' gg g2=>?_)
   ·rw[if_pos hz]at k1 k2;simp -implicitDefEqProofs [g40];exact ih (i+1) (by omega) (by omega) _ _ (by simp[g0]) (by simp[g38]) (by simp[g39]) (by simp[hw]) gg k1 k2
   ·rw[if_neg hz]at k2;exact k2 hz fr' S' gg g2
theorem wH{n:Nat}:∀{l:List Nat},n∈l→n≤l.sum
 |a::l,h=>by
  rw[vh];rcases cQ.1 h with rfl|h
  ·omega
  ·have:=wH h;omega
def wI{l:List bf}{v:PV}(hv:eK v l)(hb:∀s∈l,(s.1.length≤maxLen∧∀x∈s.1,x.1.length≤maxLen)∧s.2.length≤4000000000)(hN:l.length≤4000000000)(S:St):aM T 64 [v] S=some (.int .i64 (dU l),S):=by
 obtain⟨es,hes,hlen,hel⟩:=id hv;have hvl:=hes.len;rw[hlen]at hvl;refine bP Um rfl ?_;by_cases hbig:256<l.length
 ·have hn:dU l=3:=by rw[dU,if_pos (.inl hbig)]
  have hc:(256:Int)<(l.length:Int):=by omega
  simp -implicitDefEqProofs [z35,hvl,hc,hn]
 ·have hc:¬(256:Int)<(l.length:Int):=by omega
  simp -implicitDefEqProofs [z35,hvl,hc];refine Up hes.reads hlen hel (by omega) (fun s hs=>(hb s hs).2) l.length 0 (by omega) (by omega) _ S (by simp) (by simp) (by simp) (by simp) (by simp[bZ]) (by simp[bZ]) (aN.refl S) (fun ht fr1 S1 g0 gg=>?_) (fun ht fr1 S1 gg g2=>?_)
  rotate_left
  ·have hn:dU l=3:=by rw[dU,if_pos (.inr ht)]
   simp[gg,g2,hn]
  have hsmall:∀s∈l,s.2.length≤65536:=by
   intro s hs;have:s.2.length≤bZ l:=wH (List.mem_map.2 ⟨s,hs,rfl⟩);omega
  obtain⟨v',hs1,hs2⟩:=BX hv (by omega) S1;have hn0:dU l=if df (l.map (·.1))≠0 then df (l.map (·.1))else fZ l 0:=by rw[dU,if_neg (by omega)]
  obtain⟨w1,w2⟩:=Bk hs2 (fun x hx=>by obtain⟨s,hs,rfl⟩:=List.mem_map.1 hx;exact(hb s hs).1) (by simp;unfold maxLen;omega) S1;by_cases hz:df (l.map (·.1))=0
  ·obtain⟨S2,x1,x2,x3⟩:=w2 hz;rw[if_neg (by simp[hz])]at hn0;simp -implicitDefEqProofs [g0,hs1,x1,hvl];refine Ur hes.reads hlen hel (by omega) hsmall l.length 0 (by omega) (by omega) _ S2 (by simp[g0]) (by simp[g0]) (by simp) (by simp) (gg.trans x2) (fun hz fr' S' gg=>?_) (fun hz fr' S' gg g2=>?_)
   ·simp[gg,hn0,hz]
   ·simp[gg,g2,hn0]
  ·rw[if_pos hz]at hn0;have hcb:(((df (l.map (·.1)):Nat):Int) != 0)=true:=by simpa using hz
   simp -implicitDefEqProofs [g0,hs1,w1 hz,hcb];simp[gg,hn0]
end Ps
