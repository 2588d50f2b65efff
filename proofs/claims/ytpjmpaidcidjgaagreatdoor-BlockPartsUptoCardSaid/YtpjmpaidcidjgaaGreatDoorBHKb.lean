/- Series that may be a block: block.Check. -/
import Derived.Test.YtpjmpaidcidjgaaGreatDoorDefsKb
import Derived.Test.YtpjmpaidcidjgaaGreatDoorShelfAKb
import Derived.Test.YtpjmpaidcidjgaaGreatDoorCXKb
import Derived.Test.YtpjmpaidcidjgaaGreatDoorExtMKb
import Derived.Test.YtpjmpaidcidjgaaGreatDoorSimVKb
import Derived.Test.YtpjmpaidcidjgaaGreatDoorCWKb
import Derived.Test.YtpjmpaidcidjgaaGreatDoorBSKb
set_option linter.defProp false
namespace Ps
set_option linter.unusedSimpArgs false
set_option linter.unusedVariables false
open Go Go.Proofs
open Go.RowKit (Below)
def mY:List PV→St→Option (PV×St)
 | [.iface 3 (.agg [.int .i64 n]),.iface 2 (.ptr id off)],S=>match S.objs[id]? with
  |some cs=>if off<cs.length then some (.bool true,{S with objs:=S.objs.set id (ak cs off [.int .i64 n])})else none
  |none=>none
 |_,_=>none
def VP{X:Tie}{g:Gh}{w:World}{a b:PV}{us:Array Value}(hV:bX X g w [a,b] us):∃x y,us = #[x,y]∧VR X g w a x∧VR X g w b y:=by
 have h2:us.size=2:=hV.1.symm;refine⟨us[0],us[1],?_,hV.2 0 a us[0] rfl (gE (by omega)),hV.2 1 b us[1] rfl (gE (by omega))⟩;apply xe
 ·simp[h2]
 ·intro i hi1 hi2;simp at hi2
  match i with
  |0=>rfl
  |1=>rfl
  |i+2=>omega
set_option maxRecDepth 20000 in
def VQ:rB tie 159 mY:=by
 intro args S r S' h g w us hS hV;unfold mY at h;split at h
 ·rename_i n id off;split at h
  ·rename_i cs hcs;split at h
   ·rename_i hoff;cases h;obtain⟨x,y,rfl,hx,hy⟩:=VP hV
    cases hx with
    |iface _ _ u0 h0=>
     have hu0:u0=.agg #[.int .i64 n]:=by
      cases h0 with
      |agg _ vs hl hv=>
       obtain⟨l⟩:=vs
       match l,hl with
       | [a],_=>have h0:=hv 0 _ _ rfl rfl;cases h0;rfl
     subst hu0
     cases hy with
     |iface _ _ u1 h1=>
      cases h1 with
      |ptr _ _ b hb=>
       have ht3:tie.ty 3=72:=by kernel_rfl
       have ht2:tie.ty 2=77:=by kernel_rfl
       rw[ht3,ht2];obtain⟨hpr,hgl⟩:=hS.gl (0,.iface 169 (.agg #[.pointer (some ⟨1,74,none⟩)])) (jW.2 rfl);obtain⟨cs',us',t,q1,q2,q3,q4⟩:=hS.obj id b hb;rw[hcs]at q1;cases q1;have hlt:off<us'.size:=by omega
       have hcell:w.cell? ⟨b,off,none⟩=some us'[off]:=by simp[World.cell?,q2,hlt]
       have hfz:w.frozen? ⟨b,off,none⟩=false:=by simp[World.frozen?,q2]
       have hcall:=Tz.as_hit n ⟨b,off,none⟩ us'[off] w hgl hcell hfz;have hfn:tie.fnOf 159=36:=by kernel_rfl
       rw[hfn];refine Sr (X:=tie) (f:=36) (fn:=Tryz.f36) Tryz.func36 (by decide +kernel) (by kernel_rfl) (hcall.mono fun e w' he=>?_);obtain⟨rfl,hw'⟩:=he;refine⟨_,rfl,?_⟩;have hbl:b<w.heap.size:=(cO.1 q2).1;obtain⟨w4,hw4⟩:∃w4,w4=(((w.alloc (.cells #[.pointer (some ⟨b,off,none⟩)] 77)).alloc (.cells #[.pointer (some ⟨1,77,none⟩),.pointer (some ⟨w.heap.size,0,none⟩),.int .u64 150] 127)).alloc (.cells #[.pointer (some ⟨1,77,none⟩),.pointer (some ⟨w.heap.size,0,none⟩),.int .u64 150] 127)).alloc (.cells #[.int .i64 n] 72):=⟨_,rfl⟩;rw[←hw4]at hw'
       have hB:Below w.heap.size w w4:=by
        rw[hw4];exact((((Below.refl _ w).alloc (aU _) _).alloc (by simp) _).alloc (by simp;omega) _).alloc (by simp;omega) _
       have hle:=nZ hS hB;have hS4:=tw hS hB
       obtain⟨w5,hrun,hst⟩:=DF (off:=off) (cs:=cs) (vs:=[.int .i64 n]) (xs:=#[.int .i64 n]) hS4 hb hcs ⟨rfl,fun j c u e1 e2=>by
        cases j with
        |zero=>simp at e1 e2;subst e1;subst e2;exact .int _ _
        |succ j=>simp at e1⟩ rfl (by have:=hoff;simp only[bL,cW];omega)
       have hc4:w4.cell? ⟨b,off,none⟩=some us'[off]:=by rw[←hcell];simp only[World.cell?,hB.block b hbl]
       have hf4:w4.frozen? ⟨b,off,none⟩=false:=by rw[←hfz];simp only[World.frozen?,hB.block b hbl]
       have hrun2:(storeCells ⟨b,off,none⟩ [.int .i64 n]).run tie.P w4=.ok () (w4.setCell ⟨b,off,none⟩ (.int .i64 n)):=by
        simp only[storeCells,Sem.run_bind,Addr.add];simp[run_store_int,stored,hc4,hf4]
       have hw5:w5=w':=by
        have:(storeCells ⟨b,off,none⟩ [.int .i64 n]).run tie.P w4=.ok () w5:=by simpa using hrun
        rw[hrun2]at this;cases this;exact hw'.symm
       subst hw5;obtain⟨g',hl',hS',_⟩:=hst;exact⟨g',hle.trans hl',hS',.bool true⟩
   ·cases h
  ·cases h
 ·cases h
end Ps
set_option linter.defProp false
namespace Ps
set_option linter.unusedSimpArgs false
set_option linter.unusedVariables false
open Go Go.Proofs
set_option maxRecDepth 100000
def Fp:PV→aQ
 |.agg [.str a,.str b]=>(a,b,())
 |_=>([],[],())
def rf:PV→List PV
 |.sl _ es _=>es
 |_=>[]
def ri(v:PV):List (List aQ):=(rf v).map fun e=>(rf e).map Fp
def yd{sz:Nat}{v:PV}{es:List PV}(h:ay sz v es):rf v=es:=by
 rcases h.val with⟨rfl,rfl⟩|⟨sp,rfl,_⟩<;>rfl
def YP{S:St}{sz n0:Nat}{v:PV}{es:List PV}(h:fL S sz n0 v es):rf v=es:=by
 rcases h with⟨rfl,rfl⟩|⟨id,_,rfl,_⟩<;>rfl
def YQ(l:List aQ):(l.map bH).map Fp=l:=by
 rw[pT]
 conv=>rhs;rw[←rP l]
 exact mS fun x _=>rfl
def YR{sv:PV}{qs:List PV}{ls:List (List aQ)}(he:rf sv=qs)(hl:qs.length=ls.length)(hq:∀(j:Nat)(h:j<ls.length)(h':j<qs.length),ay 2 qs[j] (ls[j].map bH)):ri sv=ls:=by
 unfold ri;rw[he];apply List.ext_getElem (by simpa using hl);intro i h1 h2;simp only[List.getElem_map];rw[yd (hq i h2 (by omega)),YQ]
open Classical in
noncomputable def oG:List PV→St→Option (PV×St)
 | [.ptr ox 0],S=>match S.objs[ox]? with
  |some [sv,.map _]=>if eD S (.ptr ox 0) (ri sv)∧gQ (ri sv)then some (.sl none (aI (cU (ri sv))) [],S)else none
  |_=>none
 |_,_=>none
def YS{S:St}{p:PV}{ls:List (List aQ)}(h:eD S p ls)(hx:gQ ls):oG [p] S=some (.sl none (aI (cU ls)) [],S):=by
 obtain⟨ox,om,n0,sv,qs,kv,rfl,hne,hox,hom,hown,hql,hqs,hnd,hk⟩:=id h.at_;have e:=YR (YP hown) hql hqs;unfold oG;simp only[hox];rw[if_pos (by rw[e];exact⟨h,hx⟩),e]
noncomputable def T1:aV:=⟨fun f=>if f=159 then some (.exs mY)else if f=134 then some (.exs oG)else T.fn f,T.meth⟩
def YT:T1.fn 134=some (.exs oG):=rfl
def Fq(f:Nat):T1.fn f=if f=159 then some (.exs mY)else if f=134 then some (.exs oG)else T.fn f:=rfl
def YU:T.fn 159=none:=rfl
def YV:T.fn 134=none:=rfl
def YW:rF T T1 where
 meth:=rfl
 fn:=fun f pf h=>by
  have h1:f≠159:=fun e=>by rw[e]at h;exact absurd (h.symm.trans YU) (by simp)
  have h2:f≠134:=fun e=>by rw[e]at h;exact absurd (h.symm.trans YV) (by simp)
  rw[Fq,if_neg h1,if_neg h2];exact h
def lW{f:Nat}{args:List PV}{S:St}{r:PV×St}(h:aN T f args S=some r):aN T1 f args S=some r:=Uj YW h
def YX:rB (tie.withT T1) 134 oG:=Uh (X:=tie) (T:=T1) fun args S r S' he=>by
 unfold oG at he;split at he
 ·split at he
  ·split at he
   ·rename_i hh;cases he;exact YO hh.1 hh.2
   ·cases he
  ·cases he
 ·cases he
def YY:az (tie.withT T1) 159 (.exs mY):=az.tb (X:=tie) (T:=T1) (show az tie 159 (.exs mY)from VQ)
def Fs:dR (tie.withT T1):=dR.of (X:=tie) (T:=T1) tieOk rfl fun f pf h=>by
 rw[Fq]at h;by_cases e:f=159
 ·rw[if_pos e]at h;have:=iz h;subst this e;exact YY
 ·rw[if_neg e]at h;by_cases e2:f=134
  ·rw[if_pos e2]at h;have:=iz h;subst this e2;exact YX
  ·rw[if_neg e2]at h;exact(tieOk.fns f pf h).tb
def Ft{S:St}{p:PV}{ls:List (List aQ)}(h:eD S p ls)(hx:gQ ls):aN T1 134 [p] S=some (.sl none (aI (cU ls)) [],S):=vD YT (YS h hx)
end Ps
set_option linter.defProp false
namespace Ps
set_option linter.unusedSimpArgs false
set_option linter.unusedVariables false
open Go
def cL(l:List Sm):List (List Sm):=if h:l=[]then []else l.take 120::cL (l.drop 120)
termination_by l.length
decreasing_by
 have:=List.length_pos_iff.2 h;simp;omega
def Xr{sz:Nat}{v:PV}{es:List PV}(h:ba sz v es){hi:Nat}{k:IntKind}(hh:hi≤es.length):∃v',eM sz none (some (.int k (hi:Int))) v=some v'∧ba sz v' (es.take hi):=by
 rcases h with⟨rfl,rfl⟩|⟨tip,sp,rfl,h⟩
 ·have:hi=0:=by simpa using hh
  subst this;exact⟨.nils,by rw[uC,wg (by omega)],.inl ⟨rfl,rfl⟩⟩
 ·refine⟨.sl (if hi=es.length then tip else none) (es.take hi) ((es++sp).drop hi),?_,.inr ⟨_,_,rfl,fun e he=>?_⟩⟩
  ·rw[uD,qZ h,wg (by omega)];simp only[xh,cH,if_false,jz,lO hh]
  apply h;rcases bg.1 he with he|he
  ·exact rQ _ (kA he)
  ·exact gN he
def uy(qs:List PV)(cs:List (List Sm)):Prop:=qs.length=cs.length∧∀(i:Nat) (h:i<qs.length) (h':i<cs.length),∃tip,qs[i]=.sl tip (cs[i].map bC) []
def uz(v:PV)(cs:List (List Sm)):Prop:=∃es,ay 1 v es∧es.length=cs.length∧∀(i:Nat) (h:i<cs.length) (h':i<es.length),ay 2 es[i] (cs[i].map bC)
def Xs:T.fn 263=some (.code mt):=rfl
def Xt{S0:St}{K:List Kt}{Q:Fr→St→Prop}:∀(n:Nat) (l:List Sm),l.length=n→n≤4000000000→∀(cs:List (List Sm)) (qs:List PV) (v:PV) (fr:Fr) (S:St),cs.length+l.length≤4000000000 →
  ba 2 v (l.map bC)→fr 0=v→ah S0 1 S (fr 3) qs→uy qs cs→(∀fr' S' qs',ah S0 1 S' (fr' 3) qs'→uy qs' (cs++cL l)→Ok (aE T K fr' S') Q) →
  Ok (aE T (.lp AQ::.blk 0::K) fr S) Q:=by
 intro n
 induction n using Nat.strongRecOn with
 |_ n ih=>
  intro l hln hn cs qs v fr S hb hv h0 ha hq kk;have hlen:=hv.len;rw[bz]at hlen;rw[ax];by_cases hl:l=[]
  ·subst hl;simp -implicitDefEqProofs [h0,hlen];refine kk _ _ qs (by simpa using ha) ?_;rw[cL,dif_pos rfl,eP];exact hq
  ·have hpos:(0:Int)<(l.length:Int):=by have:=List.length_pos_iff.2 hl;omega
   have hmin:(if(120:Int)<(l.length:Int)then(120:Int)else(l.length:Int))=((min 120 l.length:Nat):Int):=by split<;>omega
   obtain⟨v1,s1,s2⟩:=Xr hv (hi:=min 120 l.length) (k:=.i64) (by rw[bz];omega);obtain⟨v2,s3,s4⟩:=hv.lo (lo:=min 120 l.length) (k:=.i64) (by rw[bz];omega)
   have e1:(l.map bC).take (min 120 l.length)=(l.take 120).map bC:=by
    rw[←np];congr 1;by_cases h:120≤l.length
    ·rw[uV h]
    ·rw[Nat.min_eq_right (by omega),lP (by omega),lP (by omega)]
   have e2:(l.map bC).drop (min 120 l.length)=(l.drop 120).map bC:=by
    rw[←rO];congr 1;by_cases h:120≤l.length
    ·rw[uV h]
    ·rw[Nat.min_eq_right (by omega),ER (by omega),ER (by omega)]
   rw[e1]at s2;rw[e2]at s4;have hap:=s2.appdS (S:=S);have hpl:((l.take 120).map bC).length≤120:=by simp;omega
   have hA:eh 2 16 S .nils ((l.take 120).map bC)=some (.sl (some (S.tips.length,((l.take 120).map bC).length)) ((l.take 120).map bC) [],⟨S.objs,S.tips++[(((l.take 120).map bC).length,2)]⟩):=by
    have hne:((l.take 120).map bC).isEmpty=false:=by cases l with|nil=>exact absurd rfl hl|cons a r=>rfl
    unfold eh;simp only[hne,cH,if_false];rw[if_pos (by omega)];rfl
   have hpos2:0<l.length:=List.length_pos_iff.2 hl;have hql:=hq.1;obtain⟨v',S2,a1,a2,a3⟩:=(ha.arrs [(((l.take 120).map bC).length,2)]).push (bytes:=24) (.sl (some (S.tips.length,((l.take 120).map bC).length)) ((l.take 120).map bC) []) (by omega);have hL:=ih (l.drop 120).length (by have:=List.length_pos_iff.2 hl;simp;omega) (l.drop 120) rfl (by simp;omega) (cs++[l.take 120]) (qs++[.sl (some (S.tips.length,((l.take 120).map bC).length)) ((l.take 120).map bC) []]) v2;have hcut:cL l=l.take 120::cL (l.drop 120):=by rw[cL,dif_neg hl]
   have hqs:uy (qs++[.sl (some (S.tips.length,((l.take 120).map bC).length)) ((l.take 120).map bC) []]) (cs++[l.take 120]):=by
    refine⟨by simp[hql],fun i h h'=>?_⟩;by_cases e:i<qs.length
    ·obtain⟨tip,ht⟩:=hq.2 i e (by omega);rw[List.getElem_append_left e,List.getElem_append_left (by omega)];exact⟨tip,ht⟩
    ·have:i=qs.length:=by simp at h;omega
     subst this;exact⟨some (S.tips.length,((l.take 120).map bC).length),by simp[hql]⟩
   simp only[fi,iH,mT]at a1;generalize (l.take 120).map bC=pc at *;simp -implicitDefEqProofs [h0,hlen,hpos,hpos2,hmin,s1,s3,hap,hA,aG,cY,dU,a1];exact hL _ _ (by simp;omega) s4 (by simp) (by simpa using a2) hqs (fun fr' S' qs' b1 b2=>kk fr' S' qs' b1 (by rw[hcut];simpa using b2))
def Xu{l:List Sm}{v:PV}(hv:ba 2 v (l.map bC))(hl:l.length≤4000000000)(S:St):∃v',aN T 263 [v] S=some (v',S)∧uz v' (cL l):=by
 have main:∀Q:Fr→St→Prop,(∀fr S' v' qs,ah S 1 S' v' qs→uy qs (cL l)→fr 2=v'→Q fr S')→Ok (aE T [.code mt.body] (bk [v]) S) Q:=by
  intro Q hQ;simp -implicitDefEqProofs [mt];refine Xt l.length l rfl hl [] [] v _ S (by simp;exact hl) hv (by simp) (by simpa using lG 1 (aL.refl S)) ⟨rfl,fun i h=>by simp at h⟩ (fun fr' S' qs' b1 b2=>?_);simp -implicitDefEqProofs;exact hQ _ _ _ qs' b1 (by simpa using b2) (by simp)
 obtain⟨r,S',h1,h2,h3⟩:=qW (R:=fun r S'=>S'=S∧uz r (cL l)) Xs rfl (main _ (fun fr S' v' qs ha hq f2=>by
  refine⟨[v'],by simp[mt,cF,gu,f2],?_⟩;obtain⟨hql,hqe⟩:=hq
  have hfree:PV.freeL qs=true:=il fun x hx=>by
   obtain⟨i,hi,rfl⟩:=dz hx;obtain⟨tip,e⟩:=hqe i hi (by omega);rw[e];simp[PV.free,PV.freeL,pk]
  have hcv:uz (jo v' (qs.map PV.frz)) (cL l):=by
   refine⟨qs.map PV.frz,?_,by simp[hql],fun i h h'=>?_⟩
   ·rcases ha.acc with⟨rfl,rfl⟩|⟨id,_,rfl,_⟩
    ·exact jn 1
    ·refine od (fun e he=>?_) ?_ ?_
     ·obtain⟨x,hx,rfl⟩:=List.mem_map.1 he;obtain⟨i,hi,rfl⟩:=dz hx;obtain⟨tip,e⟩:=hqe i hi (by omega);rw[e];rfl
     ·exact il fun x hx=>by
       obtain⟨y,hy,rfl⟩:=List.mem_map.1 hx;obtain⟨i,hi,rfl⟩:=dz hy;obtain⟨tip,e⟩:=hqe i hi (by omega);rw[e];simp[PV.frz,PV.free,PV.freeL,PV.frzL,pk,oC]
     ·rw[gL,pT];refine mS fun x hx=>?_;obtain⟨i,hi,rfl⟩:=dz hx;obtain⟨tip,e⟩:=hqe i hi (by omega);simp[e,PV.frz,PV.frzL,oC]
   ·have hi:i<qs.length:=by omega
    obtain⟨tip,e⟩:=hqe i hi h;rw[List.getElem_map,e];have:(PV.sl tip ((cL l)[i].map bC) []).frz=.sl none ((cL l)[i].map bC) []:=by simp[PV.frz,PV.frzL,oC]
    rw[this];exact od (oD _) (pk _) (oC _)
  have e:aW false S S' v'=(jo v' (qs.map PV.frz),S):=by
   rcases ha.acc with⟨rfl,rfl⟩|⟨id,_,rfl,_⟩
   ·exact cZ ha.grows rfl
   ·rw[cZ ha.grows (by simp[PV.free,hfree,PV.freeL])];simp[PV.frz,jo,PV.frzL,gL]
  exact⟨congrArg Prod.snd e,by rw[show(aW mt.raw S S' (bb [v'])).1=_ from congrArg Prod.fst e];exact hcv⟩))
 subst h2;exact⟨r,h1,h3⟩
end Ps
set_option linter.defProp false
namespace Ps
set_option linter.unusedSimpArgs false
set_option linter.unusedVariables false
open Go
def Wq:T.fn 64=some (.code qB):=rfl
def cu(l:List cD):Nat:=(l.map fun s=>s.2.length).sum
def kD(l:List cD)(i:Nat):Nat:=
 if h:i<l.length then(if l[i].2.length=0 then 2 else if de l[i].2 0=0 then kD l (i+1)else de l[i].2 0)else 0
termination_by l.length-i
def dT(l:List cD):Nat:=if 256<l.length∨65536<cu l then 3 else if dZ (l.map (·.1))≠0 then dZ (l.map (·.1))else kD l 0
def Wr(a:Sm):fV [a]=if eS a.1 a.2=false then 11 else 0:=by
 rw[fV,if_neg (by simp),de,dif_pos (by simp),dq];simp only[List.getElem_cons_zero,Nat.lt_irrefl,dite_false];split
 ·simp
 ·rw[if_pos rfl,de,dif_neg (by simp)]
def Ws(a b:Sm)(ha:eS a.1 a.2=true):fV [a,b]=if eS b.1 b.2=false then 11 else if b.1≤a.1 then 13 else 0:=by
 have e0:∀h,dq [a,b] 0 h=0:=fun h=>by simp[dq,ha]
 have e1:∀h,dq [a,b] 1 h=if eS b.1 b.2=false then 11 else if b.1≤a.1 then 13 else 0:=fun h=>by simp[dq]
 rw[fV,if_neg (by simp),de,dif_pos (by simp),e0,if_pos rfl,de,dif_pos (by simp),e1];have e2:de [a,b] (0+1+1)=0:=by rw[de,dif_neg (by simp)]
 rw[e2];by_cases h1:eS b.1 b.2=false<;>by_cases h2:b.1≤a.1<;>simp[h1,h2]
def FS(a b:List cD):cu (a++b)=cu a+cu b:=by simp only[cu,eQ,List.sum_append]
def Wt{l:List cD}{v:PV}{es:List PV}(hv:cM 2 v es)(hlen:es.length=l.length)(hes:∀(i:Nat)(h:i<l.length)(h':i<es.length),iZ es[i] l[i])(hN:l.length≤256)(hsl:∀s∈l,s.2.length≤4000000000)
  {S0:St}{K:List Kt}{Q:Fr→St→Prop}:∀(n i:Nat),l.length-i=n→i≤l.length→∀(fr:Fr) (S:St),
  fr 0=v→fr 15=v→fr 16=.int .i64 l.length→fr 17=.int .i64 i→fr 3=.int .i64 (cu (l.take i))→cu (l.take i)≤65536→aL S0 S →
  (cu l≤65536→∀fr' S',fr' 0=v→aL S0 S'→Ok (aE T K fr' S') Q) →
  (65536<cu l→∀fr' S',aL S0 S'→fr' 2=.int .i64 3→Q fr' S')→Ok (aE T (.lp zb::.blk 0::K) fr S) Q:=by
 intro n
 induction n with
 |zero=>
  intro i hni hil fr S h0 h15 h16 h17 h3 ht hg k1 k2;have hi:i=l.length:=by omega
  rw[ax];simp -implicitDefEqProofs [h15,h16,h17,hi]
  exact k1 (by rw[hi,kf]at ht;exact ht) _ _ (by simp[h0]) hg
 |succ n ih=>
  intro i hni hil fr S h0 h15 h16 h17 h3 ht hg k1 k2;have hi:i<l.length:=by omega
  have hie:i<es.length:=by omega
  obtain⟨lv,sv,he,hlv,hsv⟩:=hes i hi hie;have hget:=hv.get i hie .i64;rw[he]at hget;have hc0:(PV.agg [lv,sv]).cells=[lv,sv]:=rfl;rw[hc0]at hget;have hw:IntKind.i64.wrap ((i:Int)+1)=((i+1:Nat):Int):=by rw[au]<;>omega
  have hpo:∀{a b:PV},bG true 2 [a,b]=some (.agg [a,b]):=fun {a b}=>rfl;have hp1:∀{a:PV} {m:List PV},bG false 1 (a::m)=some a:=fun {a m}=>by simp[bG]
  obtain⟨o1,o2⟩:=hlv.one;obtain⟨s1,s2⟩:=hsv.one;have hsl2:=hsv.len;rw[bz]at hsl2
  have htk:cu (l.take (i+1))=cu (l.take i)+l[i].2.length:=by
   rw[List.take_succ_eq_append_getElem hi,FS];simp[cu]
  have hmax:=hsl l[i] (List.getElem_mem hi);by_cases hb:65536<cu (l.take (i+1))
  ·have htot:65536<cu l:=by
    have:cu (l.take (i+1))≤cu l:=by
     conv=>rhs;rw[←ke (i+1) l,FS]
     omega
    omega
   have hadd:IntKind.i64.wrap (((cu (l.take i):Nat):Int)+(l[i].2.length:Int))=((cu (l.take (i+1)):Nat):Int):=by rw[htk,au]<;>omega
   have hnb:(65536:Int)<((cu (l.take (i+1)):Nat):Int):=by omega
   rw[ax];simp -implicitDefEqProofs [h0,h15,h16,h17,h3,hi,hget,hpo,hp1,aG,ak,hc0,o1,o2,s1,s2,hsl2,hadd,hnb];exact k2 htot _ _ (hg.obj _) (by simp)
  ·have hadd:IntKind.i64.wrap (((cu (l.take i):Nat):Int)+(l[i].2.length:Int))=((cu (l.take (i+1)):Nat):Int):=by rw[htk,au]<;>omega
   have hnb:¬(65536:Int)<((cu (l.take (i+1)):Nat):Int):=by omega
   rw[ax];simp -implicitDefEqProofs [h0,h15,h16,h17,h3,hi,hget,hpo,hp1,aG,ak,hc0,o1,o2,s1,s2,hsl2,hadd,hnb];exact ih (i+1) (by omega) (by omega) _ _ (by simp[h0]) (by simp[h15]) (by simp[h16]) (by simp[hw]) (by simp) (by omega) (hg.obj _) k1 k2
def Wu{s:List Sm}{sv:PV}(hs:ay 2 sv (s.map bC))(hN:s.length≤65536){v:PV}{o1 o2:PV}{lv:PV}{a:Nat}{S0:St}{K:List Kt}{Q:Fr→St→Prop}:∀(n i:Nat),s.length-i=n→i≤s.length→∀(fr:Fr) (S:St),
  fr 0=v→fr 38=v→fr 39=o1→fr 40=o2→fr 9=.ptr a 0→S.objs[a]?=some [lv,sv]→fr 50=.int .i64 s.length→fr 51=.int .i64 i→aL S0 S→(∀j (h:j<s.length),j<i→dq s j h=0) →
  (de s i=0→∀fr' S',fr' 0=v→fr' 38=v→fr' 39=o1→fr' 40=o2→aL S0 S'→Ok (aE T K fr' S') Q) →
  (de s i≠0→∀fr' S',aL S0 S'→fr' 2=.int .i64 (de s i)→Q fr' S')→Ok (aE T (.lp zd::.blk 4::K) fr S) Q:=by
 intro n
 induction n with
 |zero=>
  intro i hni hil fr S h0 h38 h39 h40 h9 hob h50 h51 hg hok k1 k2;have hi:i=s.length:=by omega
  have hc:de s i=0:=by rw[de,dif_neg (by omega)]
  rw[ax];simp -implicitDefEqProofs [h50,h51,hi]
  exact k1 hc _ _ (by simp[h0]) (by simp[h38]) (by simp[h39]) (by simp[h40]) hg
 |succ n ih=>
  intro i hni hil fr S h0 h38 h39 h40 h9 hob h50 h51 hg hok k1 k2;have hi:i<s.length:=by omega
  have hw:IntKind.i64.wrap ((i:Int)+1)=((i+1:Nat):Int):=by rw[au]<;>omega
  have hw1:IntKind.i64.wrap ((i:Int)+1)=(i:Int)+1:=by rw[au]<;>omega
  have hsub:IntKind.i64.wrap ((i:Int)-1)=(i:Int)-1:=by rw[au]<;>omega
  have hmx:(if 1<(i:Int)then(i:Int)-1 else 0)=((i-1:Nat):Int):=by split<;>omega
  obtain⟨cv,hcv,hcv2⟩:=hs.isl.lh (lo:=i-1) (hi:=i+1) (k:=.i64) (j:=.i64) (by omega) (by simp;omega);have hcv':eM 2 (some (.int .i64 (if 1<(i:Int)then(i:Int)-1 else 0))) (some (.int .i64 ((i:Int)+1))) sv=some cv:=by rw[hmx];exact hcv
  have hld:∀ag n,dD S ag n (.ptr a 1)=bG ag n [sv]:=fun ag n=>by rw[bI hob];rfl
  have hp1:∀{a:PV} {m:List PV},bG false 1 (a::m)=some a:=fun {a m}=>by simp[bG]
  obtain⟨c,hc⟩:∃c:List Sm,c=((s.take (i+1)).drop (i-1)):=⟨_,rfl⟩;have hcv3:cM 2 cv (c.map bC):=by rw[hc,rO,np];exact hcv2.reads
  have hcc:=fun S=>FC hcv3 S
  have hval:fV c=dq s i hi:=by
   by_cases hi0:0<i
   ·have hcd:c=[s[i-1],s[i]]:=by
     rw[hc];apply List.ext_getElem
     ·simp;omega
     ·intro q h1 h2;simp only[bL,cW]at h2
      match q with
      |0=>simp
      |1=>simp[show i-1+1=i by omega]
      |q+2=>omega
    have hp:=hok (i-1) (by omega) (by omega)
    have hm:eS s[i-1].1 s[i-1].2=true:=by
     rw[dq]at hp;split at hp
     ·cases hp
     ·rename_i h;simpa using h
    rw[hcd,Ws _ _ hm,dq,dif_pos hi0]
   ·have:i=0:=by omega
    subst this
    have hcd:c=[s[0]]:=by
     rw[hc];apply List.ext_getElem
     ·simp;omega
     ·intro q h1 h2;simp only[bL,cW]at h2
      match q with
      |0=>simp
      |q+1=>omega
    rw[hcd,Wr,dq,dif_neg (by omega)]
  rw[de,dif_pos hi]at k1 k2;by_cases hz:dq s i hi=0
  ·rw[if_pos hz]at k1 k2;rw[hz]at hval;rw[ax];simp -implicitDefEqProofs [h0,h38,h39,h40,h9,h50,h51,hi,hsub,hld,hp1,hcv',hcc,hval,hw1];refine ih (i+1) (by omega) (by omega) _ S (by simp[h0]) (by simp[h38]) (by simp[h39]) (by simp[h40]) (by simp[h9]) hob (by simp[h50]) (by simp) hg (fun j h hj=>?_) k1 k2;by_cases e:j=i
   ·subst e;exact hz
   ·exact hok j h (by omega)
  ·rw[if_neg hz]at k2;have hcb:(((dq s i hi:Nat):Int) != 0)=true:=by simpa using hz
   rw[ax];simp -implicitDefEqProofs [h0,h38,h39,h40,h9,h50,h51,hi,hsub,hld,hp1,hcv',hcc,hval,hcb,hw1];exact k2 hz _ _ hg (by simp)
def Wv{l:List cD}{v:PV}{es:List PV}(hv:cM 2 v es)(hlen:es.length=l.length)(hes:∀(i:Nat)(h:i<l.length)(h':i<es.length),iZ es[i] l[i])(hN:l.length≤256)(hsl:∀s∈l,s.2.length≤65536)
  {S0:St}{K:List Kt}{Q:Fr→St→Prop}:∀(n i:Nat),l.length-i=n→i≤l.length→∀(fr:Fr) (S:St),
  fr 0=v→fr 38=v→fr 39=.int .i64 l.length→fr 40=.int .i64 i→aL S0 S→(kD l i=0→∀fr' S',aL S0 S'→Ok (aE T K fr' S') Q) →
  (kD l i≠0→∀fr' S',aL S0 S'→fr' 2=.int .i64 (kD l i)→Q fr' S')→Ok (aE T (.lp zf::.blk 2::K) fr S) Q:=by
 intro n
 induction n with
 |zero=>
  intro i hni hil fr S h0 h38 h39 h40 hg k1 k2;have hi:i=l.length:=by omega
  have hc:kD l i=0:=by rw[kD,dif_neg (by omega)]
  rw[ax];simp -implicitDefEqProofs [h38,h39,h40,hi]
  exact k1 hc _ _ hg
 |succ n ih=>
  intro i hni hil fr S h0 h38 h39 h40 hg k1 k2;have hi:i<l.length:=by omega
  have hie:i<es.length:=by omega
  obtain⟨lv,sv,he,hlv,hsv⟩:=hes i hi hie;have hget:=hv.get i hie .i64;rw[he]at hget;have hc0:(PV.agg [lv,sv]).cells=[lv,sv]:=rfl;rw[hc0]at hget;have hw:IntKind.i64.wrap ((i:Int)+1)=((i+1:Nat):Int):=by rw[au]<;>omega
  have hpo:∀{a b:PV},bG true 2 [a,b]=some (.agg [a,b]):=fun {a b}=>rfl;have hp1:∀{a:PV} {m:List PV},bG false 1 (a::m)=some a:=fun {a m}=>by simp[bG]
  obtain⟨o1,o2⟩:=hlv.one;obtain⟨s1,s2⟩:=hsv.one;have hsl2:=hsv.len;rw[bz]at hsl2;have hmax:=hsl l[i] (List.getElem_mem hi);rw[kD,dif_pos hi]at k1 k2;by_cases h0l:l[i].2.length=0
  ·rw[if_pos h0l]at k2;have hz:(((l[i].2.length:Nat):Int)==0)=true:=by rw[beq_iff_eq];omega
   rw[ax];simp -implicitDefEqProofs [h0,h38,h39,h40,hi,hget,hpo,hp1,aG,ak,hc0,o1,o2,s1,s2,hsl2,hz];exact k2 (by decide) _ _ (hg.obj _) (by simp)
  ·rw[if_neg h0l]at k1 k2;have hz:(((l[i].2.length:Nat):Int)==0)=false:=by rw[beq_eq_false_iff_ne];omega
   rw[ax];simp -implicitDefEqProofs [h0,h38,h39,h40,hi,hget,hpo,hp1,aG,ak,hc0,o1,o2,s1,s2,hsl2,hz]
   refine Wu (v:=v) (o1:=.int .i64 l.length) (o2:=.int .i64 i) (lv:=lv) (a:=S.objs.length) hsv hmax l[i].2.length 0 (by omega) (by omega) _ _ (by simp[h0]) (by simp[h38]) (by simp[h39]) (by simp[h40]) (by simp) (by simp) (by simp) (by simp) (hg.obj _) (fun j h hj=>by omega)
    (fun hz fr' S' g0 g38 g39 g40 gg=>?_) (fun hz fr' S' gg g2=>?_)
   ·rw[if_pos hz]at k1 k2;simp -implicitDefEqProofs [g40];exact ih (i+1) (by omega) (by omega) _ _ (by simp[g0]) (by simp[g38]) (by simp[g39]) (by simp[hw]) gg k1 k2
   ·rw[if_neg hz]at k2;exact k2 hz fr' S' gg g2
theorem pn{n:Nat}:∀{l:List Nat},n∈l→n≤l.sum
 |a::l,h=>by
  rw[pY];rcases dI.1 h with rfl|h
  ·omega
  ·have:=pn h;omega
def yT{l:List cD}{v:PV}(hv:iK v l)(hb:∀s∈l,(s.1.length≤maxLen∧∀x∈s.1,x.1.length≤maxLen)∧s.2.length≤4000000000)(hN:l.length≤4000000000)(S:St):aN T 64 [v] S=some (.int .i64 (dT l),S):=by
 obtain⟨es,hes,hlen,hel⟩:=id hv;have hvl:=hes.len;rw[hlen]at hvl;refine bZ Wq rfl ?_;by_cases hbig:256<l.length
 ·have hn:dT l=3:=by rw[dT,if_pos (.inl hbig)]
  have hc:(256:Int)<(l.length:Int):=by omega
  simp -implicitDefEqProofs [qB,hvl,hc,hn]
 ·have hc:¬(256:Int)<(l.length:Int):=by omega
  simp -implicitDefEqProofs [qB,hvl,hc];refine Wt hes.reads hlen hel (by omega) (fun s hs=>(hb s hs).2) l.length 0 (by omega) (by omega) _ S (by simp) (by simp) (by simp) (by simp) (by simp[cu]) (by simp[cu]) (aL.refl S) (fun ht fr1 S1 g0 gg=>?_) (fun ht fr1 S1 gg g2=>?_)
  rotate_left
  ·have hn:dT l=3:=by rw[dT,if_pos (.inr ht)]
   simp[gg,g2,hn]
  have hsmall:∀s∈l,s.2.length≤65536:=by
   intro s hs;have:s.2.length≤cu l:=pn (List.mem_map.2 ⟨s,hs,rfl⟩);omega
  obtain⟨v',hs1,hs2⟩:=FD hv (by omega) S1;have hn0:dT l=if dZ (l.map (·.1))≠0 then dZ (l.map (·.1))else kD l 0:=by rw[dT,if_neg (by omega)]
  obtain⟨w1,w2⟩:=ra hs2 (fun x hx=>by obtain⟨s,hs,rfl⟩:=List.mem_map.1 hx;exact(hb s hs).1) (by simp;unfold maxLen;omega) S1;by_cases hz:dZ (l.map (·.1))=0
  ·obtain⟨S2,x1,x2,x3⟩:=w2 hz;rw[if_neg (by simp[hz])]at hn0;simp -implicitDefEqProofs [g0,hs1,x1,hvl];refine Wv hes.reads hlen hel (by omega) hsmall l.length 0 (by omega) (by omega) _ S2 (by simp[g0]) (by simp[g0]) (by simp) (by simp) (gg.trans x2) (fun hz fr' S' gg=>?_) (fun hz fr' S' gg g2=>?_)
   ·simp[gg,hn0,hz]
   ·simp[gg,g2,hn0]
  ·rw[if_pos hz]at hn0;have hcb:(((dZ (l.map (·.1)):Nat):Int) != 0)=true:=by simpa using hz
   simp -implicitDefEqProofs [g0,hs1,w1 hz,hcb];simp[gg,hn0]
end Ps
