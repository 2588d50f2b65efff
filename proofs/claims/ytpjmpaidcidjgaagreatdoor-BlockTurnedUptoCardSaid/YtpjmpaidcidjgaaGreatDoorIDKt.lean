/- The sum of bytes sees a turning of four bytes that stand side by side, wherever they stand. -/
import Derived.Test.YtpjmpaidcidjgaaGreatDoorCMKt
import Derived.Test.YtpjmpaidcidjgaaGreatDoorJBKt
import Derived.Test.YtpjmpaidcidjgaaGreatDoorRunWKt
import Derived.KernelRfl
import Derived.Test.YtpjmpaidcidjgaaGreatDoorAbbKt
import Derived.Test.YtpjmpaidcidjgaaGreatDoorBWKt
set_option linter.defProp false
namespace Ps
set_option linter.unusedSimpArgs false
set_option linter.unusedVariables false
open Go Go.Proofs
set_option maxRecDepth 100000
def mC:List (List ad):=[[([97],[120],())]]
def NG:PV:=.sl none [.agg [.str [97],.str [120]]] []
def xG:List UInt8:=[2,1,97,1,120,1,1,0,1]
def sA:List PV→St→Option (PV×St)
 | [.ptr ox 0],S=>(match S.objs[ox]? with
  |some [.sl (some (id,1)) [q] [],.map om]=>(match S.objs[om]?,S.tips[id]? with
   |some [kk,w],some (1,1)=>if ox≠om∧PV.beqL [q,kk] [NG,de ([97],[120])]=true then some (.sl none (aJ xG) [],S)else none
   |_,_=>none)
  |_=>none)
 |_,_=>none
noncomputable def TD:aM:=⟨fun f=>if f=159 then some (.exs iI)else if f=134 then some (.exs sA)else T.fn f,T.meth⟩
def nX(f:Nat):Option WF:=
 if f=65 then some (.code Aw)else if f=66 then some (.codeD nE)else if f=160 then some (.code oh)else if f=271 then some (.code BD)
 else if f=162 then some (.code BE)else if f=163 then some (.code BF)else if f=265 then some (.codeD BB)else if f=336 then some (.code Az)
 else if f=337 then some (.code BA)else if f=338 then some (.code Ay)else none
noncomputable def xH (args:List PV)(S:St):Option (PV×St):=match mG TD nX 300 265 args S with
 |some (.ret r S')=>some (r,S')
 |_=>none
noncomputable def TE:aM:=⟨fun f=>if f=265 then some (.exs xH)else TD.fn f,T.meth⟩
def Vs:mG TE nX 3000 65 [] bF=some (.ret (.bool true) bF):=by kernel_rfl
end Ps
set_option linter.defProp false
namespace Ps
set_option linter.unusedSimpArgs false
set_option linter.unusedVariables false
open Go Go.Proofs
set_option maxRecDepth 100000
def Ws:bp mC=[[97],[120]]:=by
 have hw:fb (eU mC)=[[97],[120]]:=by kernel_rfl
 rw[bp,hw];exact List.mergeSort_of_pairwise (by simp[leB];decide)
def Wt:df mC=xG:=by
 unfold df fx;rw[Ws]
 kernel_rfl
def Wu:ey mC=0:=by kernel_rfl
def Wv{args:List PV}{S S':St}{r:PV}(h:sA args S=some (r,S')):∃p,args=[p]∧iw S p mC∧r=.sl none (aJ xG) []∧S'=S:=by
 unfold sA at h;split at h
 rotate_left
 ·cases h
 rename_i ox;split at h
 rotate_left
 ·cases h
 rename_i id q om hox;split at h
 rotate_left
 ·cases h
 rename_i kk w hom htip;split at h
 rotate_left
 ·cases h
 rename_i hc;obtain⟨h1,h2⟩:=hc;have e:=gW _ _ h2;simp only[zK,and_true]at e;obtain⟨rfl,rfl⟩:=e;cases h;refine⟨_,rfl,⟨ox,om,0,_,[NG],[(([97],[120]),w)],rfl,h1,hox,?_,.inr ⟨id,bh _,rfl,htip⟩,rfl,fun j h h'=>?_,by simp,fun k=>?_⟩,rfl,rfl⟩
 ·rw[hom];rfl
 ·have hj:j=0:=by simp at h';exact h'
  subst hj;exact nP (by simp[mC]) rfl rfl
 ·simp[mC,dr];constructor
  ·rintro rfl;exact⟨_,_,⟨rfl,rfl⟩,rfl⟩
  ·rintro⟨_,_,⟨rfl,rfl⟩,rfl⟩;rfl
def kl{X:Tie}{T:aM}(fn:Func)(c:aT):eY (X.withT T) fn c=eY X fn c:=by kernel_rfl
def NW{X:Tie}{T:aM}(fn:Func)(c:dg):iY (X.withT T) fn c=iY X fn c:=by kernel_rfl
def NX{T':aM}(f:Nat)(c:aT)(h:nX f=some (.code c)):∃fn,(tie.withT T').P.funcs[(tie.withT T').fnOf f]?=some fn∧eY (tie.withT T') fn c=true:=by
 unfold nX at h;split at h
 ·rename_i e;subst e;cases h;exact⟨_,func65,(kl _ _).trans Tu⟩
 split at h
 ·cases h
 split at h
 ·rename_i e;subst e;cases h;exact⟨_,BI,(kl _ _).trans BJ⟩
 split at h
 ·rename_i e;subst e;cases h;exact⟨_,Um,(kl _ _).trans Un⟩
 split at h
 ·rename_i e;subst e;cases h;exact⟨_,func162,(kl _ _).trans Uo⟩
 split at h
 ·rename_i e;subst e;cases h;exact⟨_,Up,(kl _ _).trans Uq⟩
 split at h
 ·cases h
 split at h
 ·rename_i e;subst e;cases h;exact⟨_,Ui,(kl _ _).trans Uj⟩
 split at h
 ·rename_i e;subst e;cases h;exact⟨_,Ug,(kl _ _).trans Uh⟩
 split at h
 ·rename_i e;subst e;cases h;exact⟨_,Ue,(kl _ _).trans Uf⟩
 cases h
def NY{T':aM}(f:Nat)(c:dg)(h:nX f=some (.codeD c)):∃fn,(tie.withT T').P.funcs[(tie.withT T').fnOf f]?=some fn∧iY (tie.withT T') fn c=true:=by
 unfold nX at h;split at h
 ·cases h
 split at h
 ·rename_i e;subst e;cases h;exact⟨_,BK,(NW _ _).trans BL⟩
 split at h
 ·cases h
 split at h
 ·cases h
 split at h
 ·cases h
 split at h
 ·cases h
 split at h
 ·rename_i e;subst e;cases h;exact⟨_,Uk,(NW _ _).trans Ul⟩
 split at h
 ·cases h
 split at h
 ·cases h
 split at h
 ·cases h
 cases h
def xU:bY (tie.withT TD):=bY.of (X:=tie) (T:=TD) tieOk rfl fun f pf h=>by
 have h:(if f=159 then some (.exs iI)else if f=134 then some (.exs sA)else T.fn f)=some pf:=h;by_cases e:f=159
 ·rw[if_pos e]at h;have:=gh h;subst this e;exact ai.tb (X:=tie) (T:=TD) (show ai tie 159 (.exs iI)from zf)
 ·rw[if_neg e]at h;by_cases e2:f=134
  ·rw[if_pos e2]at h;have:=gh h;subst this e2
   exact oH (X:=tie) (T:=TD) fun args S r S' he=>by
    obtain⟨p,rfl,hx,rfl,rfl⟩:=Wv he;have:=Aa hx (uY Wu);rw[Wt]at this;exact this
  ·rw[if_neg e2]at h;exact(tieOk.fns f pf h).tb
def Ww:bY (tie.withT TE):=bY.of (X:=tie.withT TD) (T:=TE) xU rfl fun f pf h=>by
 have h:(if f=265 then some (.exs xH)else TD.fn f)=some pf:=h;by_cases e:f=265
 ·rw[if_pos e]at h;have:=gh h;subst this e
  exact oH (X:=tie.withT TD) (T:=TE) fun args S r S' he=>by
   unfold xH at he;split at he
   ·rename_i r1 S1 hr;cases he;exact Nm xU NX NY 300 265 args S _ hr
   ·cases he
 ·rw[if_neg e]at h;exact(xU.fns f pf h).tb
def Wy:ca tie1 65 [] bF (fun q=>q=.ret (.bool true) bF):=by
 have:=ca.tb (X:=tie.withT TE) (T:=T1) (Nm Ww NX NY 3000 65 [] bF _ Vs);exact this
end Ps
set_option linter.defProp false
namespace Ps
set_option linter.unusedSimpArgs false
set_option linter.unusedVariables false
open Go Go.Proofs
set_option maxRecDepth 100000
section
variable {T : aM} {K : List Kt} {fr : Fr} {S : St}
def xR:List aA:=[M 57 7,M 58 9,M 59 10,Q 60 (.arith .add (V 58) (V 59)),M 61 7,M 62 9,M 63 10,Q 64 (.arith .add (V 62) (V 63)),Q 65 (.iaddr 1 (V 61) (V 64)),Q 66 (.load false 1 false (V 65)),M 67 2,M 68 10,Q 69 (.arith .mul (I 8) (V 68)),Q 70 (.arith .shr (V 67) (V 69)),Q 71 (.toInt .u8 (V 70)),Q 72 (.arith .xor (V 66) (V 71)),Q 73 (.iaddr 1 (V 57) (V 60)),QN (.store 1 (V 73) (V 72))]
@[simp]def aGi:type_of% (aP xR.eq_1 T K fr S):=aP xR.eq_1 T K fr S
def sB:aN:=
 (.seq (.seq (.clr [(53,54)] (.region rQ)) (.cond (V 54) .skip (.exit 0))) (.seq (.block 1 (.clr [(57,74)] (.region xR))) (.clr [(55,57)] (.region vj))))
@[simp]def WY:type_of% (bG sB.eq_1 T K fr S):=bG sB.eq_1 T K fr S
def xS:List aA:=[M 75 7,Q 76 (.call .snap 66 [(V 75)]),M 74 76,EX 77 0 74,EX 78 1 74,M 11 77,M 12 78]
@[simp]def aGj:type_of% (aP xS.eq_1 T K fr S):=aP xS.eq_1 T K fr S
def jt:aT:=
 ⟨3,[.tmp 6],
 (.seq (.region pD) (.seq (.clr [(13,18)] (.region pE)) (.seq (.seq (.clr [(18,28)] (.region pF)) (.cond (V 28) (.seq (.clr [(29,44)] (.region rP)) .ret) .skip)) (.seq (.clr [(44,53)] (.region vh)) (.seq (.seq (.region vi) (.block 0 (.loop sB))) (.seq (.clr [(74,79)] (.region xS)) (.seq (.clr [(79,88)] (.region vk)) .ret))))))),false⟩
end
def NU:ah tie Tryz.f5 jt=true:=by kernel_rfl
open Classical in
noncomputable def pV (v:PV)(l:List cA)(args:List PV)(S:St):Option (PV×St):=
 if args=[v]then(if dH l=0 then some (.tup [.osl S.objs.length 0 (aJ (dQ l)).length 1,.int .i64 0],{S with objs:=S.objs++[aJ (dQ l)]})else some (.tup [.nils,.int .i64 (dH l)],S))else none
open Classical in
noncomputable def sC (v:PV)(l:List cA)(args:List PV)(S:St):Option (PV×St):=if args=[v]then some (.int .i64 (dH l),S)else none
open Classical in
noncomputable def sD (args:List PV)(S:St):Option (PV×St):=if args=[]∧S=bF then some (.bool true,bF)else none
open Classical in
noncomputable def sE (args:List PV)(S:St):Option (PV×St):=
 if ∃b,args=[.sl none (aJ b) []]∧b.length≤67108864∧8≤b.length∧b.drop (b.length-4)≠dE (b.take (b.length-4))then some (.tup [.nilp,.int .i64 5],S)else none
noncomputable def TJ (v:PV)(l:List cA):aM:=
 ⟨fun f=>if f=155 then some (.exs (pV v l))else if f=66 then some (.exs sE)else if f=65 then some (.exs sD)else if f=64 then some (.exs (sC v l))else if f=458 then some (.code jt)else none,T.meth⟩
def WZ:tie1.P.funcs[tie1.fnOf 64]?=some Tryz.f10:=Tryz.func10
def Wa:ah tie1 Tryz.f10 lg=true:=(yj _ _).trans Px
def Wb:Tryz.f10.name ≠ "runtime.NumGoroutine" := by decide +kernel
def Wc {v:PV} {l:List cA} (hv:iu v l) (hb:kS l) (hN:l.length≤4000000000):bY (tie.withT (TJ v l)):=bY.of (X:=tie) (T:=TJ v l) tieOk rfl fun f pf h=>by
 have h:(if f=155 then some (nK.exs (pV v l))else if f=66 then some (.exs sE)else if f=65 then some (.exs sD)else if f=64 then some (.exs (sC v l))else if f=458 then some (.code jt)else none)=some pf:=h;obtain⟨es,hes,_,_⟩:=id hv
 have hfree:v.free=true∧v.frz=v:=by
  rcases hes.val with⟨rfl,_⟩|⟨sp,rfl,_,k1,k2⟩
  ·exact⟨rfl,rfl⟩
  ·exact⟨by simp[PV.free,hes.fr,k1],by simp[PV.frz,hes.fz,k2]⟩
 split at h
 ·rename_i e;subst e;cases h
  exact Zr (X:=tie1) (T:=TJ v l) fun args S r S' he=>by
   unfold pV at he;split at he
   rotate_left
   ·cases he
   rename_i ha;subst ha;refine⟨by simp[PV.freeL,hfree.1],?_⟩;have hz1:PV.frzL [v]=[v]:=by simp[PV.frzL,hfree.2]
   rw[hz1];split at he
   ·rename_i hz;cases he;refine(WK hv hb hz).mono fun q hq=>?_;obtain⟨r0,S1,rfl,id,rfl⟩:=hq
    exact⟨_,_,rfl,.made id (aJ (dQ l)) (.int .i64 0) (by simp[dQ,dt,fN,aJ]) (fun x hx=>by
     obtain⟨b,_,rfl⟩:=List.mem_map.1 hx;exact⟨rfl,rfl⟩) rfl⟩
   ·rename_i hz;cases he;refine(WM hv hb hN hz).mono fun q hq=>?_;subst hq;exact⟨_,_,rfl,.free (.tup [.nils,.int .i64 (dH l)]) rfl⟩
 split at h
 ·rename_i e;subst e;cases h
  exact oH (X:=tie1) (T:=TJ v l) fun args S r S' he=>by
   unfold sE at he;split at he
   ·rename_i hx;cases he;obtain⟨b,rfl,k1,k2,k3⟩:=hx;exact WX (nA b) k1 k2 k3
   ·cases he
 split at h
 ·rename_i e;subst e;cases h
  exact oH (X:=tie1) (T:=TJ v l) fun args S r S' he=>by
   unfold sD at he;split at he
   ·rename_i hx;cases he;obtain⟨rfl,rfl⟩:=hx;exact Wy
   ·cases he
 split at h
 ·rename_i e;subst e;cases h
  exact oH (X:=tie1) (T:=TJ v l) fun args S r S' he=>by
   unfold sC at he;split at he
   ·rename_i hx;subst hx;cases he
    obtain⟨c,hc⟩:∃c,Tryz.f10.body=some c:=by
     cases h:Tryz.f10.body with
     |none=>exact absurd Wa (by simp[ah,h])
     |some c=>exact⟨c,rfl⟩
    exact yu kj WZ hc Wb (jf (uP hv hb hN S))
   ·cases he
 split at h
 ·rename_i e;subst e;cases h;exact ai.tb (X:=tie) (T:=TJ v l) ⟨Tryz.f5,Tryz.func5,NU⟩
 ·cases h
end Ps
set_option linter.defProp false
namespace Ps
set_option linter.unusedSimpArgs false
set_option linter.unusedVariables false
open Go
def nW{n:Nat}(h:n<4294967296):IntKind.u32.wrap (n:Int)=(n:Int):=by
 show((n:Int)%4294967296)=_;omega
def xF{n:Nat}(h:n<4294967296):(BitVec.ofInt 32 (n:Int)).toNat=n:=by
 rw[BitVec.toNat_ofInt];show((n:Int)%((2^32:Nat):Int)).toNat=n;omega
def Vm{m:Nat}(h:m<4294967296):ja .u32 (m:Int) 1=((m%2:Nat):Int):=by
 unfold ja
 have e:(BitVec.ofInt IntKind.u32.bits (m:Int) &&& BitVec.ofInt IntKind.u32.bits (1:Int)).toNat=m%2:=by
  rw[BitVec.toNat_and];have h1:(BitVec.ofInt IntKind.u32.bits (m:Int)).toNat=m:=xF h;have h2:(BitVec.ofInt IntKind.u32.bits (1:Int)).toNat=1:=rfl;rw[h1,h2,Nat.and_one_is_mod]
 rw[e];exact nW (by omega)
def NC(a b:Int):∃n:Nat,gN .u32 a b=(n:Int)∧n<4294967296:=by
 refine⟨(BitVec.ofInt IntKind.u32.bits a ^^^ BitVec.ofInt IntKind.u32.bits b).toNat,?_,(BitVec.ofInt IntKind.u32.bits a ^^^ BitVec.ofInt IntKind.u32.bits b).isLt⟩;unfold gN;exact nW (BitVec.isLt _)
def Vn{m:Nat}(h:m<4294967296):gN .u32 (m:Int) 0=(m:Int):=by
 unfold gN
 have e:(BitVec.ofInt IntKind.u32.bits (m:Int) ^^^ BitVec.ofInt IntKind.u32.bits (0:Int)).toNat=m:=by
  rw[BitVec.toNat_xor];have h1:(BitVec.ofInt IntKind.u32.bits (m:Int)).toNat=m:=xF h;have h2:(BitVec.ofInt IntKind.u32.bits (0:Int)).toNat=0:=rfl;rw[h1,h2,Nat.xor_zero]
 rw[e];exact nW h
def ND{m:Nat}(h:m<4294967296):jd (m:Int)=if m%2=1 then gN .u32 ((m/2:Nat):Int) 2197175160 else((m/2:Nat):Int):=by
 unfold jd
 have hd:(m:Int).fdiv 2=((m/2:Nat):Int):=by
  rw[ml _ (by omega)];omega
 rw[hd,Vm h];by_cases h1:m%2=1
 ·rw[if_pos h1,h1];have:ja .u32 2197175160 (IntKind.u32.wrap (-((1:Nat):Int)))=2197175160:=by decide
  rw[this]
 ·rw[if_neg h1];have h0:m%2=0:=by omega
  rw[h0];have:ja .u32 2197175160 (IntKind.u32.wrap (-((0:Nat):Int)))=0:=by decide
  rw[this];exact Vn (by omega)
def Vo{m:Nat}(h:m<4294967296):∃n:Nat,jd (m:Int)=(n:Int)∧n<4294967296:=by
 rw[ND h];split
 ·exact NC _ _
 ·exact⟨m/2,rfl,by omega⟩
theorem NE:∀(k:Nat) {m:Nat},m<4294967296→∃n:Nat,lW k (m:Int)=(n:Int)∧n<4294967296
 |0,m,h=>⟨m,rfl,h⟩
 |k+1,m,h=>by
  obtain⟨n,e,hn⟩:=Vo h;rw[lW,e];exact NE k hn
def Vp(c:Int)(b:UInt8):∃n:Nat,gP c b=(n:Int)∧n<4294967296:=by
 unfold gP;obtain⟨n,e,hn⟩:=NC c (IntKind.u32.wrap (b.toNat:Int));rw[e];exact NE 8 hn
theorem NF:∀(s:List UInt8) {m:Nat},m<4294967296→∃n:Nat,s.foldl gP (m:Int)=(n:Int)∧n<4294967296
 | [],m,h=>⟨m,rfl,h⟩
 |b::s,m,h=>by
  obtain⟨n,e,hn⟩:=Vp (m:Int) b;rw[tX,e];exact NF s hn
def Vq{m:Nat}(h:m<4294967296):IntKind.u32.wrap (BitVec.ofInt 32 4294967295 ^^^ BitVec.ofInt 32 (m:Int)).toNat=4294967295-(m:Int):=by
 have e:(BitVec.ofInt 32 4294967295 ^^^ BitVec.ofInt 32 (m:Int)).toNat=4294967295-m:=by
  have h1:BitVec.ofInt 32 4294967295=BitVec.allOnes 32:=by decide
  rw[h1,BitVec.allOnes_xor,BitVec.toNat_not,xF h]
 rw[e,nW (by omega)];omega
def Vr(s:List UInt8):∃n:Nat,s.foldl gP 4294967295=(n:Int)∧n<4294967296∧ir s=4294967295-(n:Int):=by
 obtain⟨n,e,hn⟩:=NF s (m:=4294967295) (by omega);refine⟨n,e,hn,?_⟩;unfold ir oY;have e':s.foldl gP 4294967295=(n:Int):=e;rw[e'];exact Vq hn
end Ps
set_option linter.defProp false
namespace Ps
set_option linter.unusedSimpArgs false
set_option linter.unusedVariables false
open Go
def hT(c:BitVec 32):BitVec 32:=(c >>> 1) ^^^ (if c.getLsbD 0=true then 2197175160#32 else 0#32)
def Vt(a b:BitVec 32):hT (a ^^^ b)=hT a ^^^ hT b:=by
 unfold hT;rw[BitVec.ushiftRight_xor_distrib,BitVec.getLsbD_xor];generalize a >>> 1=x;generalize b >>> 1=y;have h0:∀z:BitVec 32,z ^^^ 0#32=z:=fun z=>BitVec.xor_zero;cases a.getLsbD 0<;>cases b.getLsbD 0
 ·simp[h0]
 ·simp[h0,BitVec.xor_assoc]
 ·simp only[Bool.xor_false,if_true,bg,if_false,h0];rw[BitVec.xor_assoc,BitVec.xor_comm y,←BitVec.xor_assoc]
 ·have e:x ^^^ 2197175160#32 ^^^ (y ^^^ 2197175160#32)=x ^^^ y:=by
   rw[BitVec.xor_comm y,←BitVec.xor_assoc,BitVec.xor_assoc x,BitVec.xor_self,h0]
  simp only[Bool.xor_self,bg,if_false,if_true,h0,e]
def Vu{c:BitVec 32}(h:hT c=0#32):c=0#32:=by
 unfold hT at h;by_cases hc:c.getLsbD 0=true
 ·rw[if_pos hc]at h;have h1:=congrArg (fun x=>x.getLsbD 31) h;simp only[BitVec.getLsbD_xor,BitVec.getLsbD_ushiftRight]at h1;have h2:c.getLsbD (1+31)=false:=BitVec.getLsbD_of_ge c _ (by decide);rw[h2]at h1;exact absurd h1 (by decide)
 ·rw[if_neg hc,BitVec.xor_zero]at h;apply BitVec.eq_of_getLsbD_eq;intro i hi;rw[BitVec.getLsbD_zero]
  cases i with
  |zero=>simpa using hc
  |succ i=>
   have h1:=congrArg (fun x=>x.getLsbD i) h;simp only[BitVec.getLsbD_ushiftRight,BitVec.getLsbD_zero]at h1;rw[gL]at h1;exact h1
def dU:Nat→BitVec 32→BitVec 32
 |0,c=>c
 |k+1,c=>dU k (hT c)
theorem pU:∀(k:Nat) (a b:BitVec 32),dU k (a ^^^ b)=dU k a ^^^ dU k b
 |0,_,_=>rfl
 |k+1,a,b=>by rw[dU,Vt,pU k];rfl
theorem xI:∀{k:Nat} {c:BitVec 32},dU k c=0#32→c=0#32
 |0,_,h=>h
 |k+1,_,h=>Vu (xI (k:=k) h)
theorem xJ:∀(k j:Nat) (c:BitVec 32),dU (k+j) c=dU j (dU k c)
 |0,j,c=>by rw[cd];rfl
 |k+1,j,c=>by rw[show k+1+j=(k+j)+1 by omega,dU,xJ k j];rfl
end Ps
set_option linter.defProp false
namespace Ps
set_option linter.unusedSimpArgs false
set_option linter.unusedVariables false
open Go
def Vv(c:BitVec 32):c.getLsbD 0=decide (c.toNat%2=1):=by
 rw[BitVec.getLsbD,Nat.testBit_zero]
def NH(a b:BitVec 32):gN .u32 (a.toNat:Int) (b.toNat:Int)=((a ^^^ b).toNat:Int):=by
 unfold gN
 have e:∀x:BitVec 32,BitVec.ofInt IntKind.u32.bits (x.toNat:Int)=x:=fun x=>by
  show BitVec.ofInt 32 (x.toNat:Int)=x;rw[BitVec.ofInt_natCast,BitVec.ofNat_toNat,BitVec.setWidth_eq]
 rw[e a,e b];exact nW (BitVec.isLt _)
def Vw(c:BitVec 32):jd (c.toNat:Int)=((hT c).toNat:Int):=by
 rw[ND c.isLt,hT,Vv];have hs:(c >>> 1).toNat=c.toNat/2:=by rw[BitVec.toNat_ushiftRight,Nat.shiftRight_eq_div_pow]
 by_cases h:c.toNat%2=1
 ·rw[if_pos h,if_pos (by simpa using h),←hs];exact NH (c >>> 1) 2197175160#32
 ·rw[if_neg h,if_neg (by simpa using h),BitVec.xor_zero,hs]
theorem NI:∀(k:Nat) (c:BitVec 32),lW k (c.toNat:Int)=((dU k c).toNat:Int)
 |0,_=>rfl
 |k+1,c=>by rw[lW,Vw,NI k,dU]
def ki(c:BitVec 32)(b:UInt8):BitVec 32:=dU 8 (c ^^^ BitVec.ofNat 32 b.toNat)
def Vx(c:BitVec 32)(b:UInt8):gP (c.toNat:Int) b=((ki c b).toNat:Int):=by
 unfold gP ki;have hb:=UInt8.toNat_lt b
 have e:IntKind.u32.wrap (b.toNat:Int)=((BitVec.ofNat 32 b.toNat).toNat:Int):=by
  rw[nW (by omega),BitVec.toNat_ofNat,ge (by omega)]
 rw[e,NH,NI]
theorem NJ:∀(s:List UInt8) (c:BitVec 32),s.foldl gP (c.toNat:Int)=((s.foldl ki c).toNat:Int)
 | [],_=>rfl
 |b::s,c=>by rw[tX,tX,Vx,NJ s]
def fD(s:List UInt8):BitVec 32:=s.foldl ki 4294967295#32
def Vy(s:List UInt8):ir s=4294967295-((fD s).toNat:Int):=by
 obtain⟨n,h1,h2,h3⟩:=Vr s;have:=NJ s 4294967295#32;have h4:s.foldl gP 4294967295=((fD s).toNat:Int):=this;rw[h3,←h1,h4]
def Vz(a b:BitVec 32)(x y:UInt8):ki a x ^^^ ki b y=dU 8 ((a ^^^ b) ^^^ (BitVec.ofNat 32 x.toNat ^^^ BitVec.ofNat 32 y.toNat)):=by
 unfold ki;rw[←pU]
 congr 1
 generalize BitVec.ofNat 32 x.toNat=u;generalize BitVec.ofNat 32 y.toNat=w;rw[BitVec.xor_assoc,BitVec.xor_assoc,←BitVec.xor_assoc u,BitVec.xor_comm u,BitVec.xor_assoc]
end Ps
set_option linter.defProp false
namespace Ps
set_option linter.unusedSimpArgs false
set_option linter.unusedVariables false
open Go
theorem NL:∀(k:Nat) (c:BitVec 32),(∀i,i<k→c.getLsbD i=false)→dU k c=c >>> k
 |0,c,_=>by rw[dU,BitVec.ushiftRight_zero]
 |k+1,c,h=>by
  have h0:hT c=c >>> 1:=by
   unfold hT;rw[if_neg (by rw[h 0 (by omega)];decide),BitVec.xor_zero]
  rw[dU,h0,NL k (c >>> 1) (fun i hi=>by rw[BitVec.getLsbD_ushiftRight];exact h (1+i) (by omega))];rw[←BitVec.shiftRight_add,gL]
def mW(w:BitVec 32)(j:Nat):UInt8:=UInt8.ofNat (w.toNat/2^(8*j)%256)
def WA(w:BitVec 32):dU 8 w=dU 8 (BitVec.ofNat 32 (mW w 0).toNat) ^^^ (w >>> 8):=by
 have hlow:BitVec.ofNat 32 (mW w 0).toNat=BitVec.ofNat 32 (w.toNat%256):=by simp[mW]
 have hb:∀i,(BitVec.ofNat 32 (w.toNat%256)).getLsbD i=(decide (i<8)&&w.getLsbD i):=by
  intro i;rw[BitVec.getLsbD_ofNat,show 256=2^8 from rfl,Nat.testBit_mod_two_pow];by_cases hi:i<32
  ·simp[hi,BitVec.getLsbD]
  ·have:¬i<8:=by omega
   simp[hi,this]
 obtain⟨lo,hlo⟩:∃lo,lo=BitVec.ofNat 32 (w.toNat%256):=⟨_,rfl⟩;rw[hlow,←hlo];rw[←hlo]at hb;have e:w=lo ^^^ (w ^^^ lo):=by rw[BitVec.xor_comm w,←BitVec.xor_assoc,BitVec.xor_self,BitVec.zero_xor]
 have hz:∀i,i<8→(w ^^^ lo).getLsbD i=false:=fun i hi=>by
  rw[BitVec.getLsbD_xor,hb];simp[hi]
 have hs:(w ^^^ lo) >>> 8=w >>> 8:=by
  apply BitVec.eq_of_getLsbD_eq;intro i hi;rw[BitVec.getLsbD_ushiftRight,BitVec.getLsbD_ushiftRight,BitVec.getLsbD_xor,hb];have:¬8+i<8:=by omega
  simp[this]
 conv=>lhs;rw[e]
 rw[pU,NL 8 _ hz,hs]
def dW(w:BitVec 32):Nat→BitVec 32
 |0=>0#32
 |j+1=>dU 8 (dW w j ^^^ BitVec.ofNat 32 (mW w j).toNat)
def WB(w:BitVec 32)(j:Nat):mW (w >>> (8*j)) 0=mW w j:=by
 unfold mW;rw[BitVec.toNat_ushiftRight,Nat.shiftRight_eq_div_pow,Nat.mul_zero,Nat.pow_zero,tp]
theorem NM(w:BitVec 32):∀j,dW w j ^^^ (w >>> (8*j))=dU (8*j) w
 |0=>by rw[dW,Nat.mul_zero,BitVec.ushiftRight_zero,BitVec.zero_xor];rfl
 |j+1=>by
  have ih:=NM w j;rw[Nat.mul_add,xJ,←ih,pU,WA (w >>> (8*j)),WB,dW,pU,←BitVec.shiftRight_add,mt,BitVec.xor_assoc]
theorem NN:∀k,dU k 0#32=0#32
 |0=>rfl
 |k+1=>by
  have:hT 0#32=0#32:=by decide
  rw[dU,this,NN k]
end Ps
set_option linter.defProp false
namespace Ps
set_option linter.unusedSimpArgs false
set_option linter.unusedVariables false
open Go
def mD(w:BitVec 32)(j i:Nat):(mW w j).toNat.testBit i=(decide (i<8)&&w.getLsbD (8*j+i)):=by
 have e:(mW w j).toNat=w.toNat/2^(8*j)%2^8:=by simp[mW]
 rw[e,Nat.testBit_mod_two_pow,Nat.testBit_div_two_pow,BitVec.getLsbD,gL]
def xK{a b:BitVec 32}(h:∀k,k<4→mW a k=mW b k):a=b:=by
 apply BitVec.eq_of_getLsbD_eq;intro i hi;have h1:=congrArg (fun x:UInt8=>x.toNat.testBit (i%8)) (h (i/8) (by omega));simp only[mD]at h1;have h2:i%8<8:=io _ (by decide);rw[show 8*(i/8)+i%8=i by omega]at h1;simpa[h2]using h1
def xL{x y:UInt8}(h:∀i,i<8→x.toNat.testBit i=y.toNat.testBit i):x=y:=by
 apply UInt8.toNat_inj.1;apply Nat.eq_of_testBit_eq;intro i;by_cases hi:i<8
 ·exact h i hi
 ·have hx:=UInt8.toNat_lt x;have hy:=UInt8.toNat_lt y;have hp:2^8≤2^i:=zY (by decide) (by omega);rw[Nat.testBit_lt_two_pow (by omega),Nat.testBit_lt_two_pow (by omega)]
def WC(a b:BitVec 32)(k:Nat):mW (a ^^^ b) k=mW a k ^^^ mW b k:=by
 apply xL;intro i hi;rw[UInt8.toNat_xor,Nat.testBit_xor,mD,mD,mD,BitVec.getLsbD_xor];simp[hi]
def xM(w:BitVec 32)(j k:Nat):mW (w >>> (8*j)) k=mW w (j+k):=by
 apply xL;intro i hi;rw[mD,mD,BitVec.getLsbD_ushiftRight];simp only[hi,decide_true,zF]
 congr 1;omega
def xN(w:BitVec 32){k:Nat}(hk:4≤k):mW w k=0:=by
 apply xL;intro i hi;rw[mD,BitVec.getLsbD_of_ge w _ (by omega)];simp
def WD(x m:UInt8):BitVec.ofNat 32 x.toNat ^^^ BitVec.ofNat 32 (x ^^^ m).toNat=BitVec.ofNat 32 m.toNat:=by
 rw[UInt8.toNat_xor,BitVec.ofNat_xor,←BitVec.xor_assoc,BitVec.xor_self,BitVec.zero_xor]
structure xO(b b':List UInt8)(p:Nat)(w:BitVec 32):Prop where
 len:b'.length=b.length
 at_:∀i,b'.getD i 0=if p≤i∧i<p+4 then b.getD i 0 ^^^ mW w (i-p)else b.getD i 0
def NO{b:List UInt8}{i:Nat}(h:i<b.length):fD (b.take (i+1))=ki (fD (b.take i)) (b.getD i 0):=by
 unfold fD;rw[List.take_add_one,bK h,List.foldl_append,cH,bK h];rfl
def WE{b b':List UInt8}{p:Nat}{w:BitVec 32}(h:xO b b' p w):∀i,i≤b.length →
  fD (b.take i) ^^^ fD (b'.take i)=if i≤p then 0#32 else if i≤p+4 then dW w (i-p)else dU (8*(i-p-4)) (dW w 4):=by
 intro i
 induction i with
 |zero=>
  intro _;rw[if_pos (bh _)]
  exact BitVec.xor_self
 |succ i ih=>
  intro hi;have hib:i<b.length:=by omega
  have hib':i<b'.length:=by rw[h.len];omega
  rw[NO hib,NO hib',Vz,ih (by omega),h.at_ i];by_cases h1:i<p
  ·rw[if_pos (show i≤p by omega),if_neg (show ¬(p≤i∧i<p+4)by omega),if_pos (show i+1≤p by omega),BitVec.xor_self,BitVec.xor_zero,NN]
  ·by_cases h2:i<p+4
   ·rw[if_pos (⟨by omega,h2⟩:p≤i∧i<p+4),WD,if_neg (show ¬i+1≤p by omega),if_pos (show i+1≤p+4 by omega)];have e:i+1-p=(i-p)+1:=by omega
    by_cases h3:i≤p
    ·rw[if_pos h3,e,show i-p=0 by omega];rfl
    ·rw[if_neg h3,if_pos (show i≤p+4 by omega),e];rfl
   ·rw[if_neg (show ¬(p≤i∧i<p+4)by omega),BitVec.xor_self,BitVec.xor_zero,if_neg (show ¬i+1≤p by omega),if_neg (show ¬i+1≤p+4 by omega),if_neg (show ¬i≤p by omega)];by_cases h3:i≤p+4
    ·have e1:i-p=4:=by omega
     have e2:i+1-p-4=1:=by omega
     rw[if_pos h3,e1,e2]
    ·rw[if_neg h3,←xJ]
     congr 1;omega
def WG(x:List UInt8):dE x=(List.range 4).map (mW (~~~ fD x)):=by
 have hs:(ir x).toNat=(~~~ fD x).toNat:=by
  rw[Vy,BitVec.toNat_not];have:=(fD x).isLt;omega
 unfold dE;rw[hs];have e:∀j,mW (~~~ fD x) j=UInt8.ofNat ((~~~ fD x).toNat/2^(8*j)%256):=fun j=>rfl;simp only[show List.range 4=[0,1,2,3]from rfl,cB,lR,e];simp
def WH(a b:BitVec 32): ~~~ a ^^^ ~~~ b=a ^^^ b:=by
 apply BitVec.eq_of_getLsbD_eq;intro i hi;simp only[BitVec.getLsbD_xor,BitVec.getLsbD_not,hi,decide_true,zF];cases a.getLsbD i<;>cases b.getLsbD i<;>rfl
def WI{b b':List UInt8}{p:Nat}{w:BitVec 32}(h:xO b b' p w)(hp:p+4≤b.length)(hw:w≠0#32)(hb:b.drop (b.length-4)=dE (b.take (b.length-4))) :
  b'.drop (b'.length-4)≠dE (b'.take (b'.length-4)):=by
 intro hb';rw[h.len]at hb';obtain⟨n,hn⟩:∃n,n=b.length-4:=⟨_,rfl⟩;rw[←hn]at hb hb'
 have hg:∀(c:List UInt8),c.length=b.length→c.drop n=dE (c.take n)→∀k,k<4→c.getD (n+k) 0=mW (~~~ fD (c.take n)) k:=by
  intro c hc he k hk;have h1:=congrArg (fun l:List UInt8=>l.getD k 0) he;simp only[WG,cH,gK,fk,List.getElem?_range hk,ip,uB]at h1;rw[cH];exact h1
 have g1:=hg b rfl hb;have g2:=hg b' h.len hb';obtain⟨X,hX⟩:∃X,X=fD (b.take n) ^^^ fD (b'.take n):=⟨_,rfl⟩
 have hXk:∀k,k<4→mW X k=if p≤n+k then mW w (n+k-p)else 0:=by
  intro k hk;have e1:X=(~~~ fD (b.take n)) ^^^ (~~~ fD (b'.take n)):=by rw[hX,WH]
  rw[e1,WC,←g1 k hk,←g2 k hk,h.at_ (n+k)];by_cases h1:p≤n+k
  ·rw[if_pos h1];by_cases h2:n+k<p+4
   ·rw[if_pos ⟨h1,h2⟩,←UInt8.xor_assoc,UInt8.xor_self,UInt8.zero_xor]
   ·rw[if_neg (fun e=>h2 e.2),UInt8.xor_self,xN w (by omega)]
  ·rw[if_neg h1,if_neg (fun e=>h1 e.1),UInt8.xor_self]
 have hpn:p≤n:=by omega
 have hXw:X=w >>> (8*(n-p)):=by
  apply xK;intro k hk;rw[hXk k hk,if_pos (by omega),xM]
  congr 1;omega
 have hs:=WE h n (by omega);rw[←hX,hXw]at hs
 have hz:∀j,w >>> (8*j)=dW w j→False:=fun j e=>by
  have:=NM w j;rw[←e,BitVec.xor_self]at this;exact hw (xI this.symm)
 by_cases h1:n≤p
 ·rw[if_pos h1]at hs;exact hz 0 (by rw[show n-p=0 by omega]at hs;exact hs)
 ·rw[if_neg h1]at hs;by_cases h2:n≤p+4
  ·rw[if_pos h2]at hs;exact hz (n-p) hs
  ·rw[if_neg h2]at hs
   have h0:w >>> (8*(n-p))=0#32:=by
    apply xK;intro k hk;rw[xM,xN w (by omega)];simp[mW]
   rw[h0]at hs;have h4:=xI hs.symm
   have h5:w >>> (8*4)=0#32:=by
    apply xK;intro k hk;rw[xM,xN w (by omega)];simp[mW]
   exact hz 4 (h5.trans h4.symm)
end Ps
