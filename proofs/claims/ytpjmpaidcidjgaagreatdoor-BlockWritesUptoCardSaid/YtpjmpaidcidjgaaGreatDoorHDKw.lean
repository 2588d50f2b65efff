/- The document's ct: Rises, Check, Encode. -/
import Derived.Test.YtpjmpaidcidjgaaGreatDoorCXKw
import Derived.Test.YtpjmpaidcidjgaaGreatDoorSimVKw
import Derived.Test.YtpjmpaidcidjgaaGreatDoorFDKw
import Derived.KernelRfl
import Derived.Test.YtpjmpaidcidjgaaGreatDoorAbbKw
namespace Ps
open Go Go.Proofs
def Wh:List aB:=[M 15 1]++(Q 16 (.wc [] (.cst (.fn 66 [])) [(V 15)])::[M 14 16,EX 17 0 14,EX 18 1 14,M 3 17,M 4 18])
def Wi:List aB:=[]++(Q 20 (.wc [] (.cst (.fn 66 [])) [(.cst .nils)])::[M 19 20,EX 21 0 19,EX 22 1 19,M 5 21,M 6 22])
def Wj:List aB:=[M 42 1,Q 43 (.toStr (V 42)),Q 44 (.call .pur 156 []),Q 45 (.call .pur 152 [(V 44)]),Q 46 (.toStr (V 45)),Q 47 (.arith .eql (V 43) (V 46)),M 48 47,QG (some 49) (.mov (V 1)) 48 true,QG (some 50) (.len false (V 49)) 48 true,QG (some 51) (.arith .eql (V 50) (I 24)) 48 true,Q 52 (.pick (V 48) (V 51) bG),M 53 52,QG (some 54) (.mov (V 7)) 53 true,QG (some 55) (.len false (V 54)) 53 true,QG (some 56) (.arith .eql (V 55) (I 1)) 53 true,Q 57 (.pick (V 53) (V 56) bG),M 58 57,QG (some 59) (.mov (V 7)) 58 true,QG (some 60) (.iaddr 2 (V 59) (I 0)) 58 true,QG (some 61) (.load true 2 true (V 60)) 58 true,QG (some 62) (.build [(.int .i64 0),(.int .i64 0)] [(0,1,(I 10)),(1,1,(I 5))]) 58 true,QG (some 63) (.eqs false 2 (V 61) (V 62)) 58 true,Q 64 (.pick (V 58) (V 63) bG),M 65 64,QG (some 66) (.mov (V 8)) 65 true,QG (some 67) (.arith .eql (V 66) (I 0)) 65 true,Q 68 (.pick (V 65) (V 67) bG),M 69 68,Q 70 (.pick (V 69) cN bG),M 0 70]
def Cg:aU:=
 ⟨0,[.tmp 0],
 (.seq (.region Fh) (.seq (.clr [(9,14)] (.region Fi)) (.seq (.clr [(14,19)] (.region Wh)) (.seq (.clr [(5,6),(19,23)] (.region Wi)) (.seq (.seq (.clr [(23,36)] (.region Fj)) (.cond (V 36) (.seq (.region Fk) .ret) .skip)) (.seq (.clr [(37,42)] (.region Fl)) (.seq (.clr [(42,71)] (.region Wj)) .ret))))))),false⟩
def Ch:List aB:=[M 20 3,Q 21 (.call .std 64 [(V 20)]),M 22 0,Q 23 (.call .std 151 [(V 22)]),Q 24 (.arith .eql (V 21) (V 23)),M 25 24,QG (some 26) (.mov (V 4)) 25 true,QG (some 27) (.toStr (V 26)) 25 true,QG (some 28) (.mov (V 6)) 25 true,QG (some 29) (.toStr (V 28)) 25 true,QG (some 30) (.arith .eql (V 27) (V 29)) 25 true,Q 31 (.pick (V 25) (V 30) bG),M 32 31,QG (some 33) (.mov (V 5)) 32 true,QG (some 34) (.mov (V 7)) 32 true,QG (some 35) (.arith .eql (V 33) (V 34)) 32 true,Q 36 (.pick (V 32) (V 35) bG),M 37 36,QG (some 38) (.mov (V 3)) 37 true,QG (some 39) (.mov (V 0)) 37 true,QG (some 40) (.call .std 170 [(V 38),(V 39)]) 37 true,Q 41 (.pick (V 37) (V 40) bG),M 42 41]++(QG (some 43) (.wc [] (.cst (.fn 65 [])) []) 42 true::[Q 44 (.pick (V 42) (V 43) bG),M 2 44])
def pk:aU:=
 ⟨1,[.tmp 2],
 (.seq (.region sy) (.seq (.clr [(8,10)] (.region tA)) (.seq (.clr [(10,15)] (.region tB)) (.seq (.clr [(15,20)] (.region tC)) (.seq (.clr [(20,45)] (.region Ch)) .ret))))),false⟩
end Ps
set_option linter.defProp false
namespace Ps
open Go Go.Proofs
def func65:tie.P.funcs[tie.fnOf 65]?=some Tryz.f13:=Tryz.func13
def Wk:fW tie Tryz.f13 Cg=true:=by kernel_rfl
def Wl:tie.P.funcs[tie.fnOf 459]?=some Tryz.f3:=Tryz.func3
def Wm:fW tie Tryz.f3 pk=true:=by kernel_rfl
end Ps
namespace Ps
set_option linter.unusedSimpArgs false
set_option linter.unusedVariables false
open Go Go.Proofs
set_option maxRecDepth 100000
end Ps
set_option linter.defProp false
namespace Ps
set_option linter.unusedSimpArgs false
set_option linter.unusedVariables false
open Go Go.Proofs
set_option maxRecDepth 100000
def YK:T.fn 177=some (.code qE):=rfl
def YL{l:List Sm}{v1 v2:PV}(hv1:bW 2 v1 (l.map bB))(hv2:bW 2 v2 (l.map bB))(hl:l.length≤4000000000)(S:St):aM T 177 [v1,v2] S=some (.bool true,S):=by
 have n1:=hv1.len;have n2:=hv2.len;rw[bU]at n1 n2;refine bP YK rfl ?_;simp -implicitDefEqProofs [qE,n1,n2];refine db l.length (fun i fr S'=>fr 0=v1∧fr 1=v2∧fr 5=.int .i64 (i:Int)∧S'=S) ?_ ?_ 0 (by omega) _ _ ⟨by simp,by simp,by simp,rfl⟩
 ·rintro i fr S' hi ⟨f0,f1,f5,rfl⟩ k;have hii:(i:Int)<(l.length:Int):=by omega
  have g1:=hv1.get i (by simpa using hi) .i64;have g2:=hv2.get i (by simpa using hi) .i64;have hx:((l.map bB)[i]'(by simpa using hi)).cells=[.int .i64 l[i].1,.int .i64 l[i].2]:=by simp
  rw[hx]at g1 g2;have hw1:IntKind.i64.wrap ((i:Int)+1)=((i+1:Nat):Int):=by rw[au]<;>omega
  generalize l[i].1=t at g1 g2;generalize l[i].2=u at g1 g2;rw[aV];simp -implicitDefEqProofs [f0,f1,f5,n1,n2,hi,hii,g1,g2,fo,dh,gN,hw1];exact k _ _ ⟨by simp[f0],by simp[f1],by simp,rfl⟩
 ·rintro fr S' ⟨f0,f1,f5,rfl⟩;rw[aV];simp -implicitDefEqProofs [f0,f1,f5,n1,n2]
def YM:∀l:List aT,dJ l l=0:=fun l=>BQ.2 rfl
def YN:T.fn 170=some (.code qD):=rfl
def YO{l:List bf}{v1 v2:PV}(hv1:eK v1 l)(hv2:eK v2 l)(hl:l.length≤4000000000)(hs:∀s∈l,s.1.length≤maxLen∧s.2.length≤4000000000)(S:St):aM T 170 [v1,v2] S=some (.bool true,S):=by
 obtain⟨e1,a1,a2,a3⟩:=hv1;obtain⟨e2,b1,b2,b3⟩:=hv2;have n1:=a1.len;have n2:=b1.len;rw[a2]at n1;rw[b2]at n2;refine bP YN rfl ?_;simp -implicitDefEqProofs [qD,n1,n2];refine db l.length (fun i fr S'=>fr 0=v1∧fr 1=v2∧fr 5=.int .i64 (i:Int)∧S'=S) ?_ ?_ 0 (by omega) _ _ ⟨by simp,by simp,by simp,rfl⟩
 ·rintro i fr S' hi ⟨f0,f1,f5,rfl⟩ k;have hii:(i:Int)<(l.length:Int):=by omega
  have g1:=a1.reads.get i (by omega) .i64;have g2:=b1.reads.get i (by omega) .i64;obtain⟨lv1,sv1,c1,c2,c3⟩:=a3 i hi (by omega);obtain⟨lv2,sv2,d1,d2,d3⟩:=b3 i hi (by omega);rw[c1]at g1;rw[d1]at g2;have hw1:IntKind.i64.wrap ((i:Int)+1)=((i+1:Nat):Int):=by rw[au]<;>omega
  obtain⟨h1,h2⟩:=hs l[i] (cr hi);have s1:=Tf c2.reads d2.reads h1 S';rw[YM]at s1;have s1:aM T 26 [lv1,lv2] S'=some (.bool true,S'):=s1;have s2:=YL c3.reads d3.reads h2 S';rw[aV];simp -implicitDefEqProofs [f0,f1,f5,n1,n2,hi,hii,g1,g2,bM,s1,s2,hw1];exact k _ _ ⟨by simp[f0],by simp[f1],by simp,rfl⟩
 ·rintro fr S' ⟨f0,f1,f5,rfl⟩;rw[aV];simp -implicitDefEqProofs [f0,f1,f5,n1,n2]
end Ps
set_option linter.defProp false
namespace Ps
set_option linter.unusedSimpArgs false
set_option linter.unusedVariables false
open Go Go.Proofs
set_option maxRecDepth 100000
def yn{u:Nat}(hu:u<2^64):IntKind.u64.wrap ((u:Int)/2)=((u/2:Nat):Int):=by
 have e:(u:Int)/2=((u/2:Nat):Int):=by norm_cast
 rw[e,gG (by omega)]
def Pn{u:Nat}:(u:Int).tmod 2=((u%2:Nat):Int):=by rw[lx (by omega)];norm_cast
def tm{n:Nat}(hn:n<4611686018427387904):IntKind.i64.wrap ((n:Int)/8)=((n/8:Nat):Int):=by
 have e:(n:Int)/8=((n/8:Nat):Int):=by norm_cast
 rw[e,au]<;>omega
def yo{n:Nat}:(n:Int).tmod 8=((n%8:Nat):Int):=by rw[lx (by omega)];norm_cast
def Yy{u:Nat}(h:u≠0):bD u=bD (u/2)+1:=by
 by_cases h1:u=1
 ·subst h1;decide
 ·have:=sY (u:=u) (k:=1) (by omega);rw[this,Nat.pow_one];omega
def Yz:T.fn 375=some (.code z32):=rfl
def ZA{K:List Kt}{Q:Fr→St→Prop}{S:St}:∀(u c:Nat) (fr:Fr),u<2^64→c+bD u≤1000→fr 0=.int .u64 (u:Int)→fr 3=.int .i64 (c:Int) →
  (∀fr',fr' 3=.int .i64 ((c+bD u:Nat):Int)→Ok (aE T K fr' S) Q)→Ok (aE T (.lp wZ::.blk 0::K) fr S) Q:=by
 intro u
 induction u using Nat.strongRecOn with
 |_ u ih=>
  intro c fr hu hc h0 h3 k;by_cases hz:u=0
  ·have hci:¬(0:Int)<(u:Int):=by omega
   rw[aV];simp -implicitDefEqProofs [h0,hci,hz];refine k _ ?_;simp[h3,hz,bD]
  ·have hci:(0:Int)<(u:Int):=by omega
   have hp:0<u:=by omega
   have hq:=yn hu;have hl:=Yy hz;have hw:IntKind.i64.wrap ((c:Int)+1)=((c+1:Nat):Int):=by rw[au]<;>omega
   have hlt:u/2<u:=by omega
   generalize u/2=v at hq hl hlt;rw[aV];simp -implicitDefEqProofs [h0,h3,hci,hp,hw,hq];refine ih v hlt (c+1) _ (by omega) (by omega) (by simp) (by simp) (fun fr' e=>k fr' ?_);rw[e,hl];congr 2;omega
def ZB{u:Nat}(hu:u<2^64)(S:St):aM T 375 [.int .u64 (u:Int)] S=some (.int .i64 ((bD u:Nat):Int),S):=by
 have hl:=jb hu;refine bP Yz rfl ?_;simp -implicitDefEqProofs [z32];refine ZA u 0 _ hu (by omega) (by simp) (by simp) (fun fr' e=>?_);rw[cy]at e;simp -implicitDefEqProofs [e]
def Po{u:Nat}(hu:u<2^64):di T 375 [.int .u64 (u:Int)]=some (.int .i64 ((bD u:Nat):Int)):=nV (ZB hu bT) rfl
def ZC:T.fn 403=some (.code pz):=rfl
def ZD{u k:Nat}(hu:u<2^64)(hk:k≤64)(S:St):aM T 403 [.int .u64 (u:Int),.int .i64 (k:Int)] S=some (.int .u64 ((u/2^k%2:Nat):Int),S):=by
 obtain⟨r,hr⟩:∃r,r=u/2^k%2:=⟨_,rfl⟩;rw[←hr];refine bP ZC rfl ?_;simp -implicitDefEqProofs [pz];refine db k (fun i fr S'=>∃y:Nat,y=u/2^i∧fr 0=.int .u64 (y:Int)∧fr 1=.int .i64 (k:Int)∧fr 5=.int .i64 (i:Int)∧S'=S) ?_ ?_ 0 (by omega) _ _ ⟨u,by simp,by simp,by simp,by simp,rfl⟩
 ·rintro i fr S' hi ⟨y,hy,h0,h1,h5,rfl⟩ kk;have hii:(i:Int)<(k:Int):=by omega
  have hw:IntKind.i64.wrap ((i:Int)+1)=((i+1:Nat):Int):=by rw[au]<;>omega
  have hq:=yn (u:=y) (by rw[hy];exact sL (vk _ _) hu);have hz:y/2=u/2^(i+1):=by rw[hy,Nat.div_div_eq_div_mul,←vr]
  generalize y/2=z at hq hz;rw[aV];simp -implicitDefEqProofs [h0,h1,h5,hi,hii,hw,hq];exact kk _ _ ⟨z,hz,by simp,by simp[h1],by simp,rfl⟩
 ·rintro fr S' ⟨y,hy,h0,h1,h5,rfl⟩;have hm:=Pn (u:=y);have hyr:y%2=r:=by rw[hr,hy]
  rw[hyr]at hm;rw[aV];simp -implicitDefEqProofs [h0,h1,h5,hm]
def ZE{u k:Nat}(hu:u<2^64)(hk:k≤64):di T 403 [.int .u64 (u:Int),.int .i64 (k:Int)]=some (.int .u64 ((u/2^k%2:Nat):Int)):=nV (ZD hu hk bT) rfl
def qy{n:Int}(h1:0≤n)(h2:n<18446744073709551616):IntKind.u64.wrap n=n:=by
 obtain⟨m,rfl⟩:=vQ h1;exact gG (by omega)
def ZF:T.fn 331=some (.code oF):=rfl
def ZG{n:Int}(h1:-4611686018427387904≤n)(h2:n<4611686018427387904)(S:St):aM T 331 [.int .i64 n] S=some (.int .u64 (cz n:Nat),S):=by
 refine bP ZF rfl ?_;by_cases h:0≤n
 ·have w1:IntKind.u64.wrap n=n:=qy h (by omega);have w2:IntKind.u64.wrap (2*n)=((cz n:Nat):Int):=by rw[qy (by omega) (by omega),cz,if_pos h];omega
  generalize cz n=z at w2;simp -implicitDefEqProofs [oF,h,w1,w2]
 ·have w0:IntKind.i64.wrap (n+1)=n+1:=by rw[au]<;>omega
  have w3:IntKind.i64.wrap (-(n+1)) = -(n+1):=by rw[au]<;>omega
  have w3':IntKind.i64.wrap (0-(n+1)) = -(n+1):=by rw[au]<;>omega
  have w1:IntKind.u64.wrap (-(n+1)) = -(n+1):=qy (by omega) (by omega);have w2:IntKind.u64.wrap (2 * -(n+1))=2 * -(n+1):=qy (by omega) (by omega);have w4:IntKind.u64.wrap (2 * -(n+1)+1)=((cz n:Nat):Int):=by rw[qy (by omega) (by omega),cz,if_neg h];omega
  generalize cz n=z at w4;simp -implicitDefEqProofs [oF,h];rw[w0,w3,w1,w2,w4]
def yp{n:Int}(h1:-4611686018427387904≤n)(h2:n<4611686018427387904):di T 331 [.int .i64 n]=some (.int .u64 (cz n:Nat)):=nV (ZG h1 h2 bT) rfl
def ZH:T.fn 412=some (.code qB):=rfl
def Pp(b i:Nat):b/2^i%2=(b.testBit i).toNat:=by
 rw[Nat.testBit_eq_decide_div_mod_eq];have:=kB (b/2^i) (show 0<2 by decide);by_cases h:b/2^i%2=1
 ·simp[h]
 ·have h0:b/2^i%2=0:=by omega
  simp[h0]
def ZI{b:List UInt8}{bv:PV}{nn:Int}(hv:am 1 bv (aI b))(hb:b.length≤1099511627776){i:Nat}(hi:i<8*b.length)(S:St):aM T 412 [.agg [bv,.int .i64 nn],.int .i64 (i:Int)] S=some (.int .u64 (((fa b i).toNat:Nat):Int),S):=by
 have hid:i/8<b.length:=by omega
 have hget:=hv.reads.get (i/8) (by rw[bN];exact hid) .i64
 have hge:((aI b)[i/8]'(by rw[bN];exact hid)).cells=[.int .u8 ((b.getD (i/8) 0).toNat:Int)]:=by
  simp[aI,ci,hid]
 rw[hge]at hget;have hba:((b.getD (i/8) 0).toNat/2^(7-i%8)%2:Nat)=(fa b i).toNat:=Pp _ _;have hlt:(b.getD (i/8) 0).toNat<256:=UInt8.toNat_lt _;generalize (b.getD (i/8) 0).toNat=y at hget hba hlt;have hq8:=tm (n:=i) (by omega);have hr8:=yo (n:=i);have hw7:IntKind.i64.wrap (7-((i%8:Nat):Int))=((7-i%8:Nat):Int):=by rw[au]<;>omega
 have hwy:IntKind.u64.wrap (y:Int)=(y:Int):=gG (by omega);obtain⟨m,hm⟩:∃m,m=7-i%8:=⟨_,rfl⟩;have hm7:m≤7:=by omega
 rw[←hm]at hba hw7;obtain⟨bt,hbt⟩:∃bt,bt=(fa b i).toNat:=⟨_,rfl⟩;rw[←hbt]at hba ⊢;clear hbt hm;generalize i%8=i8 at hr8 hw7;clear hge;generalize i/8=iq at hget hq8;refine bP ZH rfl ?_;obtain⟨o1,o2⟩:=hv.one;simp -implicitDefEqProofs [qB,bM,hq8,hget,hwy,aH,o1,o2];refine db m (fun j fr S'=>∃z:Nat,z=y/2^j∧fr 1=.int .i64 (i:Int)∧fr 5=.int .u64 (z:Int)∧fr 6=.int .i64 (j:Int)∧S'=S) ?_ ?_ 0 (by omega) _ _ ⟨y,by simp,by simp,by simp,by simp,rfl⟩
 ·rintro j fr S' hj ⟨z,hz,h1,h5,h6,rfl⟩ kk;have hjj:(j:Int)<(m:Int):=by omega
  have hw:IntKind.i64.wrap ((j:Int)+1)=((j+1:Nat):Int):=by rw[au]<;>omega
  have hq:=yn (u:=z) (by rw[hz];exact sL (vk _ _) (by omega));have hz2:z/2=y/2^(j+1):=by rw[hz,Nat.div_div_eq_div_mul,←vr]
  generalize z/2=z' at hq hz2;rw[aV];simp -implicitDefEqProofs [h1,h5,h6,hr8,hw7,hj,hjj,hw,hq];exact kk _ _ ⟨z',hz2,by simp[h1],by simp,by simp,rfl⟩
 ·rintro fr S' ⟨z,hz,h1,h5,h6,rfl⟩;have hr:=Pn (u:=z);have hzb:z%2=bt:=by rw[hz];exact hba
  rw[hzb]at hr;rw[aV];simp -implicitDefEqProofs [h1,h5,h6,hr8,hw7,hr]
def ZJ:T.fn 401=some (.code py):=rfl
def ZK{b:List UInt8}{bv:PV}{l:List Bool}(hv:am 1 bv (aI b))(hb:b.length≤1099511627776)(hp:Pk b l)(S:St):aM T 401 [.agg [bv,.int .i64 (l.length:Int)]] S=some (.bool true,S):=by
 obtain⟨h1,h2⟩:=hp;have hvl:=hv.len;rw[bN]at hvl;obtain⟨o1,o2⟩:=hv.one
 have hbit:∀i,l.length≤i→i<8*b.length→∀S,aM T 412 [.agg [bv,.int .i64 (l.length:Int)],.int .i64 (i:Int)] S=some (.int .u64 0,S):=fun i hi hib S=>by
  rw[ZI hv hb hib S,h2 i hib,ci,dI hi];rfl
 obtain⟨n,hn⟩:∃n,n=l.length:=⟨_,rfl⟩;rw[←hn]at h1 hbit ⊢;have hn0:¬(n:Int)<0:=by omega
 have hq8:=tm (n:=n) (by omega);have hr8:=yo (n:=n);have hw1:IntKind.i64.wrap (((n%8:Nat):Int)+7)=((n%8+7:Nat):Int):=by rw[au]<;>omega
 have hq82:=tm (n:=n%8+7) (by omega);have hw2:IntKind.i64.wrap (((n/8:Nat):Int)+(((n%8+7)/8:Nat):Int))=(b.length:Int):=by rw[au]<;>omega
 have hw8:IntKind.i64.wrap (8*(b.length:Int))=((8*b.length:Nat):Int):=by rw[au]<;>omega
 obtain⟨m,hm⟩:∃m,m=8*b.length:=⟨_,rfl⟩;rw[←hm]at hw8 hbit;have hnm:n≤m:=by omega
 have hm2:m≤8796093022208:=by omega
 generalize n%8+7=y at hw1 hq82 hw2;generalize n%8=x at hr8 hw1;generalize y/8=z at hq82 hw2;generalize n/8=w at hq8 hw2;clear h1 h2 hm;refine bP ZJ rfl ?_;simp -implicitDefEqProofs [py,bM,hvl,hn0,hq8,hr8,hw1,hq82,hw2,aH,o1,o2];refine db m (fun j fr S'=>(n≤j∧fr 1=.ref [bv,.int .i64 (n:Int)]∧fr 3=.int .i64 (j:Int)∧S'=S)) ?_ ?_ n hnm _ _ ⟨aX _,by simp,by simp,rfl⟩
 ·rintro j fr S' hj ⟨hnj,h1,h3,rfl⟩ kk;have hjj:(j:Int)<(m:Int):=by omega
  have hw:IntKind.i64.wrap ((j:Int)+1)=((j+1:Nat):Int):=by rw[au]<;>omega
  have hb0:=hbit j hnj hj;rw[aV];simp -implicitDefEqProofs [h1,h3,bM,fo,hvl,hw8,hj,hjj,hw,hb0];exact kk _ _ ⟨by omega,by simp[h1],by simp,rfl⟩
 ·rintro fr S' ⟨hnj,h1,h3,rfl⟩;rw[aV];simp -implicitDefEqProofs [h1,h3,bM,hvl,hw8]
end Ps
set_option linter.defProp false
namespace Ps
set_option linter.unusedSimpArgs false
set_option linter.unusedVariables false
open Go Go.Proofs
set_option maxRecDepth 100000
def ZL:∀y:Fin 256,∀i:Fin 8,y.val.testBit i.val=false→y.val+2^i.val=y.val ||| 2^i.val:=by decide +kernel
def ZM{y i:Nat}(hy:y<256)(hi:i<8)(h:y.testBit i=false):y+2^i=y ||| 2^i:=ZL ⟨y,hy⟩ ⟨i,hi⟩ h
def ZN{bs:List UInt8}{k:Nat}{x:UInt8}(hk:k<bs.length):bK (aI bs) k [.int .u8 (x.toNat:Int)]=aI (bs.set k x):=by
 unfold bK;apply ke;intro i;simp only[aI,gB,vZ];by_cases h1:i<k
 ·rw[bF (by simp;omega),bF (by simp;omega),cx h1,if_neg (by omega),gB]
 ·by_cases h2:i=k
  ·subst h2;rw[bF (by simp;omega),eJ (by simp;omega)];simp[mD (BC hk),hk]
  ·rw[eJ (by simp;omega),if_neg (by omega),hU];simp[mD (BC hk)]
   congr 2;omega
def ZO:∀i:Fin 8,(eW i.val).toNat=2^(7-i.val):=by decide +kernel
def yq(bs:List UInt8):∀e∈aI bs,e.cells.length=1∧e.cells.all PV.one=true:=by
 intro e he;obtain⟨x,_,rfl⟩:=List.mem_map.1 he;exact⟨rfl,rfl⟩
def Pq:T.fn 402=some (.code nz):=rfl
def ZP{S0 S:St}{v:PV}{bs:List UInt8}{l:List Bool}{b:Bool}(h:ig S0 1 S v (aI bs))(hg:aN S0 S)(hp:Pk bs l)(hl:l.length≤1099511627776) :
  ∃v' S',aM T 402 [v,.int .i64 (l.length:Int),.int .u64 ((b.toNat:Nat):Int)] S=some (v',S')∧ig S0 1 S' v' (aI (iz bs l.length b))∧aN S0 S':=by
 obtain⟨n,hn⟩:∃n,n=l.length:=⟨_,rfl⟩;have hr8:=yo (n:=n);have hq8:=tm (n:=n) (by omega);have hw7:IntKind.i64.wrap (7-((n%8:Nat):Int))=((7-n%8:Nat):Int):=by rw[au]<;>omega
 obtain⟨bs1,hbs1⟩:∃bs1,bs1=if n%8=0 then bs++[0]else bs:=⟨_,rfl⟩
 have hlen1:n/8<bs1.length:=by
  have:=hp.1;rw[hbs1];split
  ·simp;omega
  ·omega
 have hbit1:fa bs1 n=false:=by
  have h1:=hp.1;rw[hbs1];split
  ·rw[Bm];exact Bn (by omega)
  ·rw[hp.2 n (by omega),ci,dI (by omega)];rfl
 obtain⟨v1,S1,hroom,hA1,hg1⟩:∃v1 S1,(∀(K:List Kt) (fr:Fr) (Q:Fr→St→Prop),fr 0=v→fr 1=.int .i64 (n:Int)→(∀fr',fr' 0=v1→fr' 1=.int .i64 (n:Int)→fr' 2=fr 2→Ok (aE T K fr' S1) Q) →
   Ok (aE T (Kt.ops wj::Kt.clr [(9,11)]::Kt.code (aL.cond (V 11) (aL.clr [(12,15)] (aL.region wk)) aL.skip)::K) fr S) Q)∧ig S0 1 S1 v1 (aI bs1)∧aN S0 S1:=by
  by_cases hz:n%8=0
  ·have e1:bs1=bs++[0]:=by rw[hbs1,if_pos hz]
   have hc:(((n%8:Nat):Int)==0)=true:=by rw[beq_iff_eq];omega
   have hA:ig S0 1 ⟨S.objs,S.tips++[(1,1)]⟩ v (aI bs):=⟨h.acc,h.ok⟩
   obtain⟨v1,S1,a1,a2,a3,_⟩:=hA.app (bytes:=1) (new:=[.int .u8 0]) (hg.arrs [(1,1)]) (by decide) (fun e he=>by
    rw[mB]at he;subst he;exact⟨rfl,rfl⟩) (by rw[bN];have:=hp.1;simp;omega)
   refine⟨v1,S1,fun K fr Q h0 h1 k=>?_,?_,a3⟩
   ·have hr8':(n:Int).tmod 8=((n%8:Nat):Int):=hr8;rw[hz]at hr8';simp -implicitDefEqProofs [h0,h1,hr8',cA,cc,aH,a1];exact k _ (by simp) (by simp[h1]) (by simp)
   ·rw[e1,gF];exact a2
  ·have e1:bs1=bs:=by rw[hbs1,if_neg hz]
   have hc:(((n%8:Nat):Int)==0)=false:=by rw[beq_eq_false_iff_ne];omega
   refine⟨v,S,fun K fr Q h0 h1 k=>?_,by rw[e1];exact h,hg⟩;generalize ((n%8:Nat):Int)=z at hr8 hc;simp -implicitDefEqProofs [h0,h1,hr8,hc];exact k _ (by simp[h0]) (by simp[h1]) (by simp)
 obtain⟨id,hid,hv1,ho1⟩:∃id,S0.objs.length≤id∧v1=.osl id 0 bs1.length 1∧S1.objs[id]?=some (aI bs1):=by
  rcases hA1.acc with⟨_,e⟩|⟨id,i1,i2,i3,_⟩
  ·have:(aI bs1).length=0:=by rw[e];rfl
   rw[bN]at this;omega
  ·exact⟨id,i1,by rw[i2,bN],by rw[i3,pY]⟩
 have hidl:=(aO.1 ho1).1
 have loop:∀(K:List Kt) (fr:Fr) (Q:Fr→St→Prop),fr 0=v1→fr 1=.int .i64 (n:Int)→fr 7=.int .u8 1→fr 8=.int .i64 0→(∀fr',fr' 0=v1→fr' 1=.int .i64 (n:Int)→fr' 2=fr 2→fr' 7=.int .u8 ((2^(7-n%8):Nat):Int)→Ok (aE T K fr' S1) Q) →
   Ok (aE T (.lp wl::.blk 0::K) fr S1) Q:=by
  intro K fr Q h0 h1 h7 h8 k;obtain⟨m,hm⟩:∃m,m=7-n%8:=⟨_,rfl⟩;have hm7:m≤7:=by omega
  rw[←hm]at hw7 k;clear hm;generalize ((n%8:Nat):Int)=z at hr8 hw7;refine db m (fun i fr' S'=>(∃w:Nat,w=2^i∧fr' 0=v1∧fr' 1=.int .i64 (n:Int)∧fr' 2=fr 2∧fr' 7=.int .u8 (w:Int)∧fr' 8=.int .i64 (i:Int)∧S'=S1)) ?_ ?_ 0 (by omega) _ _ ⟨1,by simp,h0,h1,rfl,h7,h8,rfl⟩
  ·rintro i fr' S' hi ⟨w,hw,g0,g1,g2,g7,g8,rfl⟩ kk;have hii:(i:Int)<(m:Int):=by omega
   have hw1:IntKind.i64.wrap ((i:Int)+1)=((i+1:Nat):Int):=by rw[au]<;>omega
   have hp2:2^(i+1)≤2^7:=BD (by decide) (by omega);have hw2:w*2=2^(i+1):=by rw[hw,vr]
   have hw8:IntKind.u8.wrap ((w:Int)*2)=((w*2:Nat):Int):=by
    rw[show(w:Int)*2=((w*2:Nat):Int)by push_cast;rfl,iD,kA (by omega)]
   generalize w*2=w2 at hw8 hw2;rw[aV];simp -implicitDefEqProofs [g0,g1,g7,g8,hr8,hw7,hi,hii,hw1,hw8];exact kk _ _ ⟨w2,hw2,by simp[g0],by simp[g1],by simp[g2],by simp,by simp,rfl⟩
  ·rintro fr' S' ⟨w,hw,g0,g1,g2,g7,g8,rfl⟩;rw[←hw]at k;rw[aV];simp -implicitDefEqProofs [g0,g1,g7,g8,hr8,hw7];exact k _ (by simp[g0]) (by simp[g1]) (by simp[g2]) (by simp[g7])
 have hpb:iz bs n b=if b then bs1.set (n/8) (bs1.getD (n/8) 0 ||| eW (n%8))else bs1:=by rw[hbs1];rfl
 have hm2:(eW (n%8)).toNat=2^(7-n%8):=ZO ⟨n%8,kB _ (by decide)⟩
 have hor:IntKind.u8.wrap (((bs1.getD (n/8) 0).toNat:Int)+((2^(7-n%8):Nat):Int))=((bs1.getD (n/8) 0 ||| eW (n%8)).toNat:Int):=by
  have e1:=ZM (y:=(bs1.getD (n/8) 0).toNat) (i:=7-n%8) (UInt8.toNat_lt _) (by omega) hbit1;have e2:(bs1.getD (n/8) 0 ||| eW (n%8)).toNat=(bs1.getD (n/8) 0).toNat ||| 2^(7-n%8):=by rw[UInt8.toNat_or,hm2]
  have e3:=UInt8.toNat_lt (bs1.getD (n/8) 0 ||| eW (n%8));rw[e2]at e3 ⊢;rw[←e1]at e3 ⊢;rw[show((bs1.getD (n/8) 0).toNat:Int)+((2^(7-n%8):Nat):Int)=(((bs1.getD (n/8) 0).toNat+2^(7-n%8):Nat):Int)by push_cast;rfl,iD,kA e3]
 have hia:cC 1 v1 (.int .i64 ((n/8:Nat):Int))=some (.ptr id (n/8)):=by
  have:(0:Int)≤((n/8:Nat):Int)∧((n/8:Nat):Int)<bs1.length:=⟨by omega,by omega⟩;rw[hv1];simp only[vH,if_pos this,pG];simp
 have hld:az false 1 ((aI bs1).drop (n/8))=some (.int .u8 ((bs1.getD (n/8) 0).toNat:Int)):=by
  rw[vV (by rw[bN];exact hlen1),bM];simp[aI,ci,hlen1]
 have hput:=ZN (bs:=bs1) (k:=n/8) (x:=bs1.getD (n/8) 0 ||| eW (n%8)) hlen1;have hpl:n/8+1≤(aI bs1).length:=by rw[bN];omega
 rw[←hn];obtain⟨B,hB⟩:∃B,B=bs1.set (n/8) (bs1.getD (n/8) 0 ||| eW (n%8)):=⟨_,rfl⟩;rw[←hB]at hput hpb;have hBl:B.length=bs1.length:=by rw[hB];simp
 generalize (bs1.getD (n/8) 0 ||| eW (n%8))=mb at hor hput hB;generalize (bs1.getD (n/8) 0).toNat=b0 at hor hld hbit1;clear hbit1 hm2
 have hGB:ig S0 1 ⟨S1.objs.set id (aI B),S1.tips⟩ v1 (aI B):=by
  refine⟨.inr ⟨id,hid,by rw[hv1,bN,hBl],?_,fun e=>?_⟩,yq B⟩
  ·rw[pY];simp only;rw[dd hidl]
  ·have:(aI B).length=0:=by rw[e];rfl
   rw[bN]at this;omega
 have hgB:aN S0 ⟨S1.objs.set id (aI B),S1.tips⟩:=iF hg1 hid _;clear hB hbs1 hp h hlen1;generalize 2^(7-n%8)=pw at loop hor
 cases b with
 |false=>
  refine⟨v1,S1,bP Pq rfl ?_,by rw[hpb];exact hA1,hg1⟩;simp -implicitDefEqProofs [nz,-Dt];refine hroom _ _ _ (by simp) (by simp) (fun fr' g0 g1 g2=>?_);simp -implicitDefEqProofs;refine loop _ _ _ (by simp[g0]) (by simp[g1]) (by simp) (by simp) (fun f h0 h1 h2 h7=>?_);simp[g2]at h2;simp -implicitDefEqProofs [h0,h1,h2,h7]
  exact wK
 |true=>
  refine⟨v1,_,bP Pq rfl ?_,by rw[hpb];exact hGB,hgB⟩;simp -implicitDefEqProofs [nz,-Dt];refine hroom _ _ _ (by simp) (by simp) (fun fr' g0 g1 g2=>?_);simp -implicitDefEqProofs;refine loop _ _ _ (by simp[g0]) (by simp[g1]) (by simp) (by simp) (fun f h0 h1 h2 h7=>?_);simp[g2]at h2;obtain⟨O,T0⟩:=S1;simp only at ho1;simp -implicitDefEqProofs [h0,h1,h2,h7,hq8,hia,dM (S:=⟨O,T0⟩) ho1,bM,hld,hor,aH,ho1,hput,hpl,-vH,-Int.natCast_ediv];exact wK
end Ps
set_option linter.defProp false
namespace Ps
set_option linter.unusedSimpArgs false
set_option linter.unusedVariables false
open Go Go.Proofs
set_option maxRecDepth 100000
def ZQ{S0:St}{k u n0:Nat}{bv:PV}(hu:u<2^64)(hk:k≤64)(hn:n0≤1048576){K:List Kt}{Q:Fr→St→Prop}{o:PV}:∀(m i:Nat),i+m=k→∀(l:List Bool) (v:PV) (fr:Fr) (S:St),l.length=n0+i →
  ig S0 1 S v (aI (bz l))→aN S0 S→fr 1=.int .u64 (u:Int)→fr 2=.int .i64 (k:Int)→fr 3=.ref [bv,.int .i64 (n0:Int)]→fr 6=o→fr 8=v→fr 9=.int .i64 (i:Int) →
  (∀fr' S' v',ig S0 1 S' v' (aI (bz (l++cX u m)))→aN S0 S'→fr' 2=.int .i64 (k:Int)→fr' 3=.ref [bv,.int .i64 (n0:Int)]→fr' 6=o→fr' 8=v'→Ok (aE T K fr' S') Q) →
  Ok (aE T (.lp wa::.blk 0::K) fr S) Q:=by
 intro m
 induction m with
 |zero=>
  intro i hi l v fr S hl hA hg h1 h2 h3 h6 h8 h9 kk;have hi:i=k:=by omega
  subst hi;rw[aV];simp -implicitDefEqProofs [h2,h9]
  exact kk _ _ v (by simpa[cX]using hA) hg (by simp[h2]) (by simp[h3]) (by simp[h6]) (by simp[h8])
 |succ m ih=>
  intro i hi l v fr S hl hA hg h1 h2 h3 h6 h8 h9 kk;have hlt:(i:Int)<(k:Int):=by omega
  have s1:IntKind.i64.wrap ((k:Int)-1)=((k-1:Nat):Int):=by rw[au]<;>omega
  have s2:IntKind.i64.wrap (((k-1:Nat):Int)-(i:Int))=(m:Int):=by rw[au]<;>omega
  have s3:IntKind.i64.wrap ((n0:Int)+(i:Int))=(l.length:Int):=by rw[au]<;>omega
  have s4:IntKind.i64.wrap ((i:Int)+1)=((i+1:Nat):Int):=by rw[au]<;>omega
  have hd:=ZE (u:=u) (k:=m) hu (by omega);rw[Pp]at hd;obtain⟨v',S',c1,c2,c3⟩:=ZP (b:=u.testBit m) hA hg (nk l) (by omega);have hpk:iz (bz l) l.length (u.testBit m)=bz (l++[u.testBit m]):=by rw[sW];rfl
  rw[hpk]at c2;generalize ((u.testBit m).toNat:Nat)=tb at hd c1;rw[aV];simp -implicitDefEqProofs [h1,h2,h3,h6,h8,h9,hlt,s1,s2,s3,s4,bM,hd,c1];refine ih (i+1) (by omega) (l++[u.testBit m]) v' _ S' (by simp[hl];omega) c2 c3 (by simp[h1]) (by simp[h2]) (by simp[h3]) (by simp[h6]) (by simp) (by simp) (fun fr2 S2 v2 a b c d e f=>?_);refine kk fr2 S2 v2 ?_ b c d e f;rw[Bp];rw[List.append_assoc]at a;exact a
def ZR(B:List UInt8):am 1 (.sl none (aI B) []) (aI B):=ic (fun e he=>(yq _ e he).1) (gv _ (fun _=>rfl) _) (gS _ (fun _=>rfl) _)
def ZS:T.fn 376=some (.code pt):=rfl
def Pr{l:List Bool}{bv:PV}(hv:am 1 bv (aI (bz l)))(hl:l.length≤1048576){u k:Nat}(hu:u<2^64)(hk:k≤64)(hku:bD u≤k)(h0:0<l.length+k)(S:St) :
  aM T 376 [.agg [bv,.int .i64 (l.length:Int)],.int .u64 (u:Int),.int .i64 (k:Int)] S=some (.tup [.agg [.sl none (aI (bz (l++cX u k))) [],.int .i64 ((l.length+k:Nat):Int)],.int .i64 0],S):=by
 obtain⟨o1,o2⟩:=hv.one;have hpk:=nk l;have hbl:=hpk.1;have hR:=fun S=>ZK hv (by omega) hpk S;obtain⟨S1,hS1⟩:∃S1:St,S1=⟨S.objs++[[.nils,.int .i64 0]],S.tips⟩:=⟨_,rfl⟩;have hdg:=Po hu;have hap:=hv.appd;have hE:ig S1 1 S1 .emp []:=⟨.inl ⟨.inl rfl,rfl⟩,by simp⟩;obtain⟨v2,S2,a1,a2,a3,a4,a5,a6,a7,a8⟩:=hE.app (bytes:=1) (new:=aI (bz l)) (aN.refl S1) (by decide) (yq _) (by simp[bN];omega);rw[nX]at a2;have hk0:¬(k:Int)<0:=by omega
 have hk64:¬(64:Int)<(k:Int):=by omega
 have hkl:¬(k:Int)<((bD u:Nat):Int):=by omega
 have hwn:IntKind.i64.wrap ((l.length:Int)+(k:Int))=((l.length+k:Nat):Int):=by rw[au]<;>omega
 have hgS:aN S S1:=by rw[hS1];exact(aN.refl S).obj _
 generalize hLu:bD u=lu at *;obtain⟨m,hm⟩:∃m,m=l.length+k:=⟨_,rfl⟩;rw[←hm]at hwn ⊢;refine bP ZS rfl ?_;simp -implicitDefEqProofs [pt,aH,cj,o1,o2,fo,←hS1,hR,hk0,hk64,hkl,hdg,bM,hap,a1];refine ZQ (S0:=S1) (bv:=bv) (n0:=l.length) (o:=.ptr S.objs.length 0) hu hk hl k 0 (by omega) l v2 _ S2 (by simp) a2 a3 (by simp) (by simp) (by simp) (by simp) (by simp) (by simp) (fun fr' S' v' b1 b2 h2 h3 h6 h8=>?_)
 have hL:S'.objs[S.objs.length]?=some [.nils,.int .i64 0]:=by
  obtain⟨a,t,rfl⟩:=b2;rw[hS1];simp
 have hlL:S.objs.length<S'.objs.length:=(aO.1 hL).1
 have hne:bz (l++cX u k)≠[]:=fun e=>by
  have:=sX (l++cX u k);rw[e,aZ,pX]at this;simp at this;omega
 obtain⟨id,d1,d2,d3⟩:∃id,S1.objs.length≤id∧v'=.osl id 0 (bz (l++cX u k)).length 1∧S'.objs[id]?=some (aI (bz (l++cX u k))):=by
  rcases b1.acc with⟨_,e⟩|⟨id,i1,i2,i3,_⟩
  ·exact absurd (vW (by rw[←bN,e];rfl)) hne
  ·exact⟨id,i1,by rw[i2,bN],by rw[i3,pY]⟩
 have hidL:S.objs.length<id:=by rw[hS1]at d1;simp at d1;omega
 generalize bz (l++cX u k)=B at *;have hg:aN S ⟨S'.objs.set S.objs.length [.osl id 0 B.length 1,.int .i64 (m:Int)],S'.tips⟩:=iF (hgS.trans b2) (aX _) _
 have hid:(S'.objs.set S.objs.length [.osl id 0 B.length 1,.int .i64 (m:Int)])[id]?=some (aI B):=by
  rw[bn (by omega)];exact d3
 have hfz:PV.frzL (aI B)=aI B:=gS _ (fun _=>rfl) _
 have hfin:ak false S ⟨S'.objs.set S.objs.length [.osl id 0 B.length 1,.int .i64 (m:Int)],S'.tips⟩ (.tup [.agg [.osl id 0 B.length 1,.int .i64 (m:Int)],.int .i64 0]) =
   (.tup [.agg [.sl none (aI B) [],.int .i64 (m:Int)],.int .i64 0],S):=by
  rw[ml hg (Bv (by omega) hid (.int .i64 0) rfl)];simp[PV.frz,PV.frzL,hfz]
 simp -implicitDefEqProofs [h2,h3,h6,h8,d2,bM,hwn,aH,hL,bK,aW,ft];exact yc (by simp[h6,dM (S:=⟨S'.objs.set S.objs.length [.osl id 0 B.length 1,.int .i64 (m:Int)],S'.tips⟩) (show _=_ from dd hlL),fo]) (by simp) hfin
def ZT:∀v:Fin 65,bD v.val≤7:=by decide
def ZU:T.fn 332=some (.code z33):=rfl
def ZV{l:List Bool}{bv:PV}(hv:am 1 bv (aI (bz l)))(hl:l.length≤1048000){u:Nat}(hu:u<2^64)(S:St) :
  aM T 332 [.agg [bv,.int .i64 (l.length:Int)],.int .u64 (u:Int)] S=some (.tup [.agg [.sl none (aI (bz (l++bR u))) [],.int .i64 ((l++bR u).length:Nat)],.int .i64 0],S):=by
 obtain⟨o1,o2⟩:=hv.one;have hlen:bD u≤64:=jb hu;have hdg:=Po hu;have hw7:IntKind.u64.wrap ((bD u:Nat):Int)=((bD u:Nat):Int):=gG (by omega);have p1:=Pr hv (by omega) (u:=bD u) (k:=7) (by omega) (by decide) (ZT ⟨bD u,by omega⟩) (by omega);have hl1:(l++cX (bD u) 7).length=l.length+7:=by rw[aZ,pX]
 have p2:=Pr (l:=l++cX (bD u) 7) (ZR (bz (l++cX (bD u) 7))) (by omega) (u:=u) (k:=bD u) hu hlen (aX _) (by omega);have hbs:l++cX (bD u) 7++cX u (bD u)=l++bR u:=by rw[List.append_assoc];rfl
 have hn:l.length+7+bD u=(l++bR u).length:=by rw[aZ,jc];omega
 rw[hbs,hl1,hn]at p2;generalize bz (l++bR u)=B at *;generalize (l++bR u).length=m at *;generalize bz (l++cX (bD u) 7)=B7 at *;have p1:∀S,aM T 376 [.agg [bv,.int .i64 (l.length:Int)],.int .u64 ((bD u:Nat):Int),.int .i64 7] S=some (.tup [.agg [.sl none (aI B7) [],.int .i64 ((l.length+7:Nat):Int)],.int .i64 0],S):=p1;generalize bD u=lu at *;generalize l.length+7=l7 at *;clear hbs hn hl1;refine bP ZU rfl ?_;simp -implicitDefEqProofs [z33,aH,cj,o1,o2,fo,hdg,hw7,p1,p2,bK,dL];have hfz:PV.frzL (aI B)=aI B:=gS _ (fun _=>rfl) _;have hff:PV.freeL (aI B)=true:=gv _ (fun _=>rfl) _
 have hfin:ak false S ⟨S.objs++[[.sl none (aI B) [],.int .i64 (m:Int)],[.sl none (aI B7) [],.int .i64 (l7:Int)]],S.tips⟩ (.tup [.agg [.sl none (aI B) [],.int .i64 (m:Int)],.int .i64 0]) =
   (.tup [.agg [.sl none (aI B) [],.int .i64 (m:Int)],.int .i64 0],S):=by
  rw[ml ((aN.refl S).objs _) (rC (by simp[PV.free,PV.freeL,hff]))];simp[PV.frz,PV.frzL,hfz]
 exact yc (by simp[dM,fo]) (by simp) hfin
end Ps
set_option linter.defProp false
namespace Ps
set_option linter.unusedSimpArgs false
set_option linter.unusedVariables false
open Go Go.Proofs
set_option maxRecDepth 100000
def ZW:T.fn 257=some (.code qJ):=rfl
def ZX{l:List Sm}{v:PV}(hv:bW 2 v (l.map bB))(hl:l.length≤1048576){K:List Kt}{Q:Fr→St→Prop}{S:St}:∀(n i:Nat),l.length-i=n→i≤l.length→∀(fr:Fr),
  fr 0=v→fr 3=.int .i64 i→(cE l i=0→∀fr',Ok (aE T K fr' S) Q) →
  (cE l i≠0→∀fr',fr' 2=.int .i64 (cE l i)→Q fr' S)→Ok (aE T (.lp tI::.blk 0::K) fr S) Q:=by
 intro n;have hlen:=hv.len;rw[bU]at hlen
 induction n with
 |zero=>
  intro i hni hil fr h0 h3 k1 k2;have hi:i=l.length:=by omega
  have hc:cE l i=0:=by rw[cE,dif_neg (by omega)]
  rw[aV];simp -implicitDefEqProofs [h0,h3,hlen,hi]
  exact k1 hc _
 |succ n ih=>
  intro i hni hil fr h0 h3 k1 k2;have hi:i<l.length:=by omega
  have hget:=hv.get i (by simpa using hi) .i64;have hx:(l.map bB)[i]'(by simpa using hi)=bB l[i]:=by simp
  rw[hx,sV]at hget;have hmay:∀S,aM T 329 [.agg [.int .i64 l[i].1,.int .i64 l[i].2]] S=some (.bool (eu l[i].1 l[i].2),S):=fun S=>UV l[i].1 l[i].2 S;have hw:IntKind.i64.wrap ((i:Int)+1)=((i+1:Nat):Int):=by rw[au]<;>omega
  rw[cE,dif_pos hi]at k1 k2
  have hL:cW l i hi=0→∀fr',fr' 0=v→fr' 3=.int .i64 ((i+1:Nat):Int)→Ok (aE T (.lp tI::.blk 0::K) fr' S) Q:=by
   intro hz fr' g0 g3;rw[if_pos hz]at k1 k2;exact ih (i+1) (by omega) (by omega) fr' g0 g3 k1 k2
  have hR:∀(e:Nat),e≠0→cW l i hi=e→∀fr',fr' 2=.int .i64 e→Q fr' S:=by
   intro e he hz fr' g2;rw[if_neg (by rw[hz];exact he),hz]at k2;exact k2 he fr' g2
  clear k1 k2 ih;by_cases hi0:0<i
  ·have hgetp:=hv.get (i-1) (by simp;omega) .i64;have hxp:(l.map bB)[i-1]'(by simp;omega)=bB l[i-1]:=by simp
   rw[hxp,sV]at hgetp;have hsub:IntKind.i64.wrap ((i:Int)-1)=((i-1:Nat):Int):=by rw[au]<;>omega
   rw[aV];simp -implicitDefEqProofs [h0,h3,hlen,hi,hget,fo,bM,hmay,hi0,hgetp,hsub];refine bV (fun a1=>dj (hR 11 (by decide) ?_ _ (by simp))) (fun a1=>bV (fun a4=>dj (hR 13 (by decide) ?_ _ (by simp))) (fun a4=>hL ?_ _ (by simp[h0]) (by simp[hw])))
   ·rw[cW,if_pos (by simpa using a1)]
   ·rw[cW,if_neg (by simpa using a1),dif_pos hi0,if_pos (by simpa using a4)]
   ·rw[cW,if_neg (by simpa using a1),dif_pos hi0,if_neg (by simpa using a4)]
  ·rw[aV];simp -implicitDefEqProofs [h0,h3,hlen,hi,hget,fo,bM,hmay,hi0];refine bV (fun a1=>dj (hR 11 (by decide) ?_ _ (by simp))) (fun a1=>hL ?_ _ (by simp[h0]) (by simp[hw]))
   ·rw[cW,if_pos (by simpa using a1)]
   ·rw[cW,if_neg (by simpa using a1),dif_neg hi0]
def Pt{l:List Sm}{v:PV}(hv:bW 2 v (l.map bB))(hl:l.length≤1048576)(S:St):aM T 257 [v] S=some (.int .i64 (cE l 0),S):=by
 refine bP ZW rfl ?_;simp -implicitDefEqProofs [qJ];refine ZX hv hl l.length 0 (by omega) (by omega) _ (by simp) (by simp) (fun hz fr'=>?_) (fun hz fr' g2=>?_)
 ·simp[hz,aN.refl]
 ·simp[g2,aN.refl]
def ZY:T.fn 330=some (.code oE):=rfl
def ZZ{l:List Sm}{v:PV}(hv:bW 2 v (l.map bB))(S:St):aM T 330 [v] S=some (.int .i64 (dZ l),S):=by
 have hlen:=hv.len;rw[bU]at hlen;refine bP ZY rfl ?_;by_cases h:l.length=0∨120<l.length
 ·have hn:dZ l=2:=by rw[dZ,if_pos h]
  have hc:(((l.length:Nat):Int)==0||decide ((120:Int)<(l.length:Int)))=true:=by
   rw[gW,beq_iff_eq,decide_eq_true_eq];omega
  simp -implicitDefEqProofs [oE,hlen,hn];refine bV (fun a=>?_) (fun a=>absurd hc (by simp[a]));simp[aN.refl]
 ·have hn:dZ l=cE l 0:=by rw[dZ,if_neg h]
  have hr:=fun S=>Pt hv (by omega) S
  have hc:(((l.length:Nat):Int)==0||decide ((120:Int)<(l.length:Int)))=false:=by
   rw[Bool.or_eq_false_iff,beq_eq_false_iff_ne,decide_eq_false_iff_not];omega
  simp -implicitDefEqProofs [oE,hlen,hn];refine bV (fun a=>absurd hc (by simp[a])) (fun a=>?_);simp[hr,aN.refl]
def tn(l:List Sm)(i:Nat):List Nat:=[if i=1 then(aR l 1-aR l 0).toNat else cz ((aR l i-aR l (i-1))-(aR l (i-1)-aR l (i-2))),cz (bS l i-bS l (i-1))]
def eG(l:List Sm):Nat→List Nat
 |0=>[l.length,(aR l 0).toNat,cz (bS l 0)]
 |k+1=>eG l k++tn l (k+1)
theorem Pu(l:List Sm):∀k,fA l k=(eG l k).flatMap bR
 |0=>by simp[fA,eG]
 |k+1=>by simp only[fA,eG,List.flatMap_append,Pu l k,mJ,tn,dC,List.flatMap_nil,dR]
theorem tp(l:List Sm):∀k,(eG l k).length=3+2*k
 |0=>rfl
 |k+1=>by simp only[eG,tn,aZ,tp l k,bE,cO];omega
def Pv{l:List Sm}(h:nm l):∀k,∀n∈eG l k,n<2^64:=by
 have t0:=h.t0;have t1:=h.t1;have v0:=h.v0;have v1:=h.v1;have hl:=h.len;intro k
 induction k with
 |zero=>
  intro n hn;simp only[eG,cQ,pO,or_false]at hn;rcases hn with rfl|rfl|rfl
  ·omega
  ·have:=t1 0;have:=t0 0;omega
  ·exact nl (by have:=v0 0;omega) (by have:=v1 0;omega)
 |succ k ih=>
  intro n hn;simp only[eG,tn,bd,cQ,pO,or_false]at hn;rcases hn with hn|rfl|rfl
  ·exact ih n hn
  ·split
   ·have:=t1 1;have:=t0 0;omega
   ·exact nl (by have:=t0 (k+1);have:=t1 (k+1-1);have:=t0 (k+1-2);have:=t1 (k+1-2);have:=t1 (k+1);have:=t0 (k+1-1);omega) (by have:=t0 (k+1);have:=t1 (k+1-1);have:=t0 (k+1-2);have:=t1 (k+1-2);have:=t1 (k+1);have:=t0 (k+1-1);omega)
  ·exact nl (by have:=v0 (k+1);have:=v1 (k+1-1);omega) (by have:=v1 (k+1);have:=v0 (k+1-1);omega)
def ij(n:Nat):PV:=.int .u64 (n:Int)
def ad.reads1{S0 S:St}{v:PV}{es:List PV}(h:ad S0 1 S v es)(hs:∀e∈es,e.cells.length=1):bW 1 v es:=by
 rcases h.acc with⟨rfl,rfl⟩|⟨id,_,rfl,_⟩
 ·exact tz 1
 ·exact uB hs
end Ps
