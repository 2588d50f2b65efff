/- A law's contract, where its calls may come to this or to that. -/
import Derived.Test.YtpjmpaidcidjgaaGreatDoorAbbKt
import Derived.Test.YtpjmpaidcidjgaaGreatDoorIDKt
import Derived.Test.YtpjmpaidcidjgaaGreatDoorCMKt
import Derived.Test.YtpjmpaidcidjgaaGreatDoorArgsKt
import Derived.Test.YtpjmpaidcidjgaaGreatDoorBAKt
import Derived.Test.YtpjmpaidcidjgaaGreatDoorSimYKt
set_option linter.defProp false
namespace Ps
set_option linter.unusedSimpArgs false
set_option linter.unusedVariables false
open Go Go.Proofs
set_option maxRecDepth 100000
def tB(b:List UInt8)(k:Nat)(w:BitVec 32):Nat→List UInt8
 |0=>b
 |i+1=>(tB b k w i).set (k+i) ((tB b k w i).getD (k+i) 0 ^^^ mW w i)
theorem pW(b:List UInt8)(k:Nat)(w:BitVec 32):∀i,(tB b k w i).length=b.length
 |0=>rfl
 |i+1=>by rw[tB,qh,pW b k w i]
theorem NV{b:List UInt8}{k:Nat}{w:BitVec 32}(hk:k+4≤b.length):∀i,i≤4→∀j,(tB b k w i).getD j 0=if k≤j∧j<k+i then b.getD j 0 ^^^ mW w (j-k)else b.getD j 0
 |0,_,j=>by rw[if_neg (by omega)];rfl
 |i+1,hi,j=>by
  have ih:=NV (w:=w) hk i (by omega);have hl:=pW b k w i
  have e:(tB b k w (i+1)).getD j 0=if j=k+i then(tB b k w i).getD (k+i) 0 ^^^ mW w i else(tB b k w i).getD j 0:=by
   rw[tB,cH,tc];by_cases h:k+i=j
   ·subst h;rw[if_pos rfl,if_pos (by omega),if_pos rfl];rfl
   ·rw[if_neg h,if_neg (Ne.symm h),cH]
  rw[e];by_cases h:j=k+i
  ·subst h;rw[if_pos rfl,ih,if_neg (by omega),if_pos (by omega),QP]
  ·rw[if_neg h,ih];by_cases h2:k≤j∧j<k+i
   ·rw[if_pos h2,if_pos (by omega)]
   ·rw[if_neg h2,if_neg (by omega)]
def We{b:List UInt8}{k:Nat}{w:BitVec 32}(hk:k+4≤b.length):xO b (tB b k w 4) k w:=⟨pW b k w 4,NV hk 4 (aR _)⟩
def Wf(a b:UInt8):gN .u8 (a.toNat:Int) (b.toNat:Int)=((a ^^^ b).toNat:Int):=by
 show IntKind.u8.wrap (((BitVec.ofInt 8 (a.toNat:Int) ^^^ BitVec.ofInt 8 (b.toNat:Int)).toNat:Nat):Int)=_;have e:∀x:UInt8,BitVec.ofInt 8 (x.toNat:Int)=BitVec.ofNat 8 x.toNat:=fun x=>BitVec.ofInt_ofNat 8 x.toNat
 have e2:∀x:UInt8,x.toNat%2^8=x.toNat:=fun x=>ge x.toNat_lt;rw[e a,e b,BitVec.toNat_xor,BitVec.toNat_ofNat,BitVec.toNat_ofNat,e2,e2,←UInt8.toNat_xor,jb,ge (UInt8.toNat_lt _)]
def Wg{a k:Nat}(hk:k≤32){l:IntKind}:arith .shr (.int .u32 (a:Int)) (.int l (k:Int))=some (.int .u32 ((a/2^k:Nat):Int)):=by
 have h1:¬((k:Int)<0):=by omega
 have h2:min (k:Int).toNat IntKind.u32.bits=k:=by simp[IntKind.bits];omega
 simp only[arith,eN,nL,if_true,if_neg h1,h2];rw[ml _ (by exact_mod_cast bh (2^k))]
 norm_cast
def Wh{T:aM}{b:List UInt8}{k:Nat}{w:BitVec 32}(hk:k+4≤b.length)(hb:b.length≤67108864){K:List Kt}{Q:Fr→St→Prop}{fr:Fr}
  (h2:fr 2=.int .u32 (w.toNat:Int))(h7:fr 7=.osl 0 0 b.length 1)(h9:fr 9=.int .i64 (k:Int))(h10:fr 10=.int .i64 0)
  (kk:∀fr',fr' 7=.osl 0 0 b.length 1→Ok (aF T K fr' ⟨[aJ (tB b k w 4)],[]⟩) Q) :
  Ok (aF T (.lp sB::.blk 0::K) fr ⟨[aJ b],[]⟩) Q:=by
 refine jp 4 (fun i fr' S'=>fr' 2=.int .u32 (w.toNat:Int)∧fr' 7=.osl 0 0 b.length 1∧fr' 9=.int .i64 (k:Int)∧fr' 10=.int .i64 (i:Int)∧S'=⟨[aJ (tB b k w i)],[]⟩) ?_ ?_ 0 (bh _) _ _ ⟨h2,h7,h9,by simpa using h10,rfl⟩
 ·rintro i fr' S' hi ⟨g2,g7,g9,g10,rfl⟩ hn;obtain⟨c,hc⟩:∃c,c=tB b k w i:=⟨_,rfl⟩;have hcl:c.length=b.length:=by rw[hc,pW]
  rw[←hc];have hs:∀x,tB b k w (i+1)=c.set (k+i) x↔tB b k w (i+1)=c.set (k+i) x:=fun x=>Iff.rfl;have hc1:tB b k w (i+1)=c.set (k+i) (c.getD (k+i) 0 ^^^ mW w i):=by rw[tB,←hc]
  have hlt:(i:Int)<4:=by omega
  obtain⟨q,hq0⟩:∃q,q=k+i:=⟨_,rfl⟩;obtain⟨e8,he8⟩:∃e,e=8*i:=⟨_,rfl⟩;have hw0:IntKind.i64.wrap ((k:Int)+(i:Int))=(q:Int):=by rw[bT]<;>omega
  have hw1:IntKind.i64.wrap ((i:Int)+1)=(i:Int)+1:=by rw[bT]<;>omega
  have hw8:IntKind.i64.wrap (8*(i:Int))=(e8:Int):=by rw[bT]<;>omega
  have hql:q<b.length:=by omega
  have hq:q<c.length:=by omega
  have hld:ap false 1 ((aJ c).drop q)=some (.int .u8 ((c.getD q 0).toNat:Int)):=by
   rw[zL (by rw[bo];exact hq),dD];simp[aJ,cH,hq]
  have hsh:=Wg (a:=w.toNat) (k:=e8) (by omega) (l:=.i64)
  have hby:IntKind.u8.wrap ((w.toNat/2^e8:Nat):Int)=((mW w i).toNat:Int):=by
   rw[jb,he8,mW,UInt8.toNat_ofNat',ge (a:=w.toNat/2^(8*i)%256) (b:=2^8) (io _ (by decide))]
  have hxo:=Wf (c.getD q 0) (mW w i)
  have hput:bB (aJ c) q [.int .u8 ((c.getD q 0 ^^^ mW w i).toNat:Int)]=aJ (c.set q (c.getD q 0 ^^^ mW w i)):=by
   simp only[bB,aJ,←oQ,←qj,List.set_eq_take_append_cons_drop,if_pos hq,dp,cB,bE,cP];simp
  have hpl:q+1≤(aJ c).length:=by rw[bo];omega
  have hob:(⟨[aJ c],[]⟩:St).objs[0]?=some (aJ c):=rfl;rw[hc1,←hq0]at hn;obtain⟨d,hd⟩:∃d,d=c.set q (c.getD q 0 ^^^ mW w i):=⟨_,rfl⟩;rw[←hd]at hput hn;generalize c.getD q 0 ^^^ mW w i=x2 at hxo hput;generalize w.toNat/2^e8=sh at hsh hby;generalize mW w i=m at hby hxo;generalize c.getD q 0=x1 at hld hxo;rw[bH];simp -implicitDefEqProofs [rQ,vj,g2,g7,g9,g10,hlt,hi,hw0,hw8,hql,dG hob,hld,hsh,hby,hxo,aH,hput,hpl];refine hn _ _ ?_;exact⟨by simp[g2],by simp[g7],by simp[g9],by simp[hw1],rfl⟩
 ·rintro fr' S' ⟨g2,g7,g9,g10,rfl⟩;rw[bH];simp -implicitDefEqProofs [rQ,g10];exact kk _ (by simp[g7])
def Wi{b:List UInt8}(hb:b≠[]):cD (aj [aJ b] 0 dJ) [.osl 0 0 b.length 1]=some [.sl none (aJ b) []]:=by
 have hl:(aJ b).length=b.length:=bo b;have hone:(aJ b).all PV.one=true:=by simp[aJ,PV.one]
 have htk:(aJ b).take b.length=aJ b:=by rw[←hl];exact il
 have hm:∀(k:Nat) (l:List UInt8),cD (aj [aJ b] 0 (k+1)) (aJ l)=some (aJ l):=by
  intro k l
  induction l with
  |nil=>rfl
  |cons x l ih=>
   have e:aJ (x::l)=.int .u8 x.toNat::aJ l:=rfl;rw[e,cD,oG rfl,ih]
 have hch:∀l:List UInt8,dA 1 l.length (aJ l)=aJ l:=by
  intro l
  induction l with
  |nil=>rfl
  |cons x l ih=>
   have e:aJ (x::l)=.int .u8 x.toNat::aJ l:=rfl;rw[e,bE,dA];simp[nM,ih]
 have hs:aj [aJ b] 0 dJ (.osl 0 0 b.length 1)=some (.sl none (aJ b) []):=by
  show aj [aJ b] 0 (39+1) _=_;unfold aj;simp[PV.free,hl,htk,hone,hm 38 b,hch]
 simp[cD,hs]
end Ps
set_option linter.defProp false
namespace Ps
set_option linter.unusedSimpArgs false
set_option linter.unusedVariables false
open Go Go.Proofs
set_option maxRecDepth 100000
abbrev fQ:Ty:=.st (.pair (.int .i64) (.pair (.int .i64) .unit))
abbrev cZ:Ty:=.st (.pair (.sl kM) (.pair (.sl fQ) .unit))
def jJ(x:fQ.den):Sm:=(x.1,x.2.1)
def pP(x:(Ty.sl fQ).den):List Sm:=match x with|none=>[]|some q=>q.1.map jJ
def wu(x:cZ.den):cA:=(oX x.1,pP x.2.1)
def kf(x:(Ty.sl cZ).den):List cA:=match x with|none=>[]|some q=>q.1.map wu
def Uz(x:(Ty.sl kM).den):bM 2 ((Ty.sl kM).pv x) ((oX x).map az):=by
 cases x with
 |none=>exact kg 2
 |some q=>
  obtain⟨es,sp⟩:=q;exact⟨.inr ⟨sp.map az,rfl,qq sp,uF sp,qp sp⟩,qq es,uF es,qp es⟩
def VA(x:(Ty.sl fQ).den):bM 2 ((Ty.sl fQ).pv x) ((pP x).map bJ):=by
 cases x with
 |none=>exact kg 2
 |some q=>
  obtain⟨es,sp⟩:=q;have e:(pP (some (es,sp))).map bJ=es.map fun x=>bJ (jJ x):=by simp[pP,Function.comp_def]
  rw[e];have hc:∀l:List fQ.den,∀v∈l.map fun x=>bJ (jJ x),v.cells.length=2:=fun l v hv=>by obtain⟨_,_,rfl⟩:=List.mem_map.1 hv;rfl
  have hf:∀l:List fQ.den,PV.freeL (l.map fun x=>bJ (jJ x))=true:=fun l=>ju (fun x=>bJ (jJ x)) (fun _=>rfl) l;have hz:∀l:List fQ.den,PV.frzL (l.map fun x=>bJ (jJ x))=l.map fun x=>bJ (jJ x):=fun l=>jv (fun x=>bJ (jJ x)) (fun _=>rfl) l;exact⟨.inr ⟨sp.map fun x=>bJ (jJ x),rfl,hc sp,hf sp,hz sp⟩,hc es,hf es,hz es⟩
def rf(x:cZ.den):iK (cZ.pv x) (wu x):=by
 obtain⟨l,s,⟨⟩⟩:=x;refine⟨(Ty.sl kM).pv l,(Ty.sl fQ).pv s,?_,Uz l,VA s⟩;cases l<;>cases s<;>rfl
def iK.cells {v:PV} {s:cA} (h:iK v s):v.cells.length=2:=by obtain⟨a,b,rfl,_⟩:=h;rfl
def iK.free{v:PV}{s:cA}(h:iK v s):v.free=true:=by
 obtain⟨a,b,rfl,h1,h2⟩:=h;simp[PV.free,PV.freeL,h1.free,h2.free]
def iK.frz{v:PV}{s:cA}(h:iK v s):v.frz=v:=by
 obtain⟨a,b,rfl,h1,h2⟩:=h;simp[PV.frz,PV.frzL,h1.frz,h2.frz]
def VB(x:(Ty.sl cZ).den):iu ((Ty.sl cZ).pv x) (kf x):=by
 cases x with
 |none=>exact⟨[],kg 2,rfl,fun i h h'=>by simp at h'⟩
 |some q=>
  obtain⟨es,sp⟩:=q;have hc:∀l:List cZ.den,∀v∈l.map cZ.pv,v.cells.length=2:=fun l v hv=>by obtain⟨x,_,rfl⟩:=List.mem_map.1 hv;exact(rf x).cells
  have hf:∀l:List cZ.den,PV.freeL (l.map cZ.pv)=true:=fun l=>ju cZ.pv (fun x=>(rf x).free) l;have hz:∀l:List cZ.den,PV.frzL (l.map cZ.pv)=l.map cZ.pv:=fun l=>jv cZ.pv (fun x=>(rf x).frz) l;refine⟨es.map cZ.pv,⟨.inr ⟨sp.map cZ.pv,rfl,hc sp,hf sp,hz sp⟩,hc es,hf es,hz es⟩,by simp[kf],fun i h h'=>?_⟩;simp only[kf,List.getElem_map];exact rf _
theorem Mh{t:Ty}:∀{l:List t.den} {x:t.den},x∈l→t.bulk x≤(l.map t.bulk).sum
 |a::l,x,h=>by
  rw[cB,tk];rcases cY.1 h with rfl|h
  ·omega
  ·have:=Mh h;omega
def VC(x:(Ty.sl fQ).den):(pP x).length≤(Ty.sl fQ).bulk x:=by
 cases x with
 |none=>exact bh _
 |some q=>
  obtain⟨es,sp⟩:=q;have h:es.length≤(es.map (Ty.bulk fQ)).sum:=uG fQ (fun _=>Nat.succ_le_succ (bh _)) es;show(es.map jJ).length≤(es.map (Ty.bulk fQ)).sum+(sp.map (Ty.bulk fQ)).sum+1;rw[dN];omega
def VD{x:(Ty.sl cZ).den}(hw:(Ty.sl cZ).wf x)(hb:(Ty.sl cZ).bulk x≤1048576):(kf x).length≤1048576∧kS (kf x):=by
 cases x with
 |none=>exact⟨bh _,fun s hs=>by simp[kf]at hs⟩
 |some q=>
  obtain⟨es,sp⟩:=q
  have hbk:(es.map (Ty.bulk cZ)).sum≤1048576:=by
   have:(es.map (Ty.bulk cZ)).sum+(sp.map (Ty.bulk cZ)).sum+1≤1048576:=hb;omega
  have h:es.length≤(es.map (Ty.bulk cZ)).sum:=uG cZ (fun _=>Nat.succ_le_succ (bh _)) es;refine⟨by simp only[kf,dN];omega,fun s hs=>?_⟩;simp only[kf,List.mem_map]at hs;obtain⟨y,hy,rfl⟩:=hs;have hyb:=Mh hy;obtain⟨l,s,⟨⟩⟩:=y;have hyw:=hw.2.1 _ hy;obtain⟨w1,w2,_⟩:=hyw;obtain⟨a1,a2⟩:=Qe w1;have hb2:(Ty.sl kM).bulk l+((Ty.sl fQ).bulk s+0)+1≤(es.map (Ty.bulk cZ)).sum:=hyb;have hl:=VC s;exact⟨⟨a1,fun z hz=>(a2 z hz).1⟩,by simp only[wu];omega⟩
end Ps
set_option linter.defProp false
namespace Ps
set_option linter.unusedSimpArgs false
set_option linter.unusedVariables false
open Go Go.Proofs
set_option maxRecDepth 100000
def Wj{S S':St}:∃S'',ac false S S' (.bool true)=(.bool true,S''):=by
 unfold ac;rw[pX rfl];simp only[bg,if_false];split
 ·exact⟨_,rfl⟩
 ·split<;>exact⟨_,rfl⟩
def Wk(n:Nat):1≤(bU n).length:=by
 unfold bU;split<;>simp
def Wl(l:List cA):9≤(dQ l).length:=by
 have h1:=Wk (df (l.map (·.1))).length;have h2:fN.length=4:=rfl;have h3:(dE (dt l)).length=4:=rfl;have h4:(dQ l).length=(dt l).length+(dE (dt l)).length:=by rw[dQ,ak]
 have h5:(dt l).length=fN.length+(dP (df (l.map (·.1)))).length+(l.flatMap eJ).length:=by simp only[dt,ak]
 have h6:(dP (df (l.map (·.1)))).length=(bU (df (l.map (·.1))).length).length+(df (l.map (·.1))).length:=by simp only[dP,ak]
 omega
def Wm(l:List cA):(dQ l).drop ((dQ l).length-4)=dE ((dQ l).take ((dQ l).length-4)):=by
 have h4:(dE (dt l)).length=4:=rfl;have e:(dQ l).length-4=(dt l).length:=by rw[dQ,ak,h4];omega
 rw[e];unfold dQ;rw[List.drop_left,List.take_left]
def Wn{v:PV}{l:List cA}(hv:iu v l)(hb:kS l)(hN:l.length≤4000000000)(a:Int)(w:BitVec 32) :
  ∃S',aS (TJ v l) 458 [v,.int .i64 a,.int .u32 (w.toNat:Int)] bF=some (.bool true,S'):=by
 have hck:∀S,aS (TJ v l) 64 [v] S=some (.int .i64 (dH l),S):=fun S=>kQ rfl (by simp[sC]);have hl0:aS (TJ v l) 65 [] bF=some (.bool true,bF):=kQ rfl (by simp[sD]);have hlv:ef (TJ v l) 65 []=some (.bool true):=qW hl0 rfl;obtain⟨es,hes,hel,_⟩:=id hv
 suffices main:∀Q:Fr→St→Prop,(∀fr S',fr 6=.bool true→Q fr S')→Ok (aF (TJ v l) [.code jt.body] (bX [v,.int .i64 a,.int .u32 (w.toNat:Int)]) bF) Q by
  obtain⟨r,S',h1,h2⟩:=nY (R:=fun r _=>r=.bool true) (T:=TJ v l) (f:=458) (c:=jt) rfl rfl (main _ (fun fr S' h6=>⟨[fr 6],by simp[jt,bb,hI],by
   rw[h6];obtain⟨S'',e⟩:=Wj (S:=bF) (S':=S');show(ac false bF S' (.bool true)).1=_;rw[e]⟩))
  subst h2;exact⟨S',h1⟩
 intro Q hQ;by_cases hz:dH l=0
 rotate_left
 ·have hw:aS (TJ v l) 155 [v] bF=some (.tup [.nils,.int .i64 (dH l)],bF):=kQ rfl (by simp[pV,hz]);have hn1:(((dH l:Nat):Int) != 0)=true:=by simpa using hz
  generalize ((dH l:Nat):Int)=n at hck hw hn1;simp -implicitDefEqProofs [jt,pD,pE,pF,rP,hw,hck,hn1,hlv];exact hQ _ _ (by simp)
 have hk:=Ao hz;have hbl:=Au hk;obtain⟨b,hbe⟩:∃b,b=dQ l:=⟨_,rfl⟩;have hb9:9≤b.length:=by rw[hbe];exact Wl l
 have hbh:b.length≤4000000:=by
  have h3:(dE (dt l)).length=4:=rfl;rw[hbe,dQ,ak];omega
 have hsum:b.drop (b.length-4)=dE (b.take (b.length-4)):=by rw[hbe];exact Wm l
 have hw:aS (TJ v l) 155 [v] bF=some (.tup [.osl 0 0 b.length 1,.int .i64 0],⟨[aJ b],[]⟩):=kQ rfl (by simp[pV,hz,←hbe,bo,bF]);rw[hz]at hck;have hck:∀S,aS (TJ v l) 64 [v] S=some (.int .i64 0,S):=hck;have hlt9:¬(b.length:Int)<9:=by omega
 by_cases hw0:w=0#32
 ·subst hw0;have hq:((0#32).toNat:Int)=0:=rfl;simp -implicitDefEqProofs [jt,pD,pE,pF,rP,hw,hck,hlv,hlt9,hq];exact hQ _ _ (by simp)
 have hwn':w.toNat≠0:=fun e=>hw0 (BitVec.eq_of_toNat_eq (by simpa using e));have hwn:((w.toNat:Int)==0)=false:=by rw[beq_eq_false_iff_ne];omega
 obtain⟨A,hA,hA2⟩:∃A:Nat,IntKind.u64.wrap a=(A:Int)∧A<18446744073709551616:=by
  have e:IntKind.u64.wrap a=a%18446744073709551616:=rfl;exact⟨(a%18446744073709551616).toNat,by rw[e];omega,by omega⟩
 have hw7:IntKind.i64.wrap ((b.length:Int)-7)=((b.length-7:Nat):Int):=by rw[bT]<;>omega
 obtain⟨m,hm⟩:∃m,m=b.length-7:=⟨_,rfl⟩;rw[←hm]at hw7;have hm1:2≤m:=by omega
 have hmu:=jc (n:=m) (by omega);have hm0:¬m=0:=by omega
 have hmod:(A:Int).tmod (m:Int)=((A%m:Nat):Int):=by rw[qb (by omega)];omega
 have hAm:A%m<m:=io _ (by omega);obtain⟨d,hd⟩:∃d,d=A%m:=⟨_,rfl⟩;rw[←hd]at hmod hAm;have hwd:IntKind.i64.wrap (d:Int)=(d:Int):=by rw[bT]<;>omega
 obtain⟨k,hk4⟩:∃k,k=4+d:=⟨_,rfl⟩;have hwk:IntKind.i64.wrap (4+(d:Int))=(k:Int):=by rw[bT]<;>omega
 have hkl:k+4≤b.length:=by omega
 have hseen:=WI (We (w:=w) hkl) hkl hw0 hsum;have htl:=pW b k w 4;obtain⟨c,hc⟩:∃c,c=tB b k w 4:=⟨_,rfl⟩;rw[←hc]at hseen htl;have hcne:c≠[]:=fun e=>by rw[e]at htl;simp at htl;omega
 have hsn:cE (aS (TJ v l)) .snap 66 [.osl 0 0 b.length 1] ⟨[aJ c],[]⟩=some (.tup [.nilp,.int .i64 5],⟨[aJ c],[]⟩):=by
  have h1:=Wi hcne;rw[htl]at h1
  have hfz:PV.frzL [.sl none (aJ c) []]=[.sl none (aJ c) []]:=by
   have:=(nA c).fz;simp[PV.frzL,PV.frz,this]
  have h2:aS (TJ v l) 66 [.sl none (aJ c) []] bF=some (.tup [.nilp,.int .i64 5],bF):=kQ rfl (by
   unfold sE;rw[if_pos ⟨c,rfl,by omega,by omega,hseen⟩])
  simp only[cE,jn,h1,hfz,h2,ck];rfl
 simp -implicitDefEqProofs [jt,pD,pE,pF,vh,vi,hw,hlt9,hwn,hA,hw7,hmu,hm0,hmod,hwd,hwk,-WY];refine Wh (b:=b) (k:=k) (w:=w) hkl (by omega) ?_ ?_ ?_ ?_ (fun fr' h7=>?_)
 ·simp
 ·simp
 ·simp
 ·simp
 rw[←hc];have hnl:fH false .p .nilp=some (.bool true):=rfl;simp -implicitDefEqProofs [h7,hsn,vk,hlv,hnl];exact hQ _ _ (by simp)
def func458w:tie1.P.funcs[tie1.fnOf 458]?=some Tryz.f5:=Tv
def Wp:Tryz.f5.name ≠ "runtime.NumGoroutine" := by decide +kernel
def Wq{v:PV}{l:List cA}(hv:iu v l)(hb:kS l)(hN:l.length≤4000000000)(a:Int)(w:BitVec 32) :
  ca tie1 458 [v,.int .i64 a,.int .u32 (w.toNat:Int)] bF (fun q=>∃S',q=.ret (.bool true) S'):=by
 obtain⟨S',h⟩:=Wn hv hb hN a w
 obtain⟨c,hc⟩:∃c,Tryz.f5.body=some c:=by
  cases h:Tryz.f5.body with
  |none=>exact absurd NU (by simp[ah,h])
  |some c=>exact⟨c,rfl⟩
 have h1:=yu (X:=tie.withT (TJ v l)) (f:=458) (fn:=Tryz.f5) (Wc hv hb hN) func458w hc Wp h;exact(ca.tb (X:=tie.withT (TJ v l)) (T:=T1) h1).mono fun q hq=>⟨S',hq⟩
def jtieOk1:bY tie1:=ue
def Wr{n:Int}(h:(Ty.int .u32).wf n):∃w:BitVec 32,(w.toNat:Int)=n:=by
 have h:(Lit.int .u32 n).wf=true:=h;simp only[Lit.wf,aI,decide_eq_true_eq]at h;have h:0≤n∧n≤4294967295:=by simpa[IntKind.min,IntKind.max,IntKind.signed,IntKind.bits]using h
 refine⟨BitVec.ofNat 32 n.toNat,?_⟩;rw[BitVec.toNat_ofNat,ge (by omega)];omega
def law_BlockTurned(xs:kq [.sl cZ,.int .i64,.int .u32])(h:pY [.sl cZ,.int .i64,.int .u32] xs)(hb:na [.sl cZ,.int .i64,.int .u32] xs≤1048576) :
  ca tie1 458 (ku [.sl cZ,.int .i64,.int .u32] xs) bF (fun r=>∃S',r=.ret (.bool true) S'):=by
 obtain⟨l,a,n,u⟩:=xs;obtain⟨h1,h2,h3,_⟩:=h;have hb':(Ty.sl cZ).bulk l+(1+(1+0))≤1048576:=hb;obtain⟨q1,q2⟩:=VD h1 (by omega);obtain⟨w,rfl⟩:=Wr h3;exact Wq (VB l) q2 (by omega) a w
end Ps
set_option linter.defProp false
namespace Ps
open Go Go.ChangeShapes Go.WideShapes Go.ChangeAt Go.RowKit
set_option linter.unusedVariables false
set_option linter.unusedSimpArgs false
section
variable {H : Type} {enc : TypeId × Value → H}
def contractW{X:Tie}(hX:bY X){gid:Nat}{fn:Func}(hfn:X.P.funcs[X.fnOf gid]?=some fn){s:ChangeSpec}(hvars:s.vars=[])
  (τs:List Ty) (hchk:iS X.P τs fn.params.toList=true) (hspec:∀(H:Type) (ds:List (DataW H)),ds.length=fn.params.size→s.fn H ds = {results:=[.lit (.bool true)],args:=ds})
  {tb:TypeId} (hres:fn.resultTypes = #[tb]) (htb:X.P.underlying tb=some .bool) (hl:laidOutB X.P=true) {N:Nat} (hlaw:∀xs:kq τs,pY τs xs→na τs xs≤N→ca X gid (ku τs xs) bF (fun r=>∃S',r=.ret (.bool true) S'))
  {W:World} {base:Nat} {args:Array Value} {ds gs:List (DataW H)} {before:List MemPlace} (hN:bulkDs ds≤N)
  (hgl:∀q∈X.gl,q.1<W.heap.size∧W.cell? ⟨q.1,0,none⟩=some q.2)
  (hval:∀(j:Nat) t v,fn.params[j]?=some t→args[j]?=some v→Value.okWide X.P W .any base t v)
  (hW:DataW.Whole enc X.P fn.params.toList s.vars false W args.toList ds gs before) :
  Calls X.P (X.fnOf gid) args W fun e W'=>∃v,e=.returned v∧s.post enc X.P fn false true false false W args v W':=by
 have hW':=hW;have hlt:=hW.lt;obtain⟨p,q,hA,hV,rfl,hfz,hnd⟩:=hW;rw[hvars]at hV;obtain⟨rfl,rfl⟩:=trodVars_none hV;obtain⟨l1,l2⟩:=xe hA;let k:=Ng args.toList
 have hoff:∀v∈args.toList,∀a l c,Value.slice (some a) l c∈v.cells.toList→(∃us t f,W.heap[a.block]?=some (.cells us t f))→a.off≤iA W k a.block:=by
  intro v hv a l c hm ⟨us,t,f,he⟩;have:a.off≤k:=xZ (List.mem_flatMap.2 ⟨v,hv,hm⟩);simp only[iA,he];omega
 obtain⟨xs,x1,x2,x3⟩:=xc (X:=X) (enc:=enc) (Nh W k) τs fn.params.toList args.toList ds p hchk (fun j t v e1 e2=>hval j t v (by simpa using e1) (by simpa using e2)) hoff hA;have hc:=hlaw xs x1 (by rw[x2];exact hN);have hVRL:bD X (bN (iA W k)) W (ku τs xs) args:=⟨by simpa using x3.1,fun j c u e1 e2=>x3.2 j c u e1 (by simpa using e2)⟩;refine(aAq hX hc (p:=iA W k) (fun b hb=>?_) ?_ hVRL).mono fun e W' ⟨he,hk⟩=>?_
 ·have:W.heap[b]?=none:=by simpa using hb
  simp[iA,this]
 ·exact fun q hq=>⟨⟨(hgl q hq).1,fun _=>by simp[bN],rfl,fun _=>by simp[bN]⟩,(hgl q hq).2⟩
 subst he
 have hds:s.fn H (ds++[]) = {results:=[.lit (.bool true)],args:=ds}:=by
  rw[dn];exact hspec H ds (by rw[l2];simp)
 refine⟨_,rfl,Mr (pa:=p) (pv:=[]) hW' (fun _ _ _=>?_) (fun sp hsp=>?_) (fun _ _=>?_) rfl hk (ok_one hres rfl (okWide_bool_mk htb _))⟩
 ·rw[hds,hres];exact trodAll_cons_mk (shut_bool htb _) trodAll_mk0
 ·rw[hds];exact xd hl hk hchk hA (fun x hx=>hlt x (by simp[hx])) (fun x hx=>hsp x (by simp[hx]))
 ·rw[hds,hvars];rfl
end
end Ps
