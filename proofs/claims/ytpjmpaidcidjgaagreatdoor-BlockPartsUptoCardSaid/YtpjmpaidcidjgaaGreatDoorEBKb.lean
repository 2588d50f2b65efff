/- db.Decode: a round. -/
import Derived.Test.YtpjmpaidcidjgaaGreatDoorDefsKb
import Derived.Test.YtpjmpaidcidjgaaGreatDoorBHKb
import Derived.Test.YtpjmpaidcidjgaaGreatDoorCWKb
set_option linter.defProp false
namespace Ps
set_option linter.unusedSimpArgs false
set_option linter.unusedVariables false
open Go Go.Proofs
def gG(b:List UInt8):List UInt8:=[UInt8.ofNat ((pj b).toNat%256),UInt8.ofNat ((pj b).toNat/256%256),UInt8.ofNat ((pj b).toNat/65536%256),UInt8.ofNat ((pj b).toNat/16777216%256)]
def cE(x:List UInt8):List UInt8:=aj x.length++x
def cx(s:cD):List UInt8:=aj (cL s.2).length++(cL s.2).flatMap fun c=>cE (bo c)
def ec:List UInt8:=[71,66,75,49]
def cX(l:List cD):List UInt8:=ec++cE (cU (l.map (·.1)))++l.flatMap cx
def cn(l:List cD):List UInt8:=cX l++gG (cX l)
def ah.more{S0 S S2:St}{sz:Nat}{v:PV}{es:List PV}(h:ah S0 sz S v es)(hg:aL S S2):ah S0 sz S2 v es:=by
 refine⟨h.grows.trans hg,?_⟩;rcases h.acc with h1|⟨id,h1,h2,h3⟩
 ·exact .inl h1
 ·obtain⟨o,t,rfl⟩:=hg;exact .inr ⟨id,h1,h2,by simp only;rw[bK (aM.1 h3).1];exact h3⟩
def ah.setO{S0 S:St}{sz:Nat}{v:PV}{es:List PV}(h:ah S0 sz S v es){i:Nat}(hi:S0.objs.length≤i)(x:List PV):ah S0 sz ⟨S.objs.set i x,S.tips⟩ v es:=⟨da h.grows hi x,h.acc⟩
structure pp(S0 S:St)(ob:Nat)(p:List UInt8):Prop where
 new:S0.objs.length≤ob
 ex:∃bv,S.objs[ob]?=some [bv]∧ah S0 1 S bv (aI p)
def Fu{S S1:St}{i:Nat}{x y:List PV}(hl:S1.objs.length=S.objs.length)(hx:S.objs[i]?=some x)(hy:S1.objs[i]?=some y)(hne:x≠y):aW false S S1 (.tup [])=(.tup [],S1):=by
 unfold aW;have hs:ai S1.objs S.objs.length eU (.tup [])=some (.tup []):=qY rfl;have ht:S1.objs.take S.objs.length=S1.objs:=by rw[←hl];simp
 have hq:PV.beqLL S1.objs S.objs=false:=by
  cases h:PV.beqLL S1.objs S.objs with
  |false=>rfl
  |true=>
   have:=fg h;rw[this,hx]at hy;exact absurd (iz hy) hne
 rw[if_neg (by decide),hs,ht,hq];simp only[cH,if_false];split<;>rfl
def YZ:T1.fn 261=some (.code z23):=rfl
def Ya:T1.fn 262=some (.code sN):=rfl
def Fv(n:Nat):0<(aj n).length:=by rw[aj];split<;>simp
def Fw{S0 S S':St}{v v':PV}{es es':List PV}{sz:Nat}(h:ah S0 sz S v es)(h':ah S0 sz S' v' es')(hl:es.length<es'.length):v≠v':=by
 rintro rfl;rcases h.acc with⟨h1,h2⟩|⟨id,_,h1,_⟩
 ·subst h1;rcases h'.acc with⟨_,e⟩|⟨_,_,e,_⟩
  ·subst e;simp at hl
  ·cases e
 ·subst h1;rcases h'.acc with⟨e,_⟩|⟨_,_,e,_⟩
  ·cases e
  ·injection e with _ e2 _
   rw[e2]at hl;omega
def Fx{S0 S:St}{ob:Nat}{p:List UInt8}(h:pp S0 S ob p)(hp:p.length≤60000000){n:Nat}(hn:n<4611686018427387904) :
  ∃S',aN T1 261 [.int .i64 (n:Int),.ptr ob 0] S=some (.tup [],S')∧pp S0 S' ob (p++aj n)∧S'.objs.length=S.objs.length∧∀i,i≠ob→S'.objs[i]?=S.objs[i]?:=by
 obtain⟨hno,bv,ho,ha⟩:=h;have hlo:=(aM.1 ho).1;have hu:=gP (n:=n) (by omega);obtain⟨v1,S1,c1,c2,c3⟩:=oA (s:=[]) (v:=.nils) (.inl ⟨rfl,rfl⟩) (n:=n) (by omega) (by simp) (S0:=S) (S:=S) (aL.refl S);have c1:=lW c1;have ha1:=ha.more c2.grows;obtain⟨v2,S2,d1,d2,d3⟩:=ha1.app (bytes:=1) (aI (aj n)) (by rw[bh,bh];omega);have hap:=(c2.isSl (md _)).appdS (S:=S1);simp only[mT]at hap;have ho1:S1.objs[ob]?=some [bv]:=by rw[c3];exact ho
 have ho2:S2.objs[ob]?=some [bv]:=by rw[d3];exact ho1
 have hlo2:ob<S2.objs.length:=(aM.1 ho2).1
 obtain⟨o1,o2⟩:v2.one=true∧v2.cells=[v2]:=by
  rcases d2.acc with⟨rfl,_⟩|⟨_,_,rfl,_⟩<;>exact⟨rfl,rfl⟩
 have hne:[bv]≠[v2]:=fun e=>by
  have e:=List.cons.inj e;exact Fw ha d2 (by simp only[am,bh];have:=Fv n;omega) e.1
 refine⟨⟨S2.objs.set ob [v2],S2.tips⟩,?_,⟨hno,v2,by simp only;rw[cK hlo2],?_⟩,by simp[d3,c3],fun i hi=>by simp only;rw[bU (Ne.symm hi),d3,c3]⟩
 ·refine bZ YZ rfl ?_;simp -implicitDefEqProofs [z23,c1,bI ho1,bD,hap,d1,aG,ho2,o1,o2,ak];rw[wb];exact Fu (i:=ob) (by simp[d3,c3]) ho (by simp only;rw[cK hlo2]) hne
 ·rw[ph];exact d2.setO hno _
def Fy{S0 S:St}{ob o8:Nat}{p x:List UInt8}(h:pp S0 S ob p)(hp:p.length+x.length≤60000000)(h8:S.objs[o8]?=some [.fn 261 [.ptr ob 0]])(hne8:o8≠ob){xv:PV}(hx:ba 1 xv (aI x)) :
  ∃S',aN T1 262 [xv,.ptr o8 0,.ptr ob 0] S=some (.tup [],S')∧pp S0 S' ob (p++cE x)∧S'.objs.length=S.objs.length∧∀i,i≠ob→S'.objs[i]?=S.objs[i]?:=by
 have hlen:=hx.len;rw[bh]at hlen;obtain⟨S1,c1,c2,c3,c4⟩:=Fx h (by omega) (n:=x.length) (by omega);obtain⟨hno,bv0,ho0,ha0⟩:=h;obtain⟨_,bv,ho,ha⟩:=c2;have hlo:=(aM.1 ho).1;have hu:=gP (n:=x.length) (by omega);obtain⟨v2,S2,d1,d2,d3⟩:=ha.app (bytes:=1) (aI x) (by rw[bh,bh,am];omega);have hap:=hx.appdS (S:=S1);have ho2:S2.objs[ob]?=some [bv]:=by rw[d3];exact ho
 have hlo2:ob<S2.objs.length:=(aM.1 ho2).1
 obtain⟨o1,o2⟩:v2.one=true∧v2.cells=[v2]:=by
  rcases d2.acc with⟨rfl,_⟩|⟨_,_,rfl,_⟩<;>exact⟨rfl,rfl⟩
 have hne:[bv0]≠[v2]:=fun e=>by
  have e:=List.cons.inj e;exact Fw ha0 d2 (by simp only[am,bh];have:=Fv x.length;omega) e.1
 refine⟨⟨S2.objs.set ob [v2],S2.tips⟩,?_,⟨hno,v2,by simp only;rw[cK hlo2],?_⟩,by simp[d3,c3],fun i hi=>by simp only;rw[bU (Ne.symm hi),d3];exact c4 i hi⟩
 ·refine bZ Ya rfl ?_;simp -implicitDefEqProofs [sN,hlen,bI h8,bD,c1,bI ho,hap,d1,aG,ho2,o1,o2,ak];rw[wb];exact Fu (i:=ob) (by simp[d3,c3]) ho0 (by simp only;rw[cK hlo2]) hne
 ·rw[cE,←fi,ph];exact d2.setO hno _
def Yb:T1.fn 161=some (.code sO):=rfl
def ye{a k:Nat}(hk:k≤32){l:IntKind}:arith .shr (.int .u32 (a:Int)) (.int l (k:Int))=some (.int .u32 ((a/2^k:Nat):Int)):=by
 have h1:¬((k:Int)<0):=by omega
 have h2:min (k:Int).toNat IntKind.u32.bits=k:=by simp[IntKind.bits];omega
 simp only[arith,ef,ld,if_true,if_neg h1,h2];rw[pS _ (by exact_mod_cast cP (2^k))]
 norm_cast
def Yc(b:List UInt8):∃n:Nat,pj b=(n:Int)∧n<4294967296:=by
 refine⟨(BitVec.ofInt 32 4294967295 ^^^ BitVec.ofInt 32 (ui b)).toNat,?_,(BitVec.ofInt 32 4294967295 ^^^ BitVec.ofInt 32 (ui b)).isLt⟩;have hlt:=(BitVec.ofInt 32 4294967295 ^^^ BitVec.ofInt 32 (ui b)).isLt
 have:∀n:Nat,n<2^32→IntKind.u32.wrap (n:Int)=(n:Int):=fun n hn=>by
  have e:IntKind.u32.wrap (n:Int)=(n:Int)%4294967296:=by simp[IntKind.wrap,IntKind.bits,IntKind.signed]
  rw[e];omega
 exact this _ hlt
def Fz{b:List UInt8}{v:PV}(hv:cM 1 v (aI b))(hb:b.length≤67108864)(S:St):aN T1 161 [v] S=some (.sl none (aI (gG b)) [],S):=by
 have hs:=fun S=>lW (Wi hv hb S);obtain⟨n,hn,hlt⟩:=Yc b;have h0:IntKind.u8.wrap (n:Int)=((n%256:Nat):Int):=mc n;have h1:=ye (a:=n) (k:=8) (l:=.u64) (by decide);have h2:=ye (a:=n) (k:=16) (l:=.u64) (by decide);have h3:=ye (a:=n) (k:=24) (l:=.u64) (by decide);have w1:IntKind.u8.wrap ((n/2^8:Nat):Int)=((n/256%256:Nat):Int):=mc _;have w2:IntKind.u8.wrap ((n/2^16:Nat):Int)=((n/65536%256:Nat):Int):=mc _;have w3:IntKind.u8.wrap ((n/2^24:Nat):Int)=((n/16777216%256:Nat):Int):=mc _
 have e4:aI (gG b)=[.int .u8 ((n%256:Nat):Int),.int .u8 ((n/256%256:Nat):Int),.int .u8 ((n/65536%256:Nat):Int),.int .u8 ((n/16777216%256:Nat):Int)]:=by
  simp only[gG,hn,rL,aI,cb,pU];have:∀m:Nat,(UInt8.ofNat (m%256)).toNat=m%256:=fun m=>by simp
  rw[this,this,this,this]
 rw[hn]at hs;generalize ((n/2^8:Nat):Int)=x1 at h1 w1;generalize ((n/2^16:Nat):Int)=x2 at h2 w2;generalize ((n/2^24:Nat):Int)=x3 at h3 w3;rw[e4];generalize ((n%256:Nat):Int)=y0 at *;generalize ((n/256%256:Nat):Int)=y1 at *;generalize ((n/65536%256:Nat):Int)=y2 at *;generalize ((n/16777216%256:Nat):Int)=y3 at *;have h1:arith .shr (.int .u32 (n:Int)) (.int .u64 8)=some (.int .u32 x1):=h1;have h2:arith .shr (.int .u32 (n:Int)) (.int .u64 16)=some (.int .u32 x2):=h2;have h3:arith .shr (.int .u32 (n:Int)) (.int .u64 24)=some (.int .u32 x3):=h3;refine bZ Yb rfl ?_;simp -implicitDefEqProofs [sO,hs,h0,h1,h2,h3,w1,w2,w3,aG,cY,dU,dy];rw[cZ ⟨[],[(4,1)],by simp⟩ rfl];rfl
end Ps
set_option linter.defProp false
namespace Ps
set_option linter.unusedSimpArgs false
set_option linter.unusedVariables false
open Go Go.Proofs
structure gv(S S':St)(bv:PV)(b:List UInt8)(a:Nat)(l:List Sm):Prop where
 grows:aL S S'
 hl:∃lv,S'.objs[S.objs.length]?=some [lv]∧ah S 2 S' lv (l.map bC)
 he:S'.objs[S.objs.length+1]?=some [.int .i64 0]
 hr:S'.objs[S.objs.length+2]?=some (kp bv b a)
structure oU(S S':St):Prop where
 grows:aL S S'
 hl:∃lv,S'.objs[S.objs.length]?=some [lv]
 he:S'.objs[S.objs.length+1]?=some [.int .i64 0]
structure nC(n0:Nat)(v:PV)(fr:Fr):Prop where
 f0:fr 0=v
 f2:fr 2=.ptr n0 0
 f3:fr 3=.ptr (n0+1) 0
 f4:fr 4=.ptr (n0+2) 0
 f5:fr 5=.bfn 336 [.ptr (n0+2) 0]
 f6:fr 6=.bfn 337 [.ptr (n0+2) 0]
def gv.decP{S S':St}{bv:PV}{b:List UInt8}{a:Nat}{l:List Sm}(h:gv S S' bv b a l):oU S S':=⟨h.grows,h.hl.imp fun _ k=>k.1,h.he⟩
def gv.rd{S S':St}{bv:PV}{b:List UInt8}{a:Nat}{l:List Sm}(h:gv S S' bv b a l)(a':Nat):gv S (eI S' (S.objs.length+2) bv b a') bv b a' l:=by
 obtain⟨lv,h1,h2⟩:=h.hl;have hr:=(aM.1 h.hr).1;refine⟨da h.grows (by omega) _,⟨lv,?_,h2.setO (by omega) _⟩,?_,ZZ hr⟩
 ·simp only[eI];rw[bU (by omega)];exact h1
 ·simp only[eI];rw[bU (by omega)];exact h.he
def gv.setO{S S':St}{bv:PV}{b:List UInt8}{a:Nat}{l:List Sm}(h:gv S S' bv b a l){os:Nat}(ho:S.objs.length+3≤os)(x:List PV):gv S ⟨S'.objs.set os x,S'.tips⟩ bv b a l:=by
 obtain⟨lv,h1,h2⟩:=h.hl;refine⟨da h.grows (by omega) _,⟨lv,?_,h2.setO (by omega) _⟩,?_,?_⟩
 ·simp only;rw[bU (by omega)];exact h1
 ·simp only;rw[bU (by omega)];exact h.he
 ·simp only;rw[bU (by omega)];exact h.hr
def wH{S:St}{r i a:Nat}{bv:PV}{b:List UInt8}(h:i≠r):(eI S r bv b a).objs[i]?=S.objs[i]?:=bU (Ne.symm h)
def gx(b:List UInt8)(i a:Nat)(far:Int)(l:List Sm):Option (Int×Int×Nat):=
 if i=0 then(match gI b a with|some (t,a')=>some ((t:Int),far,a')|none=>none)else
 if i=1 then(match gI b a with|some (t,a')=>some (aK l 0+t,(t:Int),a')|none=>none)else
 match fO b a 1099511627776 with|some (d,a')=>some (aK l (i-1)+(far+d),far+d,a')|none=>none
def RE:aS:=(.seq (.clr [(52,53)] (.region sV)) (.cond (V 51) (.clr [(53,56)] (.region yz)) (.seq (.clr [(57,58)] (.region sW)) (.cond (V 56) (.seq (.clr [(58,60)] (.region zA)) (.clr [(60,67)] (.region vm))) (.seq (.clr [(38,42)] (.region zB)) (.clr [(42,51)] (.region vn)))))))
def wI{b:List UInt8}{a u nx:Nat}(h:gI b a=some (u,nx)):u≤1099511627776∧nx≤8*b.length:=by
 unfold gI at h;split at h
 ·rename_i u' nx' hn;split at h
  ·cases h
  ·cases h;exact⟨by omega,(sE hn).2.1⟩
 ·cases h
def wJ{b:List UInt8}{a nx:Nat}{u most:Int}(h:fO b a most=some (u,nx)):-most≤u∧u≤most∧nx≤8*b.length:=by
 unfold fO at h;split at h
 ·rename_i u' nx' hn;split at h
  ·cases h
  ·cases h;exact⟨by omega,by omega,(sE hn).2.1⟩
 ·cases h
def Zd{S S':St}{v bv:PV}{b:List UInt8}{a i os:Nat}{l:List Sm}{far:Int}{fr:Fr}{Post:Wx→Fr→St→Prop}(hv:ay 1 bv (aI b))(hb:8*b.length≤1099511627776)(ha:a≤8*b.length)
  (hD:gv S S' bv b a l)(hos:S'.objs[os]?=some [.int .i64 0,.int .i64 0])(hol:S.objs.length+3≤os)(hF:nC S.objs.length v fr)(hl:l.length=i)(hi:i<120)(hfar:0≤far∧far≤1099511627776)(hT:∀j,0≤aK l j∧aK l j≤1099511627776)
  (h8:fr 8=.int .i64 far)(h9:fr 9=.int .i64 (i:Int))(h10:fr 10=.ptr os 0)(h37:fr 37=.int .i64 (i:Int))
  (hN:∀T far' a' fr' S'',gx b i a far l=some (T,far',a')→gv S S'' bv b a' l→S''.objs[os]?=some [.int .i64 T,.int .i64 0]→nC S.objs.length v fr'→fr' 8=.int .i64 far'→(∀t,t=7∨t=9∨t=10∨t=33∨t=34→fr' t=fr t)→Post .norm fr' S'')
  (hP:∀fr' S'',gx b i a far l=none→oU S S''→fr' 2=.ptr S.objs.length 0→fr' 3=.ptr (S.objs.length+1) 0→Post (.pan fm) fr' S''):W tie RE fr S' Post:=by
 obtain⟨f0,f2,f3,f4,f5,f6⟩:=hF;have hro:os≠S.objs.length+2:=by omega
 have hlo:=(aM.1 hos).1;unfold RE;refine bO tieOk rfl ?_;by_cases hi0:i=0
 ·have hc:(((i:Nat):Int)==0)=true:=by rw[beq_iff_eq];omega
  simp -implicitDefEqProofs [sV,h37,hc];refine gC (b:=true) (by simp) ?_;refine dC (dB tieOk ?_);unfold yz;refine cw rfl ?_;simp -implicitDefEqProofs [f5];refine ez (by simp[dG]) (Gl hv hD.hr hb ha) ?_ ?_
  ·intro u S1 hr;refine⟨fun q hq=>(by cases hq),?_⟩
   cases ht:gI b a with
   |none=>rw[ht]at hr;obtain⟨_,e⟩:=hr;cases e
   |some p=>
    obtain⟨t,a'⟩:=p;rw[ht]at hr;cases hr;have hos1:(eI S' (S.objs.length+2) bv b a').objs[os]?=some [.int .i64 0,.int .i64 0]:=by rw[wH hro];exact hos
    refine eL rfl ?_;simp -implicitDefEqProofs [h10,aG,hos1,ak];refine hN (t:Int) far a' _ _ (by rw[gx,if_pos hi0,ht]) ((hD.rd a').setO hol _) (by simp only;rw[cK (by simp[eI,hlo])]) ⟨by simp[f0],by simp[f2],by simp[f3],by simp[f4],by simp[f5],by simp[f6]⟩ (by simp[h8]) (fun q hq=>by rcases hq with rfl|rfl|rfl|rfl|rfl<;>simp)
  ·intro u S1 hr
   cases ht:gI b a with
   |some p=>rw[ht]at hr;cases hr
   |none=>
    rw[ht]at hr;obtain⟨a',e⟩:=hr;cases e;exact hP _ _ (by rw[gx,if_pos hi0,ht]) (hD.rd a').decP (by simp[cj,f2]) (by simp[cj,f3])
 have hc0:(((i:Nat):Int)==0)=false:=by rw[beq_eq_false_iff_ne];omega
 simp -implicitDefEqProofs [sV,h37,hc0];refine gC (b:=false) (by simp) ?_;refine bO tieOk rfl ?_
 have hget:∀(S1:St) (lv:PV) (j:Nat),ah S 2 S1 lv (l.map bC)→j<l.length→ca 2 lv (.int .i64 (j:Int))=some (.ref [.int .i64 (aK l j),.int .i64 (bE l j)]):=fun S1 lv j ha hj=>by
  have:=(ha.isSl (oD l)).reads.get j (by simpa using hj) .i64;rw[this];simp[aK,bE,List.getD_eq_getElem?_getD,hj]
 by_cases hi1:i=1
 ·have hc:(((i:Nat):Int)==1)=true:=by rw[beq_iff_eq];omega
  simp -implicitDefEqProofs [sW,h37,hc];refine gC (b:=true) (by simp) ?_;refine bw (dC (dB tieOk ?_));unfold zA;refine cw rfl ?_;simp -implicitDefEqProofs [f5];refine ez (by simp[dG]) (Gl hv hD.hr hb ha) ?_ ?_
  ·intro u S1 hr;refine⟨fun q hq=>(by cases hq),?_⟩
   cases ht:gI b a with
   |none=>rw[ht]at hr;obtain⟨_,e⟩:=hr;cases e
   |some p=>
    obtain⟨t,a'⟩:=p;rw[ht]at hr;cases hr;obtain⟨ht1,_⟩:=wI ht;have hos1:(eI S' (S.objs.length+2) bv b a').objs[os]?=some [.int .i64 0,.int .i64 0]:=by rw[wH hro];exact hos
    have hD1:=hD.rd a';obtain⟨lv,hl1,hl2⟩:=hD1.hl;have hg:ca 2 lv (.int .i64 0)=some (.ref [.int .i64 (aK l 0),.int .i64 (bE l 0)]):=hget _ lv 0 hl2 (by omega);have hw:IntKind.i64.wrap (aK l 0+(t:Int))=aK l 0+(t:Int):=by have:=hT 0;rw[au]<;>omega
    refine eL rfl ?_;simp -implicitDefEqProofs;refine kZ tieOk rfl ?_;simp -implicitDefEqProofs [dm,vm,f2,h10,bI hl1,bD,hg,hw,aG,hos1,ak];refine hN (aK l 0+t) (t:Int) a' _ _ (by rw[gx,if_neg hi0,if_pos hi1,ht]) (hD1.setO hol _) (by simp only;rw[cK (by simp[eI,hlo])]) ⟨by simp[f0],by simp[f2],by simp[f3],by simp[f4],by simp[f5],by simp[f6]⟩ (by simp) (fun q hq=>by rcases hq with rfl|rfl|rfl|rfl|rfl<;>simp)
  ·intro u S1 hr
   cases ht:gI b a with
   |some p=>rw[ht]at hr;cases hr
   |none=>
    rw[ht]at hr;obtain⟨a',e⟩:=hr;cases e;exact hP _ _ (by rw[gx,if_neg hi0,if_pos hi1,ht]) (hD.rd a').decP (by simp[cj,f2]) (by simp[cj,f3])
 ·have hc:(((i:Nat):Int)==1)=false:=by rw[beq_eq_false_iff_ne];omega
  simp -implicitDefEqProofs [sW,h37,hc];refine gC (b:=false) (by simp) ?_;refine bw (dC (dB tieOk ?_));unfold zB;refine cw rfl ?_;simp -implicitDefEqProofs [f6,h8];refine ez (by simp[dG]) (Gm (most:=1099511627776) (by decide) (by decide) hv hD.hr hb ha) ?_ ?_
  ·intro u S1 hr;refine⟨fun q hq=>(by cases hq),?_⟩
   cases ht:fO b a 1099511627776 with
   |none=>rw[ht]at hr;obtain⟨_,e⟩:=hr;cases e
   |some p=>
    obtain⟨d,a'⟩:=p;rw[ht]at hr;cases hr;obtain⟨hd1,hd2,_⟩:=wJ ht;have hos1:(eI S' (S.objs.length+2) bv b a').objs[os]?=some [.int .i64 0,.int .i64 0]:=by rw[wH hro];exact hos
    have hD1:=hD.rd a';obtain⟨lv,hl1,hl2⟩:=hD1.hl;have hg:=hget _ lv (i-1) hl2 (by omega);have hw0:IntKind.i64.wrap (far+d)=far+d:=by rw[au]<;>omega
    have hw1:IntKind.i64.wrap ((i:Int)-1)=((i-1:Nat):Int):=by rw[au]<;>omega
    have hw:IntKind.i64.wrap (aK l (i-1)+(far+d))=aK l (i-1)+(far+d):=by have:=hT (i-1);rw[au]<;>omega
    refine eL rfl ?_;simp -implicitDefEqProofs [hw0];refine kZ tieOk rfl ?_;simp -implicitDefEqProofs [dm,vn,f2,h9,h10,bI hl1,bD,hw1,hg,hw,aG,hos1,ak];refine hN (aK l (i-1)+(far+d)) (far+d) a' _ _ (by rw[gx,if_neg hi0,if_neg hi1,ht]) (hD1.setO hol _) (by simp only;rw[cK (by simp[eI,hlo])]) ⟨by simp[f0],by simp[f2],by simp[f3],by simp[f4],by simp[f5],by simp[f6]⟩ (by simp) (fun q hq=>by rcases hq with rfl|rfl|rfl|rfl|rfl<;>simp)
  ·intro u S1 hr
   cases ht:fO b a 1099511627776 with
   |some p=>rw[ht]at hr;cases hr
   |none=>
    rw[ht]at hr;obtain⟨a',e⟩:=hr;cases e;exact hP _ _ (by rw[gx,if_neg hi0,if_neg hi1,ht]) (hD.rd a').decP (by simp[cj,f2]) (by simp[cj,f3])
end Ps
set_option linter.defProp false
namespace Ps
set_option linter.unusedSimpArgs false
set_option linter.unusedVariables false
open Go Go.Proofs
structure qI(S S':St):Prop where
 grows:aL S S'
 hl:S'.objs[S.objs.length]?=some [.nils]
 he:S'.objs[S.objs.length+1]?=some [.int .i64 5]
def jI(b:List UInt8)(i a:Nat)(far:Int)(l:List Sm):Option (Int×Int×Int×Nat):=match gx b i a far l with
 |some (T,far',a1)=>(match fO b a1 2305843009213693952 with
  |some (v,a2)=>some (T,if 0<i then v+bE l (i-1)else v,far',a2)
  |none=>none)
 |none=>none
def oV(i:Nat)(T V far':Int):Prop:=eS T V=false∨(0<i∧far'<1)
def Ze{b:List UInt8}{i a a':Nat}{far T far':Int}{l:List Sm}(h:gx b i a far l=some (T,far',a')):a'≤8*b.length:=by
 unfold gx at h;split at h
 ·split at h
  ·rename_i ht;cases h;exact(wI ht).2
  ·cases h
 ·split at h
  ·split at h
   ·rename_i ht;cases h;exact(wI ht).2
   ·cases h
  ·split at h
   ·rename_i ht;cases h;exact(wJ ht).2.2
   ·cases h
def Zf{S S':St}{v bv:PV}{b:List UInt8}{a i m:Nat}{l:List Sm}{far:Int}{fr:Fr}{Post:Wx→Fr→St→Prop}(hv:ay 1 bv (aI b))(hb:8*b.length≤1099511627776)(ha:a≤8*b.length)
  (hD:gv S S' bv b a l)(hF:nC S.objs.length v fr)(hl:l.length=i)(hi:i<m)(hm:m≤120)(hfar:0≤far∧far≤1099511627776)(hT:∀j,0≤aK l j∧aK l j≤1099511627776)(hV:∀j,-1152921504606846976≤bE l j∧bE l j≤1152921504606846976)
  (h8:fr 8=.int .i64 far)(h33:fr 33=.int .i64 (m:Int))(h34:fr 34=.int .i64 (i:Int))
  (hN:∀T V far' a' fr' S'',jI b i a far l=some (T,V,far',a')→¬oV i T V far'→gv S S'' bv b a' (l++[(T,V)])→nC S.objs.length v fr'→fr' 8=.int .i64 far'→fr' 7=fr 7→fr' 33=fr 33→fr' 34=.int .i64 ((i+1:Nat):Int)→Post .norm fr' S'')
  (hE:∀T V far' a' fr' S'',jI b i a far l=some (T,V,far',a')→oV i T V far'→qI S S''→fr' 2=.ptr S.objs.length 0→fr' 3=.ptr (S.objs.length+1) 0→Post .ret fr' S'')
  (hP:∀fr' S'',jI b i a far l=none→oU S S''→fr' 2=.ptr S.objs.length 0→fr' 3=.ptr (S.objs.length+1) 0→Post (.pan fm) fr' S''):W tie sB fr S' Post:=by
 obtain⟨f0,f2,f3,f4,f5,f6⟩:=id hF;have hlt:(i:Int)<(m:Int):=by omega
 unfold sB;refine bO tieOk rfl ?_;simp -implicitDefEqProofs [vl,h33,h34,hlt];refine bw (gC (b:=true) (by simp[hlt,hi]) (mO ?_));refine bw (pM ?_);refine bO tieOk rfl ?_;simp -implicitDefEqProofs [BC,h34];refine bO tieOk rfl ?_;simp -implicitDefEqProofs [BD,aG,bt];refine bw (bO tieOk rfl ?_);simp -implicitDefEqProofs [BE];have hol:S.objs.length+3≤S'.objs.length:=by have:=(aM.1 hD.hr).1;omega
 obtain⟨S1,hS1⟩:∃S1:St,S1=⟨S'.objs++[[.int .i64 0,.int .i64 0]],S'.tips⟩:=⟨_,rfl⟩;have hup:∀{j:Nat} {x:List PV},S'.objs[j]?=some x→S1.objs[j]?=some x:=fun h=>by rw[hS1];simp only;rw[bK (aM.1 h).1];exact h
 have hD1:gv S S1 bv b a l:=by
  obtain⟨lv,q1,q2⟩:=hD.hl;exact⟨by rw[hS1];exact hD.grows.objs _,⟨lv,hup q1,by rw[hS1];exact q2.objs _⟩,hup hD.he,hup hD.hr⟩
 have hos:S1.objs[S'.objs.length]?=some [.int .i64 0,.int .i64 0]:=by rw[hS1];simp
 rw[←hS1];refine pM (Zd (v:=v) (os:=S'.objs.length) hv hb ha hD1 hos hol ⟨by simp[f0],by simp[f2],by simp[f3],by simp[f4],by simp[f5],by simp[f6]⟩ hl (by omega) hfar hT (by simp[h8]) (by simp) (by simp) (by simp) ?_ ?_)
 rotate_left
 ·intro fr' S'' hn hp e2 e3;exact hP _ _ (by rw[jI,hn]) hp e2 e3
 intro Tv far' a1 fr1 S2 hdt hD2 hos2 hF1 g8 gk;have ha1:=Ze hdt;obtain⟨d0,d2,d3,d4,d5,d6⟩:=id hF1;have g9:fr1 9=.int .i64 (i:Int):=by rw[gk 9 (by simp)];simp
 have g10:fr1 10=.ptr S'.objs.length 0:=by rw[gk 10 (by simp)];simp
 have g34:fr1 34=.int .i64 (i:Int):=by rw[gk 34 (by simp)];simp[h34]
 have g33:fr1 33=fr 33:=by rw[gk 33 (by simp)];simp
 have g7:fr1 7=fr 7:=by rw[gk 7 (by simp)];simp
 simp only;refine bw (dC (dB tieOk ?_));unfold GV;refine cw rfl ?_;simp -implicitDefEqProofs [d6];refine ez (by simp[dG]) (Gm (most:=2305843009213693952) (by decide) (by decide) hv hD2.hr hb ha1) ?_ ?_
 rotate_left
 ·intro u S3 hr
  cases hs:fO b a1 2305843009213693952 with
  |some p=>rw[hs]at hr;cases hr
  |none=>
   rw[hs]at hr;obtain⟨a',e⟩:=hr;cases e;exact hP _ _ (by rw[jI,hdt];simp only;rw[hs]) (hD2.rd a').decP (by simp[cj,d2]) (by simp[cj,d3])
 intro u S3 hr;refine⟨fun q hq=>(by cases hq),?_⟩
 cases hs:fO b a1 2305843009213693952 with
 |none=>rw[hs]at hr;obtain⟨_,e⟩:=hr;cases e
 |some p=>
 obtain⟨vd,a2⟩:=p;rw[hs]at hr;cases hr;obtain⟨hs1,hs2,hs3⟩:=wJ hs;have hrd:jI b i a far l=some (Tv,if 0<i then vd+bE l (i-1)else vd,far',a2):=by rw[jI,hdt];simp only;rw[hs]
 have hD3:=hD2.rd a2;have hro:S'.objs.length≠S.objs.length+2:=by omega
 have hlo2:=(aM.1 hos2).1;have hos3:(eI S2 (S.objs.length+2) bv b a2).objs[S'.objs.length]?=some [.int .i64 Tv,.int .i64 0]:=by rw[wH hro];exact hos2
 obtain⟨S4,hS4⟩:∃S4,S4=eI S2 (S.objs.length+2) bv b a2:=⟨_,rfl⟩;rw[←hS4]at hos3 hD3 ⊢;refine eL rfl ?_;simp -implicitDefEqProofs [g10,aG,hos3,ak];have hlo4:=(aM.1 hos3).1
 have hval:∀(fr5:Fr),nC S.objs.length v fr5→fr5 8=.int .i64 far'→fr5 9=.int .i64 (i:Int)→fr5 10=.ptr S'.objs.length 0→fr5 7=fr 7→fr5 33=fr 33→fr5 34=.int .i64 (i:Int)→∀(Pst:Wx→Fr→St→Prop) (rest:aS),
   (∀fr6:Fr,nC S.objs.length v fr6→fr6 8=.int .i64 far'→fr6 9=.int .i64 (i:Int)→fr6 10=.ptr S'.objs.length 0→fr6 7=fr 7→fr6 33=fr 33→fr6 34=.int .i64 (i:Int)→W tie rest fr6 ⟨S4.objs.set S'.objs.length [.int .i64 Tv,.int .i64 (if 0<i then vd+bE l (i-1)else vd)],S4.tips⟩ Pst) →
   W tie (.seq (.seq (.clr [(70,71)] (.region sX)) (.cond (Ps.V 71) (.clr [(72,82)] (.region vp)) .skip)) rest) fr5 ⟨S4.objs.set S'.objs.length [.int .i64 Tv,.int .i64 vd],S4.tips⟩ Pst:=by
  intro fr5 hF5 k8 k9 k10 k7 k33 k34 Pst rest hrest;obtain⟨c0,c2,c3,c4,c5,c6⟩:=hF5;have hos5:(S4.objs.set S'.objs.length [.int .i64 Tv,.int .i64 vd])[S'.objs.length]?=some [.int .i64 Tv,.int .i64 vd]:=cK hlo4;by_cases hi0:0<i
  ·have hci:(0:Int)<(i:Int):=by omega
   obtain⟨lv,q1,q2⟩:=hD3.hl;have hlv5:(S4.objs.set S'.objs.length [.int .i64 Tv,.int .i64 vd])[S.objs.length]?=some [lv]:=by rw[bU (by omega)];exact q1
   have hg:ca 2 lv (.int .i64 ((i-1:Nat):Int))=some (.ref [.int .i64 (aK l (i-1)),.int .i64 (bE l (i-1))]):=by
    have hj:i-1<l.length:=by omega
    have:=(q2.isSl (oD l)).reads.get (i-1) (by simpa using hj) .i64;rw[this];simp[aK,bE,List.getD_eq_getElem?_getD,hj]
   have hw1:IntKind.i64.wrap ((i:Int)-1)=((i-1:Nat):Int):=by rw[au]<;>omega
   have hw:IntKind.i64.wrap (vd+bE l (i-1))=vd+bE l (i-1):=by have:=hV (i-1);rw[au]<;>omega
   rw[if_pos hi0]at hrest;have hss:(S4.objs.set S'.objs.length [.int .i64 Tv,.int .i64 vd]).set S'.objs.length [.int .i64 Tv,.int .i64 (vd+bE l (i-1))]=S4.objs.set S'.objs.length [.int .i64 Tv,.int .i64 (vd+bE l (i-1))]:=uS ..;refine fT tieOk rfl ?_;simp -implicitDefEqProofs [sX,k9,hci,hi0];refine kZ tieOk rfl ?_;simp -implicitDefEqProofs [dm,vp,c2,k9,k10,bI (S:=⟨S4.objs.set S'.objs.length [.int .i64 Tv,.int .i64 vd],S4.tips⟩) hos5,bI (S:=⟨S4.objs.set S'.objs.length [.int .i64 Tv,.int .i64 vd],S4.tips⟩) hlv5,bD,hw1,hg,hw,aG,hos5,ak,hss];exact hrest _ ⟨by simp[c0],by simp[c2],by simp[c3],by simp[c4],by simp[c5],by simp[c6]⟩ (by simp[k8]) (by simp[k9]) (by simp[k10]) (by simp[k7]) (by simp[k33]) (by simp[k34])
  ·have hci:¬(0:Int)<(i:Int):=by omega
   rw[if_neg hi0]at hrest;refine fT tieOk rfl ?_;simp -implicitDefEqProofs [sX,k9,hci,hi0];exact hrest _ ⟨by simp[c0],by simp[c2],by simp[c3],by simp[c4],by simp[c5],by simp[c6]⟩ (by simp[k8]) (by simp[k9]) (by simp[k10]) (by simp[k7]) (by simp[k33]) (by simp[k34])
 refine hval _ ⟨by simp[d0],by simp[d2],by simp[d3],by simp[d4],by simp[d5],by simp[d6]⟩ (by simp[g8]) (by simp[g9]) (by simp[g10]) (by simp[g7]) (by simp[g33]) (by simp[g34]) _ _ (fun fr6 hF6 e8 e9 e10 e7 e33 e34=>?_);clear hval;obtain⟨c0,c2,c3,c4,c5,c6⟩:=id hF6;generalize (if 0<i then vd+bE l (i-1)else vd)=Vv at hrd ⊢;have hD5:=hD3.setO (os:=S'.objs.length) hol [.int .i64 Tv,.int .i64 Vv];have hos5:(S4.objs.set S'.objs.length [.int .i64 Tv,.int .i64 Vv])[S'.objs.length]?=some [.int .i64 Tv,.int .i64 Vv]:=cK hlo4;obtain⟨S5,hS5⟩:∃S5:St,S5=⟨S4.objs.set S'.objs.length [.int .i64 Tv,.int .i64 Vv],S4.tips⟩:=⟨_,rfl⟩;rw[←hS5]at hD5 ⊢;have hos5:S5.objs[S'.objs.length]?=some [.int .i64 Tv,.int .i64 Vv]:=by rw[hS5];exact hos5
 clear hS5 hS4 hos3 hD3;have hmay:∀S,aN T 260 [.agg [.int .i64 Tv,.int .i64 Vv]] S=some (.bool (eS Tv Vv),S):=fun S=>Ez Tv Vv S;obtain⟨lv,q1,q2⟩:=id hD5.hl;have hn0:S.objs.length<S5.objs.length:=(aM.1 q1).1;have hn1:S.objs.length+1<S5.objs.length:=(aM.1 hD5.he).1;refine fT tieOk rfl ?_;simp -implicitDefEqProofs [dm,BF,e8,e9,e10,bI hos5,fN,hmay];refine⟨fun hbad=>?_,fun h1 h2=>?_⟩
 ·have he1:(S5.objs.set S.objs.length [.nils])[S.objs.length+1]?=some [.int .i64 0]:=by rw[bU (by omega)];exact hD5.he
  refine pO tieOk rfl ?_;simp -implicitDefEqProofs [dm,BG,c2,c3,aG,q1,he1,ak];refine hE Tv Vv far' a2 _ _ hrd hbad ⟨da (S:=⟨S5.objs.set S.objs.length [.nils],S5.tips⟩) (da hD5.grows (aU _) _) (by omega) _,?_,?_⟩ (by simp[c2]) (by simp[c3])
  ·simp only;rw[bU (by omega),cK hn0]
  ·simp only;rw[cK (by simp;omega)]
 ·have hb:¬oV i Tv Vv far':=by
   rintro(h|⟨h3,h4⟩)
   ·rw[h1]at h;cases h
   ·have:=h2 h3;omega
  have ha5:=q2.arrs [(1,2)];obtain⟨v',S6,p1,p2,p3⟩:=q2.push (bytes:=16) (.agg [.int .i64 Tv,.int .i64 Vv]) (by simp;omega);have hq6:S6.objs[S.objs.length]?=some [lv]:=by rw[p3];exact q1
  obtain⟨o1,o2⟩:v'.one=true∧v'.cells=[v']:=by
   rcases p2.acc with⟨rfl,_⟩|⟨_,_,rfl,_⟩<;>exact⟨rfl,rfl⟩
  have hw:IntKind.i64.wrap ((i:Int)+1)=((i+1:Nat):Int):=by rw[au]<;>omega
  refine kZ tieOk rfl ?_;simp -implicitDefEqProofs [dm,BH,c2,e10,bI q1,bI hos5,bD,fN,aG,cY,dU,p1,hq6,o1,o2,ak];refine kZ tieOk rfl ?_;simp -implicitDefEqProofs [dm,BI,e34,hw];refine hN Tv Vv far' a2 _ _ hrd hb ⟨da p2.grows (aU _) _,⟨v',?_,?_⟩,?_,?_⟩ ⟨by simp[c0],by simp[c2],by simp[c3],by simp[c4],by simp[c5],by simp[c6]⟩ (by simp[e8]) (by simp[e7]) (by simp[e33]) (by simp)
  ·simp only;rw[cK (by rw[p3];exact hn0)]
  ·have:(l++[(Tv,Vv)]).map bC=l.map bC++[.agg [.int .i64 Tv,.int .i64 Vv]]:=by simp[bC,uf]
   rw[this];exact p2.setO (aU _) _
  ·simp only;rw[bU (by omega),p3];exact hD5.he
  ·simp only;rw[bU (by omega),p3];exact hD5.hr
end Ps
