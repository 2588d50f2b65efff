/- Of no disk. -/
import Derived.Test.YtbjefjhmnojdoaaGreatDefs
import Derived.Test.YtbjefjhmnojdoaaGreatDF
set_option linter.defProp false
namespace Ps
set_option linter.unusedSimpArgs false
set_option linter.unusedVariables false
open Go
def aAH:T.fn 90=some (.code z23):=rfl
def rH:T.fn 78=some (.code z9):=rfl
def aAI:T.fn 200=some (.code z20):=rfl
def aAJ:T.fn 199=some (.exs (rL 294)):=rfl
def mQ(l:List (Nm×Nat)):PV:=if(l.map (·.1)).isEmpty then .nils else .sl none (((l.map (·.1)).mergeSort leB).map .str) []
def Ud{S:St}{m:Nat}(hm:∃c,S.objs[m]?=some c):aO T 200 [.map m] S=some (.fn 294 [.ptr S.objs.length 0],⟨S.objs++[[.map m]],S.tips⟩):=by
 refine aW aAI rfl ?_;simp -implicitDefEqProofs [z20,aI,dg];unfold ac
 have:bQ (S.objs++[[PV.map m]]) S.objs.length eM (.fn 294 [.ptr S.objs.length 0])=none:=by
  have a1:bQ (S.objs++[[PV.map m]]) S.objs.length 38 (.map m)=none:=rfl
  have a2:bQ (S.objs++[[PV.map m]]) S.objs.length 39 (.ptr S.objs.length 0)=none:=by
   rw[bQ];simp only[PV.free,cF,if_false,aj,if_true];simp[cr,a1]
  show bQ (S.objs++[[PV.map m]]) S.objs.length (39+1) (.fn 294 [.ptr S.objs.length 0])=none;rw[bQ];simp only[PV.free,PV.freeL,qP,cF,if_false];simp only[cr,a2]
 simp[this]
def Ue{S:St}{m:Nat}{l:List (Nm×Nat)}(hm:S.objs[m]?=some (cE l))(hl:l.length≤1048576)(hn:∀p∈l,p.1.length≤24) :
  aO T 199 [.fn 294 [.ptr S.objs.length 0]] ⟨S.objs++[[.map m]],S.tips⟩=some (mQ l,⟨S.objs++[[.map m]],S.tips⟩):=by
 refine Cl aAJ ?_;have h1:(S.objs++[[PV.map m]])[S.objs.length]?=some [PV.map m]:=by simp
 have h2:(S.objs++[[PV.map m]])[m]?=some (cE l):=by rw[bP (aS.1 hm).1];exact hm
 have h3:(l.map (·.1)).length≤1048576∧(l.map (·.1)).all (fun k=>decide (k.length≤maxLen))=true:=by
  refine⟨by simpa using hl,?_⟩;simp only[List.all_eq_true,cD,decide_eq_true_eq];rintro k ⟨p,hp,rfl⟩;have:=hn p hp;exact Nat.le_trans this (by decide)
 simp only[rL,if_true,h1,h2,UR,if_pos h3];rfl
theorem Uf:∀l:List Nm,PV.freeL (l.map .str)=true
 | []=>rfl
 |a::l=>by simp only[dS,PV.freeL,PV.free,vu];exact Uf l
theorem Ug:∀l:List Nm,PV.frzL (l.map .str)=l.map .str
 | []=>rfl
 |a::l=>by simp only[dS,PV.frzL,PV.frz,kW,true_and];exact Ug l
def aAK(l:List (Nm×Nat)):(mQ l).free=true:=by
 unfold mQ;split
 ·rfl
 ·simp[PV.free,PV.freeL,Uf]
def aAL(l:List (Nm×Nat)):(mQ l).frz=mQ l:=by
 unfold mQ;split
 ·rfl
 ·simp[PV.frz,PV.frzL,Ug]
def aAM{S:St}{x:List (List PV)}{r:PV}(hr:r.free=true):ac false S ⟨S.objs++x,S.tips⟩ r=(r.frz,S):=by
 unfold ac;have:bQ (S.objs++x) S.objs.length eM r=some r:=lz hr;simp[this,iy,uF]
def pM(D:Dk):PV:=if D.dark then .nils else mQ D.live
def Uh{S:St}{o K:Nat}{D:Dk}(h:At S o K D)(hK:K≤1048570):aO T 90 [.ptr o 0] S=some (pM D,S):=by
 have hob:=h.obj;simp only[ax]at hob;refine aW aAH rfl ?_
 cases hd:D.dark with
 |true=>
  rw[hd]at hob;simp -implicitDefEqProofs [z23,aU hob,pM,hd]
  rw[kC];rfl
 |false=>
  rw[hd]at hob;have hk:=Ud ⟨_,h.live⟩;have hs:=Ue h.live (by have:=h.ll;omega) h.nl;simp -implicitDefEqProofs [z23,aU hob,pM,hd,hk,hs];rw[aAM (aAK _),aAL]
def gx(D:Dk):List (Nm×Nat)→Int
 | []=>0
 |(_,f)::l=>(D.fb f).length+gx D l
def iB(D:Dk)(n:Nm)(b:List UInt8):Int:=if cP D n≠0 then cP D n else if(b.length:Int)>D.room-gx D D.live then 7 else 0
def lenOf(D:Dk):PV×PV→Int
 |(_,.ptr f _)=>(D.fb f).length
 |_=>0
def ja(D:Dk):List (PV×PV)→Int
 | []=>0
 |x::l=>lenOf D x+ja D l
def aAN(D:Dk){l l':List (PV×PV)}(h:l.Perm l'):ja D l=ja D l':=by
 induction h with
 |nil=>rfl
 |cons x _ ih=>simp only[ja,ih]
 |swap x y l=>simp only[ja];omega
 |trans _ _ ih1 ih2=>exact ih1.trans ih2
theorem Ui(D:Dk):∀l:List (Nm×Nat),ja D (ij (cE l))=gx D l
 | []=>rfl
 |(q,f)::l=>by simp only[cE,ij,ja,lenOf,gx,Ui D l]
def aAO(fr:Fr):dO 26 42 (dO 11 12 (dO 26 42 (dO 11 12 fr)))=dO 26 42 (dO 11 12 fr):=by
 funext t;simp only[dO];cases iQ 26 42 t<;>cases iQ 11 12 t<;>rfl
def aAP{S:St}{o K:Nat}{D:Dk}(h:At S o K D):∀(p:List (PV×PV)),(∀x∈p,∃n f,x=(.str n,.ptr f 0)∧f∈D.fl)→∀(s:Int) (fr:Fr),fr 9=.int .i64 s→dO 26 42 (dO 11 12 fr)=fr→s≤4194304 → -4611686018427387904≤s-4194304*p.length →
  yo T D.li (cE D.live) 33 xm [(11,12),(26,42)] (.region xn) p fr S (bw fr 9 (.int .i64 (s-ja D p)),S):=by
 intro p
 induction p with
 |nil=>
  intro _ s fr h9 _ _ _
  have:bw fr 9 (.int .i64 (s-ja D []))=fr:=by
   funext t;simp only[ja,Int.sub_zero,lK];split
   ·rename_i e;rw[e,h9]
   ·rfl
  rw[this];rfl
 |cons x p ih=>
  intro hx s fr h9 hfr hs1 hs2;obtain⟨n,f,rfl,hf⟩:=hx x (by simp);obtain⟨hfo,hsl,_,hroom⟩:=h.file f hf;have hlen:=yL hsl;have hbl:(aL (D.fb f)).length=(D.fb f).length:=by simp[aL]
  rw[hbl]at hlen;have hrm:=h.rm;simp only[bV]at hs2;have hw:IntKind.i64.wrap (s-((D.fb f).length:Int))=s-((D.fb f).length:Int):=bJ (by omega) (by omega);refine⟨bw fr 9 (.int .i64 (s-((D.fb f).length:Int))),S,fun K'=>?_,h.live,?_⟩
  ·simp -implicitDefEqProofs [h9,aU hfo,hlen,hw,hfr]
  ·have:=ih (fun y hy=>hx y (by simp[hy])) (s-((D.fb f).length:Int)) (bw fr 9 (.int .i64 (s-((D.fb f).length:Int)))) (by simp) (by simp[hfr]) (by omega) (by omega)
   have e:bw (bw fr 9 (.int .i64 (s-((D.fb f).length:Int)))) 9 (.int .i64 (s-((D.fb f).length:Int)-ja D p))=bw fr 9 (.int .i64 (s-ja D ((PV.str n,PV.ptr f 0)::p))):=by
    funext t;simp only[lK,ja,lenOf];split
    ·congr 1;omega
    ·rfl
   rw[e]at this;exact this
def aAQ{l:List (Nm×Nat)}{x:PV×PV}(h:x∈ij (cE l)):∃n f,x=(.str n,.ptr f 0)∧(n,f)∈l:=by
 rw[Ca]at h;obtain⟨p,hp,rfl⟩:=cD.1 h;exact⟨p.1,p.2,rfl,hp⟩
def Cq{S:St}{o K:Nat}{D:Dk}(h:At S o K D)(hK:K≤1048570){K':List Kt}{fr:Fr}{Q:Fr→St→Prop}(h9:fr 9=.int .i64 D.room)(h29:fr 29=.map D.li)
  (hk:Ok (aJ T K' (bw (dO 26 42 (dO 11 12 fr)) 9 (.int .i64 (D.room-gx D D.live))) S) Q) :
  Ok (aJ T (.rg (.tmp 29) 33 xm [(11,12),(26,42)] (.region xn)::K') fr S) Q:=by
 have hrm:=h.rm;have hll:=h.ll;rw[aCT (fr:=fr) (x:=.tmp 29) (id:=D.li) (cs:=cE D.live) (r:=(bw (dO 26 42 (dO 11 12 fr)) 9 (.int .i64 (D.room-gx D D.live)),S)) (kU _) h29 h.live]
 ·exact hk
 ·intro p hp;have hlen:p.length=D.live.length:=by rw[hp.length_eq,Ca];simp
  have:=aAP h p (fun x hx=>by
   obtain⟨n,f,rfl,hm⟩:=aAQ (hp.mem_iff.1 hx);exact⟨n,f,rfl,h.inl _ hm⟩) D.room (dO 26 42 (dO 11 12 fr)) (by simp[h9]) (aAO fr) (by omega) (by omega)
  rw[aAN D hp,Ui]at this;exact this
def aAR{S:St}{o K:Nat}{D:Dk}(h:At S o K D)(hK:K≤1048570){n:Nm}(hn:n.length≤maxLen){bv:PV}{b:List UInt8}(hb:cz false bv=some (.int .i64 b.length))(he:iB D n b≠0) :
  aO T 78 [.ptr o 0,.str n,bv] S=some (.int .i64 (iB D n b),S):=by
 have hf:=iM h hn;have hob:=h.obj;simp only[ax]at hob;refine aW rH rfl ?_;rcases jZ D n with h8|⟨h9,_,_⟩|⟨h0,_,_⟩
 ·rw[h8]at hf;simp -implicitDefEqProofs [z9,hf,h8,iB,fC]
 ·rw[h9]at hf;simp -implicitDefEqProofs [z9,hf,h9,iB,fC]
 ·rw[h0]at hf
  have hfull:(b.length:Int)>D.room-gx D D.live:=by
   by_cases q:(b.length:Int)>D.room-gx D D.live
   ·exact q
   ·simp[iB,h0,q]at he
  simp -implicitDefEqProofs [z9,hf,h0,aU hob,Dh];refine Cq h hK (by simp) (by simp) ?_;simp -implicitDefEqProofs [hb,hfull,iB,h0,fC]
def Cr{D:Dk}{n:Nm}{b:List UInt8}(he:iB D n b=0):cP D n=0∧(b.length:Int)≤D.room-gx D D.live:=by
 unfold iB at he;split at he
 ·rename_i h;exact absurd he h
 ·rename_i h;split at he
  ·cases he
  ·rename_i h2;refine⟨?_,by omega⟩;rcases jZ D n with h8|⟨h9,_,_⟩|⟨h0,_,_⟩
   ·exact absurd h8 (by intro e;exact h (by rw[e];decide))
   ·exact absurd h9 (by intro e;exact h (by rw[e];decide))
   ·exact h0
def aAS{S:St}{o K:Nat}{D:Dk}(h:At S o K D)(hK:K≤1048570){n:Nm}(hn:n.length≤maxLen){bv:PV}{b:List UInt8}(hb:cz false bv=some (.int .i64 b.length))(he:iB D n b=0)(hr:cY D=6) :
  aO T 78 [.ptr o 0,.str n,bv] S=some (.int .i64 6,⟨S.objs.set o (ax (aX D)),S.tips⟩):=by
 obtain⟨h0,hle⟩:=Cr he;have hf:=iM h hn;have hob:=h.obj;simp only[ax]at hob;have hs:=(jC h (by omega)).1;rw[hr]at hs;rw[h0]at hf;have hnot:¬D.room-gx D D.live<(b.length:Int):=by omega
 refine aW rH rfl ?_;simp -implicitDefEqProofs [z9,hf,h0,aU hob,Dh];refine Cq h hK (by simp) (by simp) ?_;simp -implicitDefEqProofs [hb,hnot,hs];exact uJ h
def aAT(a b:List UInt8):aL (a++b)=aL a++aL b:=by simp[aL]
def Cs(a:List UInt8):(aL a).length=a.length:=by simp[aL]
def aAU{S:St}{v:PV}{a b:List UInt8}(h:fi S 1 v (aL a))(hl:a.length+b.length≤8388608) :
  ∃v' tips',fL 1 1 S v (aL b)=some (v',⟨S.objs,tips'⟩)∧fi ⟨[],tips'⟩ 1 v' (aL (a++b))∧S.tips.length≤tips'.length∧(∀k,cU v'=some k→cU v=some k∨S.tips.length≤k) ∧
   (∀k,k<S.tips.length→cU v≠some k→tips'[k]?=S.tips[k]?)∧v'.cells=[v']∧v'.one=true:=by
 by_cases hb:b=[]
 ·subst hb;refine⟨v,S.tips,?_,by rw[cI];exact h.of (fun _ _=>rfl),aj _,fun k hk=>.inl hk,fun _ _ _=>rfl,?_⟩
  ·rcases h with⟨rfl,_⟩|⟨k,e,rfl,_⟩<;>rfl
  ·rcases h with⟨rfl,_⟩|⟨k,e,rfl,_⟩<;>exact⟨rfl,rfl⟩
 ·have hne:aL b≠[]:=by simpa[aL]using hb
  rcases h with⟨rfl,hn⟩|⟨k,e,rfl,ht⟩
  ·have ha:a=[]:=by simpa[aL]using hn
   subst ha;refine⟨.sl (some (S.tips.length,(aL b).length)) (aL b) [],S.tips++[((aL b).length,1)],?_,.inr ⟨_,_,rfl,by simp⟩,by simp,fun k hk=>?_,fun k hk _=>by rw[bP hk],rfl,rfl⟩
   ·rw[UY hne (by rw[Cs];simp at hl ⊢;omega)];rfl
   ·simp only[cU,bU]at hk;exact .inr (by omega)
  ·have hk:=(aS.1 ht).1;refine⟨.sl (some (k,e+(aL b).length)) (aL a++aL b) [],S.tips.set k (e+(aL b).length,1),?_,.inr ⟨_,_,by rw[aAT],fY hk⟩,by simp,fun j hj=>.inl hj,fun j hj hne2=>?_,rfl,rfl⟩
   ·rw[Cf hne ht (by simp only[Cs];omega)]
   ·exact ak (fun e=>hne2 (by rw[←e];rfl))
theorem Uj{D:Dk}{n:Nm}{f:Nat}:∀{l:List (Nm×Nat)},(n,f)∈l→((D.fb f).length:Int)≤gx D l
 |(q,g)::l,h=>by
  have hnn:∀l:List (Nm×Nat),0≤gx D l:=by
   intro l
   induction l with
   |nil=>exact AV _
   |cons x l ih=>simp only[gx];omega
  simp only[gx];rcases cX.1 h with h|h
  ·cases h;have:=hnn l;omega
  ·have:=Uj (D:=D) h;omega
def aAV{S:St}{o K:Nat}{D:Dk}(h:At S o K D)(hK:K≤1048570){n:Nm}(hn:n.length≤maxLen){bv:PV}{b:List UInt8}(hb:cz false bv=some (.int .i64 b.length))(hbv:gI 1 bv=some (aL b))(he:iB D n b=0)(hr:cY D=0){f:Nat}(hlk:lk n D.live=some f) :
  ∃v' S',aO T 78 [.ptr o 0,.str n,bv] S=some (.int .i64 0,S')∧At S' o (K+1) (dD (aX D) f v' (D.fb f++b) (D.fs f))∧bj o S S' D (dD (aX D) f v' (D.fb f++b) (D.fs f)):=by
 obtain⟨h0,hle⟩:=Cr he;have hf:=iM h hn;obtain⟨f',hlk',hff,_⟩:=uL h0;rw[hlk]at hlk';cases hlk';rw[h0,hff]at hf;have hob:=h.obj;simp only[ax]at hob;obtain⟨hs,hA⟩:=jC h (by omega);rw[hr]at hs;obtain⟨_,_,_,e4,_,e6,e7,e8,e9,e10,e11⟩:=iO D;have hfm:f∈D.fl:=h.inl _ (ic hlk);have hsum:=Uj (D:=D) (ic hlk);have hrm:=h.rm;have hfs:=hA.file f (by rw[e7];exact hfm);rw[e8,e9,e10,e11]at hfs;obtain⟨S1,hS1⟩:∃S1:St,S1=⟨S.objs.set o (ax (aX D)),S.tips⟩:=⟨_,rfl⟩;rw[←hS1]at hs hA hfs;have ht1:S1.tips=S.tips:=by rw[hS1]
 obtain⟨v',tips',ha1,ha2,ha3,ha4,ha5,ha6,ha7⟩:=aAU (b:=b) hfs.2.1 (by omega);have hnot:¬D.room-gx D D.live<(b.length:Int):=by omega
 have hothers:∀k,k<S1.tips.length→cU (D.fv f)≠some k→tips'[k]?=S1.tips[k]?:=ha5
 have hfin:=hA.setf (f:=f) (by rw[e7];exact hfm) (v:=v') (b:=D.fb f++b) (s:=D.fs f) (tips':=tips') ha2 (by rw[List.length_append];have:=hfs.2.2.1;omega) (by rw[e11,List.length_append];push_cast;omega)
  (fun g hg hgf k hk=>by
   rw[e7]at hg;rw[e10]at hk;exact hothers k (by rw[ht1];exact(h.file g hg).2.1.tip hk) (fun hq=>h.tf g hg f hfm hgf k hk hq))
  (fun k hk=>by
   rw[e6]at hk;exact hothers k (by rw[ht1];exact h.wv.tip hk) (fun hq=>h.tw f hfm k hk hq))
  (fun k hk=>by
   rw[e6,e7,e10];rcases ha4 k hk with hq|hq
   ·exact⟨fun hw=>h.tw f hfm k hw hq,fun g hg hgf=>h.tf f hfm g hg (Ne.symm hgf) k hq⟩
   ·rw[ht1]at hq;exact⟨fun hw=>by have:=h.wv.tip hw;omega,fun g hg _ hw=>by have:=(h.file g hg).2.1.tip hw;omega⟩)
 have hfo:=hfs.1;refine⟨v',_,aW rH rfl ?_,hfin,?_⟩
 ·simp -implicitDefEqProofs [z9,hf,h0,aU hob,Dh];refine Cq h hK (by simp) (by simp) ?_;simp -implicitDefEqProofs [hb,hnot,hs,aU hfo,sY,appdS (S:=S1) hbv,ha1,aI,hfo,aR,ha6,ha7];exact rG h hfin (by rw[show(dD (aX D) f v' (D.fb f++b) (D.fs f)).done=(aX D).done from rfl,pL hr])
 ·refine⟨⟨by rw[←ht1];exact ha3,fun k hk ho=>⟨?_,?_⟩⟩,⟨fun i c hc hi hn=>by
   simp only;rw[ak (fun e=>hn (.inr (.inr (by rw[←e];exact hfm)))),hS1];simp only;rw[ak (Ne.symm hi)];exact hc,fun i _ _ hn=>uI (iO D).1 (iO D).2.1 e7 hn⟩⟩
  ·rintro(hq|⟨g,hg,hq⟩)
   ·exact ho (.inl (by rw[←e6];exact hq))
   ·have hg:g∈D.fl:=by rw[←e7];exact hg
    simp only[dD]at hq;split at hq
    ·rcases ha4 k hq with hq|hq
     ·exact ho (.inr ⟨f,hfm,hq⟩)
     ·rw[ht1]at hq;omega
    ·rw[e10]at hq;exact ho (.inr ⟨g,hg,hq⟩)
  ·rw[←ht1];exact hothers k (by rw[ht1];exact hk) (fun hq=>ho (.inr ⟨f,hfm,hq⟩))
end Ps
set_option linter.defProp false
namespace Ps
set_option linter.unusedSimpArgs false
set_option linter.unusedVariables false
open Go
def aAW:T.fn 80=some (.code mM):=rfl
def aAX{S:St}:ac false S S (.tup [.nilp,.int .i64 1])=(.tup [.nilp,.int .i64 1],S):=by rw[kC];rfl
def aAY{S:St}{n:Nm}:aO T 194 [.nilp,.str n] S=some (.tup [.nilp,.int .i64 1],S):=by
 refine aW UV rfl ?_;simp -implicitDefEqProofs [z24,aAX]
def append_nil{S:St}{n:Nm}{bv:PV}:aO T 78 [.nilp,.str n,bv] S=some (.int .i64 1,S):=by
 refine aW rH rfl ?_;simp -implicitDefEqProofs [z9,aAY,fC]
def Uk:T.fn 16=some (.code oy):=rfl
def fj(r:Int)(L:Nat):Dk:=⟨r,-1,0,false,L,L+1,[],[],[],.nils,[],fun _=>[],fun _=>0,fun _=>.nils⟩
def aAZ{S:St}{r:Int}(h:r<1∨4194304<r):aO T 16 [.int .i64 r] S=some (.tup [.nilp,.int .i64 2],S):=by
 refine aW Uk rfl ?_;have fin2:ac false S S (.tup [.nilp,.int .i64 2])=(.tup [.nilp,.int .i64 2],S):=by rw[kC];rfl
 rcases h with h|h
 ·simp -implicitDefEqProofs [oy,h,fin2]
 ·have h2:¬r<1:=by omega
  simp -implicitDefEqProofs [oy,h,h2,fin2]
def aA0{S:St}{r:Int}(h1:1≤r)(h2:r≤4194304) :
  At ⟨S.objs++[[],[],ax (fj r S.objs.length)],S.tips⟩ (S.objs.length+2) 0 (fj r S.objs.length) where
 obj:=by simp[AY]
 base:=by simp[AY,fj,cE]
 live:=by simp[AY,fj,cE]
 wv:=.inl ⟨rfl,rfl⟩
 file:=fun f hf=>by cases hf
 inb:=fun p hp=>by cases hp
 inw:=fun p hp=>by cases hp
 nd:=⟨by simp only[fj];omega,by simp only[fj];omega,by simp only[fj];omega,fun f hf=>by cases hf⟩
 tw:=fun f hf=>by cases hf
 tf:=fun f hf=>by cases hf
 hist:=.nil _
 nb:=fun p hp=>by cases hp
 nw:=fun p hp=>by cases hp
 rm:=⟨h1,h2⟩
 cnt:=by simp[fj]
 dn:=⟨AV _,AV _⟩
 lf:=⟨by simp[fj],by simp[fj]⟩
def aA1{S:St}{r:Int}(h1:1≤r)(h2:r≤4194304):aO T 16 [.int .i64 r] S=some (.tup [.ptr (S.objs.length+2) 0,.int .i64 0],⟨S.objs++[[],[],ax (fj r S.objs.length)],S.tips⟩):=by
 refine aW Uk rfl ?_;have a1:¬r<1:=by omega
 have a2:¬4194304<r:=by omega
 simp -implicitDefEqProofs [oy,a1,a2,aI,aQ,bK,aR,dg];obtain⟨S1,hS1⟩:∃S1:St,S1=⟨S.objs++[[],[],ax (fj r S.objs.length)],S.tips⟩:=⟨_,rfl⟩;have ho:S1.objs[S.objs.length+2]?=some (ax (fj r S.objs.length)):=by rw[hS1];simp[AY]
 have hs:bQ S1.objs S.objs.length eM (.tup [.ptr (S.objs.length+2) 0,.int .i64 0])=none:=by
  have b1:bQ S1.objs S.objs.length 38 (.map S.objs.length)=none:=rfl;have b0:bQ S1.objs S.objs.length 38 (.int .i64 r)=some (.int .i64 r):=rfl
  have b2:bQ S1.objs S.objs.length 39 (.ptr (S.objs.length+2) 0)=none:=by
   rw[bQ];have hle:S.objs.length≤S.objs.length+2:=by omega
   simp only[PV.free,cF,if_false,hle,if_true,ho];simp[ax,fj,cr,b0,b1]
  show bQ S1.objs S.objs.length (39+1) (.tup [.ptr (S.objs.length+2) 0,.int .i64 0])=none;rw[bQ];simp only[PV.free,PV.freeL,qP,cF,if_false];simp only[cr,b2]
 have hf:ac false S S1 (.tup [.ptr (S.objs.length+2) 0,.int .i64 0])=(.tup [.ptr (S.objs.length+2) 0,.int .i64 0],S1):=by
  unfold ac;simp only[cF,if_false,hs]
 rw[hS1]at hf;exact hf
end Ps
