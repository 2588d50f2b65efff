/- db.Decode, walked. -/
import Derived.Test.YtpjmpaidcidjgaaGreatDoorDefsKb
import Derived.Test.YtpjmpaidcidjgaaGreatDoorEBKb
set_option linter.defProp false
namespace Ps
set_option linter.unusedSimpArgs false
set_option linter.unusedVariables false
open Go Go.Proofs
instance badO_dec (i:Nat)(a b c:Int):Decidable (oV i a b c):=inferInstanceAs (Decidable (_∨_))
def gS(b:List UInt8):Nat→Nat→Nat→Int→List Sm→Option (Nat×List Sm)
 |0,_,a,_,l=>some (a,l)
 |n+1,i,a,far,l=>match jI b i a far l with
  |some (t,v,f',a')=>if oV i t v f' then none else gS b n (i+1) a' f' (l++[(t,v)])
  |none=>none
def jh(b:List UInt8)(a:Nat):Bool:=decide (7<8*b.length-a)||(decide (0<8*b.length-a)&&decide ((b.getD (b.length-1) 0).toNat*2^(8-(8*b.length-a))%256≠0))
def decP(b:List UInt8):Option (List Sm):=match gH b 0 with
 |some (m,a0)=>if m<1∨120<m then none else(match gS b m 0 a0 0 []with
  |some (a,l)=>if jh b a then none else some l
  |none=>none)
 |none=>none
def Zg{b:List UInt8}{i a a':Nat}{far t v f':Int}{l:List Sm}(h:jI b i a far l=some (t,v,f',a'))(hb:¬oV i t v f')(hfar:0≤far∧far≤1099511627776)(hT:∀j,0≤aK l j∧aK l j≤1099511627776) :
  (0≤f'∧f'≤1099511627776)∧(0≤t∧t≤1099511627776 ∧ -1152921504606846976≤v∧v≤1152921504606846976)∧a'≤8*b.length:=by
 have hm:eS t v=true:=by
  cases h:eS t v with
  |true=>rfl
  |false=>exact absurd (.inl h) hb
 have hm':0≤t∧t≤1099511627776 ∧ -1152921504606846976≤v∧v≤1152921504606846976:=by
  simp only[eS,aJ,decide_eq_true_eq]at hm;omega
 unfold jI at h;split at h
 ·rename_i t1 f1 a1 hd;split at h
  ·rename_i v1 a2 hs;simp only[ap,bc]at h;obtain⟨rfl,rfl,rfl,rfl⟩:=h;refine⟨?_,hm',(wJ hs).2.2⟩;unfold gx at hd;split at hd
   ·split at hd
    ·cases hd;exact hfar
    ·cases hd
   ·rename_i hi0
    have h1:1≤f1:=by
     have:¬(0<i∧f1<1):=fun h=>hb (.inr h);omega
    split at hd
    ·split at hd
     ·rename_i ht;cases hd;have:=(wI ht).1;omega
     ·cases hd
    ·split at hd
     ·cases hd;have:=hT (i-1);omega
     ·cases hd
  ·cases h
 ·cases h
def Zh{l:List Sm}{x:Sm}(j:Nat):aK (l++[x]) j=if j=l.length then x.1 else aK l j:=by
 unfold aK;simp only[List.getD_eq_getElem?_getD];by_cases h:j<l.length
 ·rw[bK h,if_neg (by omega)]
 ·by_cases e:j=l.length
  ·subst e;simp
  ·rw[if_neg e,dY (by simp;omega),dY (by omega)]
def Zi{l:List Sm}{x:Sm}(j:Nat):bE (l++[x]) j=if j=l.length then x.2 else bE l j:=by
 unfold bE;simp only[List.getD_eq_getElem?_getD];by_cases h:j<l.length
 ·rw[bK h,if_neg (by omega)]
 ·by_cases e:j=l.length
  ·subst e;simp
  ·rw[if_neg e,dY (by simp;omega),dY (by omega)]
def Zj{S:St}{v bv:PV}{b:List UInt8}{m:Nat}{Post:Wx→Fr→St→Prop}(hv:ay 1 bv (aI b))(hb:8*b.length≤1099511627776)(hm:m≤120) :
  ∀(n i a:Nat) (far:Int) (l:List Sm) (fr:Fr) (S':St),i+n=m→a≤8*b.length→gv S S' bv b a l→nC S.objs.length v fr→l.length=i→(0≤far∧far≤1099511627776)→(∀j,0≤aK l j∧aK l j≤1099511627776)→(∀j,-1152921504606846976≤bE l j∧bE l j≤1152921504606846976) →
  fr 8=.int .i64 far→fr 33=.int .i64 (m:Int)→fr 34=.int .i64 (i:Int) →
  (∀a' l' fr' S'',gS b n i a far l=some (a',l')→a'≤8*b.length→gv S S'' bv b a' l'→nC S.objs.length v fr'→Post (.exit 0) fr' S'') →
  (∀fr' S'',gS b n i a far l=none→qI S S''→fr' 2=.ptr S.objs.length 0→fr' 3=.ptr (S.objs.length+1) 0→Post .ret fr' S'') →
  (∀fr' S'',gS b n i a far l=none→oU S S''→fr' 2=.ptr S.objs.length 0→fr' 3=.ptr (S.objs.length+1) 0→Post (.pan fm) fr' S'')→WL tie sB fr S' Post:=by
 intro n
 induction n with
 |zero=>
  intro i a far l fr S' him ha hD hF hl hfar hT hV h8 h33 h34 hX hE hP;have hlt:¬(i:Int)<(m:Int):=by omega
  have hln:¬i<m:=by omega
  refine rI ?_;unfold sB;refine bO tieOk rfl ?_;simp -implicitDefEqProofs [vl,h33,h34,hlt,hln];refine bw (gC (b:=false) (by simp) (Dv ?_))
  exact hX a l _ S' rfl ha hD ⟨by simp[hF.f0],by simp[hF.f2],by simp[hF.f3],by simp[hF.f4],by simp[hF.f5],by simp[hF.f6]⟩
 |succ n ih=>
  intro i a far l fr S' him ha hD hF hl hfar hT hV h8 h33 h34 hX hE hP;refine rI (Zf hv hb ha hD hF hl (by omega:i<m) hm hfar hT hV h8 h33 h34 ?_ ?_ ?_)
  ·intro t w f' a' fr' S'' hr hnb hD' hF' e8 e7 e33 e34;obtain⟨q1,q2,q3⟩:=Zg hr hnb hfar hT;have hdl:gS b (n+1) i a far l=gS b n (i+1) a' f' (l++[(t,w)]):=by rw[gS,hr];simp only;rw[if_neg hnb]
   refine ih (i+1) a' f' (l++[(t,w)]) fr' S'' (by omega) q3 hD' hF' (by simp[hl]) q1 (fun j=>?_) (fun j=>?_) e8 (e33.trans h33) e34 (fun a2 l2 fr2 S2 k=>hX a2 l2 fr2 S2 (hdl.trans k)) (fun fr2 S2 k=>hE fr2 S2 (hdl.trans k)) (fun fr2 S2 k=>hP fr2 S2 (hdl.trans k))
   ·rw[Zh];split
    ·simp only;omega
    ·exact hT j
   ·rw[Zi];split
    ·simp only;omega
    ·exact hV j
  ·intro t w f' a' fr' S'' hr hb' hEE e2 e3;exact hE fr' S'' (by rw[gS,hr];simp only;rw[if_pos hb']) hEE e2 e3
  ·intro fr' S'' hr hPP e2 e3;exact hP fr' S'' (by rw[gS,hr]) hPP e2 e3
def RF{S S3:St}{fr3:Fr}{x:PV}{e:Int}(hg:aL S S3)(h1:S3.objs[S.objs.length]?=some [x])(h2:S3.objs[S.objs.length+1]?=some [.int .i64 e])(f2:fr3 2=.ptr S.objs.length 0)(f3:fr3 3=.ptr (S.objs.length+1) 0)(hx:x.free=true) :
  ∃S4 vs,lL tie pt [.ptr S.objs.length 0,.ptr (S.objs.length+1) 0] .nili S3 S4∧cF fr3 S4 [.cell 2 false 1,.cell 3 false 1]=some vs∧aW false S S4 (bb vs)=(.tup [x.frz,.int .i64 e],S):=by
 have hfin:aW false S3 S3 (.tup [])=(.tup [],S3):=iq rfl rfl rfl rfl (fun _ _=>fg);refine⟨S3,[x,.int .i64 e],⟨some 5,some 2,.tmp 5,_,rfl,rfl,?_⟩,?_,?_⟩
 ·simp -implicitDefEqProofs [dm,vQ,ev,gD,isNil,fu];exact⟨[],rfl,by show S3=(aW false S3 S3 (.tup [])).2;rw[hfin]⟩
 ·simp[cF,gu,f2,f3,h1,h2,bD]
 ·show aW false S S3 (.tup [x,.int .i64 e])=_;rw[cZ hg (by simp[PV.free,PV.freeL,hx])];simp[PV.frz,PV.frzL]
def RG{S S4:St}(h:aL S S4){n k:Nat}(hn:S.objs.length≤n)(hk:S.tips.length≤k):aL S ⟨S4.objs.take n,S4.tips.take k⟩:=by
 obtain⟨o,t,rfl⟩:=h;refine⟨o.take (n-S.objs.length),t.take (k-S.tips.length),?_⟩;simp only[St.mk.injEq];rw[Ed,Ed,lP hn,lP hk];exact⟨rfl,rfl⟩
def RH{S S3 S4:St}(hg3:aL S S3)(hg:aL S S4):∃X,aW false S3 S4 (.tup [])=(.tup [],X)∧aL S X∧∀i,i<S3.objs.length→X.objs[i]?=S4.objs[i]?:=by
 have h3:S.objs.length≤S3.objs.length∧S.tips.length≤S3.tips.length:=by obtain⟨o,t,rfl⟩:=hg3;simp
 unfold aW;have hs:ai S4.objs S3.objs.length eU (.tup [])=some (.tup []):=qY rfl;rw[if_neg (by decide),hs];simp only;by_cases hq:PV.beqLL (S4.objs.take S3.objs.length) S3.objs=true
 ·rw[if_pos hq];have e:=fg hq;refine⟨_,rfl,?_,fun i hi=>?_⟩
  ·have:=RG hg h3.1 h3.2;rw[e]at this;exact this
  ·simp only;rw[←e,dH hi]
 ·rw[if_neg hq];split
  ·refine⟨_,rfl,?_,fun i hi=>?_⟩
   ·have:=RG hg h3.1 (k:=S4.tips.length) (by obtain⟨o,t,rfl⟩:=hg;simp)
    rwa [kf]at this
   ·simp only;rw[dH hi]
  ·exact⟨_,rfl,hg,fun i hi=>rfl⟩
def Zk{S S3:St}{fr3:Fr}(h:oU S S3)(f2:fr3 2=.ptr S.objs.length 0)(f3:fr3 3=.ptr (S.objs.length+1) 0) :
  ∃S4 vs,lL tie pt [.ptr S.objs.length 0,.ptr (S.objs.length+1) 0] fm S3 S4∧cF fr3 S4 [.cell 2 false 1,.cell 3 false 1]=some vs∧aW false S S4 (bb vs)=(.tup [.nils,.int .i64 5],S):=by
 obtain⟨hg,⟨lv,hl⟩,he⟩:=h;have hn0:S.objs.length<S3.objs.length:=(aM.1 hl).1;have hn1:S.objs.length+1<S3.objs.length:=(aM.1 he).1;obtain⟨S5,hS5⟩:∃S5:St,S5=⟨((S3.objs++[[]]).set S.objs.length [.nils]).set (S.objs.length+1) [.int .i64 5],S3.tips⟩:=⟨_,rfl⟩
 have hg5:aL S S5:=by
  rw[hS5];exact da (S0:=S) (S:=⟨(S3.objs++[[]]).set S.objs.length [.nils],S3.tips⟩) (da (S0:=S) (S:=⟨S3.objs++[[]],S3.tips⟩) (hg.objs [[]]) (aU S.objs.length) [.nils]) (Nat.le_succ S.objs.length) _
 have k0:S5.objs[S.objs.length]?=some [.nils]:=by
  rw[hS5];simp only;rw[bU (by omega),cK (by simp;omega)]
 have k1:S5.objs[S.objs.length+1]?=some [.int .i64 5]:=by
  rw[hS5];simp only;rw[cK (by simp;omega)]
 obtain⟨X,x1,x2,x3⟩:=RH hg hg5;have hl':(S3.objs++[[]])[S.objs.length]?=some [lv]:=by rw[bK hn0];exact hl
 have hq1:((S3.objs++[[]]).set S.objs.length [.nils])[S.objs.length+1]?=some [.int .i64 0]:=by rw[bU (by omega),bK hn1];exact he
 have hz:(S3.objs++[[]])[S3.objs.length]?=some []:=by simp
 have hzs:(S3.objs++[[]]).set S3.objs.length []=S3.objs++[[]]:=by simp
 refine⟨X,[.nils,.int .i64 5],⟨some 5,some 2,.tmp 5,_,rfl,rfl,?_⟩,?_,?_⟩
 ·simp -implicitDefEqProofs [dm,vQ,zN,zO,zP,ev,gD,isNil,fu,fm,aG,bt,hz,hzs,hl',hq1,ak];exact⟨[],rfl,by show X=(aW false S3 _ (.tup [])).2;rw[←hS5,x1]⟩
 ·have y0:=(x3 _ hn0).trans k0;have y1:=(x3 _ hn1).trans k1;simp[cF,gu,f2,f3,y0,y1,bD]
 ·show aW false S X (.tup [.nils,.int .i64 5])=_;rw[cZ x2 rfl];rfl
def ji(b:List UInt8):PV:=match decP b with
 |some l=>.tup [.sl none (l.map bC) [],.int .i64 0]
 |none=>.tup [.nils,.int .i64 5]
def RI{b:List UInt8}:∀{n i a a':Nat} {far:Int} {l l':List Sm},gS b n i a far l=some (a',l')→l'.length=l.length+n:=by
 intro n
 induction n with
 |zero=>intro i a a' far l l' h;simp only[gS,ap,bc]at h;obtain⟨_,rfl⟩:=h;rfl
 |succ n ih=>
  intro i a a' far l l' h;rw[gS]at h;split at h
  ·split at h
   ·cases h
   ·have:=ih h;simp at this;omega
  ·cases h
def Zl{b:List UInt8}{v:PV}(hv:ay 1 v (aI b))(hb:0<b.length):ca 1 v (.int .i64 ((b.length-1:Nat):Int))=some (.ref [.int .u8 (((b.getD (b.length-1) 0).toNat:Nat):Int)]):=by
 have hj:b.length-1<(aI b).length:=by rw[bh];omega
 have:=hv.reads.get (b.length-1) hj .i64;rw[this];simp[aI,List.getD_eq_getElem?_getD,show b.length-1<b.length by omega]
def Zm{x k:Nat}(hk:k≤8){l:IntKind}:arith .shl (.int .u8 (x:Int)) (.int l (k:Int))=some (.int .u8 ((x*2^k%256:Nat):Int)):=by
 have h1:¬((k:Int)<0):=by omega
 have h2:min ((k:Int)).toNat IntKind.u8.bits=k:=by
  rw[rL];exact uV hk
 simp only[arith,ef,if_true,ld,h1,if_false,h2];rw[show((x:Int)*2^k)=((x*2^k:Nat):Int)by push_cast;rfl,mc]
def Zn{S:St}{v:PV}{b:List UInt8}(hv:ay 1 v (aI b))(hb:8*b.length≤1099511627776):dc tie 265 [v] S (fun q=>q=.ret (ji b) S):=by
 obtain⟨S1,hS1⟩:∃S1:St,S1=⟨S.objs++[[.nils],[.int .i64 0]],S.tips⟩:=⟨_,rfl⟩;obtain⟨L,hL⟩:∃L:Int,L=((8*b.length:Nat):Int):=⟨_,rfl⟩;have hw:IntKind.i64.wrap (8*(b.length:Int))=L:=by rw[hL,au]<;>omega
 have hvl:=hv.len;rw[bh]at hvl;obtain⟨o1,o2⟩:=hv.one
 refine Uk tieOk ZN ZO (c:=km) (S1:=S1) (S2:=S1) (fr1:=upd (upd (bk [v]) 2 (.ptr S.objs.length 0)) 3 (.ptr (S.objs.length+1) 0))
  (fr2:=upd (upd (upd (bk [v]) 2 (.ptr S.objs.length 0)) 3 (.ptr (S.objs.length+1) 0)) 12 (.fn 335 [.ptr S.objs.length 0,.ptr (S.objs.length+1) 0])) (cf:=335) (rc:=pt) (caps:=[.ptr S.objs.length 0,.ptr (S.objs.length+1) 0]) rfl rfl ⟨_,_,fun K=>?_,rfl,rfl⟩ rfl rfl ?_
 ·simp -implicitDefEqProofs [dm,Ax,aG,bt,hS1]
 have hg1:aL S S1:=⟨[[.nils],[.int .i64 0]],[],by rw[hS1];simp⟩;have h1l:S1.objs.length=S.objs.length+2:=by rw[hS1];simp
 have main:∀PP:Wx→Fr→St→Prop,(∀(fr3:Fr) (S3:St),decP b=none→qI S S3→fr3 2=.ptr S.objs.length 0→fr3 3=.ptr (S.objs.length+1) 0→PP .ret fr3 S3) →
   (∀(fr3:Fr) (S3:St),decP b=none→oU S S3→fr3 2=.ptr S.objs.length 0→fr3 3=.ptr (S.objs.length+1) 0→PP (.pan fm) fr3 S3) →
   (∀(l:List Sm) (id:Nat) (fr3:Fr) (S3:St),decP b=some l→aL S S3→S3.objs[S.objs.length]?=some [.sl (some (id,(l.map bC).length)) (l.map bC) []]→S3.objs[S.objs.length+1]?=some [.int .i64 0]→fr3 2=.ptr S.objs.length 0→fr3 3=.ptr (S.objs.length+1) 0→PP .ret fr3 S3) →
   W tie km.rest (upd (upd (upd (bk [v]) 2 (.ptr S.objs.length 0)) 3 (.ptr (S.objs.length+1) 0)) 12 (.fn 335 [.ptr S.objs.length 0,.ptr (S.objs.length+1) 0])) S1 PP:=by
  intro PP endN endP fin0;unfold km;simp only;refine bO tieOk rfl ?_;simp -implicitDefEqProofs [dm,Ay,hvl,hw,aR,dx,ak,o1,o2,aG,bt];refine bO tieOk rfl ?_;simp -implicitDefEqProofs [dm,Az,h1l,aG,aR,dF];obtain⟨S2,hS2⟩:∃S2:St,S2=⟨S1.objs++[[v,.int .i64 L,.int .i64 0]],S1.tips⟩:=⟨_,rfl⟩;rw[←hS2]
  have hD0:gv S S2 v b 0 []:=by
   refine⟨by rw[hS2];exact hg1.obj _,⟨.nils,?_,lG 2 (by rw[hS2];exact hg1.obj _)⟩,?_,?_⟩
   ·rw[hS2,hS1];simp
   ·rw[hS2,hS1];simp
   ·rw[hS2,hS1];simp[kp,hL]
  refine bw (dC (dB tieOk ?_));unfold GU;refine cw rfl ?_;simp -implicitDefEqProofs;refine ez (by simp[dG]) (zD hv hD0.hr hb (cP _)) ?_ ?_
  rotate_left
  ·intro u S3 hr
   cases hn:gH b 0 with
   |some p=>rw[hn]at hr;cases hr
   |none=>
    rw[hn]at hr;cases hr;exact endP _ _ (by rw[decP,hn]) hD0.decP (by simp[cj]) (by simp[cj])
  intro u S3 hr;refine⟨fun q hq=>(by cases hq),?_⟩
  cases hn:gH b 0 with
  |none=>rw[hn]at hr;cases hr
  |some p=>
  obtain⟨m,a0⟩:=p;rw[hn]at hr;cases hr;obtain⟨hm64,ha0,_⟩:=sE hn;have hD1:=hD0.rd a0;obtain⟨S4,hS4⟩:∃S4,S4=eI S2 (S.objs.length+2) v b a0:=⟨_,rfl⟩;rw[←hS4]at hD1 ⊢;refine eL rfl ?_;simp -implicitDefEqProofs;obtain⟨lv1,q1,q2⟩:=id hD1.hl
  have hq0:lv1=.nils:=by
   rcases q2.acc with⟨e,_⟩|⟨id,_,e,h⟩
   ·exact e
   ·rw[hS4,hS2,hS1]at q1;simp[eI]at q1;exact q1.symm
  subst hq0
  have storeE:∀(fr:Fr) (S5:St) (lvx:PV),aL S S5→S5.objs[S.objs.length]?=some [lvx]→S5.objs[S.objs.length+1]?=some [.int .i64 0]→fr 2=.ptr S.objs.length 0→fr 3=.ptr (S.objs.length+1) 0 →
    ∀Post:Wx→Fr→St→Prop,(∀S6,qI S S6→Post .ret fr S6)→W tie (.seq (.region sU) .ret) fr S5 Post:=by
   intro fr S5 lvx hg h0 h1 f2 f3 Post k;have hn0:=(aM.1 h0).1;have hn1:=(aM.1 h1).1;have he1:(S5.objs.set S.objs.length [.nils])[S.objs.length+1]?=some [.int .i64 0]:=by rw[bU (by omega)];exact h1
   refine pO tieOk rfl ?_;simp -implicitDefEqProofs [dm,sU,f2,f3,aG,h0,he1,ak];refine k _ ⟨da (S:=⟨S5.objs.set S.objs.length [.nils],S5.tips⟩) (da hg (aU _) _) (by omega) _,?_,?_⟩
   ·simp only;rw[bU (by omega),cK hn0]
   ·simp only;rw[cK (by simp;omega)]
  by_cases hbad:m<1∨120<m
  ·have hnone:decP b=none:=by rw[decP,hn];simp only;rw[if_pos hbad]
   refine fT tieOk rfl ?_;by_cases h1:m<1
   ·have hi:((m:Int)<1):=by omega
    simp -implicitDefEqProofs [dm,sT,hi,h1];exact storeE _ S4 _ hD1.grows q1 hD1.he (by simp) (by simp) _ (fun S6 h6=>endN _ _ hnone h6 (by simp) (by simp))
   ·have hi:¬((m:Int)<1):=by omega
    have hi2:((120:Int)<(m:Int)):=by omega
    simp -implicitDefEqProofs [dm,sT,hi,hi2,h1];exact storeE _ S4 _ hD1.grows q1 hD1.he (by simp) (by simp) _ (fun S6 h6=>endN _ _ hnone h6 (by simp) (by simp))
  have hi:¬((m:Int)<1):=by omega
  have hi2:¬((120:Int)<(m:Int)):=by omega
  have hwm:IntKind.i64.wrap (m:Int)=(m:Int):=by rw[au]<;>omega
  have hdp:decP b=(match gS b m 0 a0 0 []with|some (a,l)=>if jh b a then none else some l|none=>none):=by rw[decP,hn];simp only;rw[if_neg hbad]
  refine fT tieOk rfl ?_;simp -implicitDefEqProofs [dm,sT,hi,hi2];refine bO tieOk rfl ?_;simp -implicitDefEqProofs [dm,BA];refine bw (bO tieOk rfl ?_);simp -implicitDefEqProofs [dm,BB,hwm];refine pM (Dx (Zj (S:=S) (v:=v) (bv:=v) (m:=m) hv hb (by omega) m 0 a0 0 [] _ S4 (by omega) ha0 hD1 ⟨by simp,by simp,by simp,by simp,by simp,by simp⟩ rfl (by omega) (fun j=>by simp[aK]) (fun j=>by simp[bE]) (by simp) (by simp) (by simp) ?_ ?_ ?_))
  rotate_left
  ·intro fr' S'' hl hE e2 e3;exact endN _ _ (by rw[hdp,hl]) hE e2 e3
  ·intro fr' S'' hl hP e2 e3;exact endP _ _ (by rw[hdp,hl]) hP e2 e3
  intro a l fr' S5 hl ha hD5 hF5;rw[hl]at hdp;simp only at hdp;obtain⟨d0,d2,d3,d4,d5,d6⟩:=hF5;have hll:=RI hl;simp only[cW,dO]at hll;obtain⟨lf,hlf⟩:∃lf:Nat,lf=8*b.length-a:=⟨_,rfl⟩;have hr5:S5.objs[S.objs.length+2]?=some [v,.int .i64 L,.int .i64 (a:Int)]:=by rw[hL];exact hD5.hr
  have hwl:IntKind.i64.wrap (L-(a:Int))=(lf:Int):=by rw[hL,au]<;>omega
  simp only[if_true];have htb:jh b a=(decide (7<lf)||(decide (0<lf)&&decide ((b.getD (b.length-1) 0).toNat*2^(8-lf)%256≠0))):=by rw[jh,←hlf]
  obtain⟨lv,p1,p2⟩:=id hD5.hl;have hn0:=(aM.1 p1).1;have hn1:=(aM.1 hD5.he).1
  obtain⟨id5,e5⟩:∃id5,lv=.sl (some (id5,(l.map bC).length)) (l.map bC) []:=by
   rcases p2.acc with⟨_,e⟩|⟨id5,_,e,_⟩
   ·have:(l.map bC).length=0:=by rw[e];rfl
    rw[bz]at this;omega
   ·exact⟨id5,e⟩
  refine bw (bO tieOk rfl ?_);simp -implicitDefEqProofs [dm,BJ,d4,bI hr5,bD,hwl]
  have bad:jh b a=true→∀fr5:Fr,fr5 2=.ptr S.objs.length 0→fr5 3=.ptr (S.objs.length+1) 0→∀Post:Wx→Fr→St→Prop,(∀S6,qI S S6→Post .ret fr5 S6)→W tie (.seq (.region vr) .ret) fr5 S5 Post:=fun ht fr5 f2 f3 Post k=>by
   rw[show vr=sU from rfl];exact storeE fr5 S5 lv hD5.grows p1 hD5.he f2 f3 Post k
  have good:jh b a=false→∀fr5:Fr,fr5 2=.ptr S.objs.length 0→fr5 3=.ptr (S.objs.length+1) 0→∀Post:Wx→Fr→St→Prop,
    (∀fr6 S6,aL S S6→S6.objs[S.objs.length]?=some [lv]→S6.objs[S.objs.length+1]?=some [.int .i64 0]→fr6 2=.ptr S.objs.length 0→fr6 3=.ptr (S.objs.length+1) 0→Post .ret fr6 S6)→W tie (.seq (.clr [(126,127)] (.region vt)) .ret) fr5 S5 Post:=fun ht fr5 f2 f3 Post k=>by
   have hs1:S5.objs.set S.objs.length [lv]=S5.objs:=by
    apply iV;intro i;rw[lM];split
    ·rename_i e;subst e;rw[p1];try simp[hn0]
    ·rfl
   have hs2:S5.objs.set (S.objs.length+1) [.int .i64 0]=S5.objs:=by
    apply iV;intro i;rw[lM];split
    ·rename_i e;subst e;rw[hD5.he];try simp[hn1]
    ·rfl
   have ho:lv.one=true∧lv.cells=[lv]:=by rw[e5];exact⟨rfl,rfl⟩
   refine pO tieOk rfl ?_;simp -implicitDefEqProofs [dm,vt,f2,f3,bI p1,bD,aG,p1,hD5.he,ak,ho.1,ho.2,hs1,hs2];exact k _ S5 hD5.grows p1 hD5.he (by simp[f2]) (by simp[f3])
  have fin:decP b=some l→∀(fr6:Fr) (S6:St),aL S S6→S6.objs[S.objs.length]?=some [lv]→S6.objs[S.objs.length+1]?=some [.int .i64 0]→fr6 2=.ptr S.objs.length 0→fr6 3=.ptr (S.objs.length+1) 0→PP .ret fr6 S6:=by
   intro hd fr6 S6 hg h0 h1 f2 f3;rw[e5]at h0;exact fin0 l id5 fr6 S6 hd hg h0 h1 f2 f3
  refine bO tieOk rfl ?_;by_cases c1:7<lf
  ·have hb1:jh b a=true:=by rw[htb];simp[c1]
   have ci:((7:Int)<(lf:Int)):=by omega
   simp -implicitDefEqProofs [dm,qE,ci,c1];refine gC (b:=true) (by simp[c1]) ?_;exact bad hb1 _ (by simp[d2]) (by simp[d3]) _ (fun S6 h6=>endN _ _ (by rw[hdp,if_pos hb1]) h6 (by simp[d2]) (by simp[d3]))
  have ci:¬((7:Int)<(lf:Int)):=by omega
  by_cases c2:0<lf
  ·have ci2:((0:Int)<(lf:Int)):=by omega
   have hbl:0<b.length:=by omega
   have hw1:IntKind.i64.wrap ((b.length:Int)-1)=((b.length-1:Nat):Int):=by rw[au]<;>omega
   have hw8:IntKind.i64.wrap (8-(lf:Int))=((8-lf:Nat):Int):=by rw[au]<;>omega
   have hti:=Zl hv hbl;have hsh:∀l:IntKind,arith .shl (.int .u8 (((b.getD (b.length-1) 0).toNat:Nat):Int)) (.int l ((8-lf:Nat):Int))=some (.int .u8 (((b.getD (b.length-1) 0).toNat*2^(8-lf)%256:Nat):Int)):=fun l=>Zm (by omega);generalize (b.getD (b.length-1) 0).toNat=xb at hti hsh htb;obtain⟨zz,hzz⟩:∃zz:Nat,zz=xb*2^(8-lf)%256:=⟨_,rfl⟩;rw[←hzz]at hsh htb;by_cases c3:zz=0
   ·have hb1:jh b a=false:=by rw[htb];simp[c1,c2,c3]
    have cz:(((zz:Nat):Int) != 0)=false:=by rw[bne_eq_false_iff_eq];omega
    simp -implicitDefEqProofs [dm,qE,ci,ci2,c1,c2,d0,hvl,hw1,hti,bD,hw8,hsh,cz];refine gC (b:=false) (by simp[c1,c2,c3]) (mO ?_);exact good hb1 _ (by simp[d2]) (by simp[d3]) _ (fun fr6 S6=>fin (by rw[hdp,hb1];rfl) fr6 S6)
   ·have hb1:jh b a=true:=by rw[htb];simp[c1,c2,c3]
    have cz:(((zz:Nat):Int) != 0)=true:=by rw[bne_iff_ne];omega
    simp -implicitDefEqProofs [dm,qE,ci,ci2,c1,c2,d0,hvl,hw1,hti,bD,hw8,hsh,cz];refine gC (b:=true) (by simp[c1,c2,c3]) ?_;exact bad hb1 _ (by simp[d2]) (by simp[d3]) _ (fun S6 h6=>endN _ _ (by rw[hdp,if_pos hb1]) h6 (by simp[d2]) (by simp[d3]))
  ·have hb1:jh b a=false:=by rw[htb];simp[c1,c2]
   have ci2:¬((0:Int)<(lf:Int)):=by omega
   simp -implicitDefEqProofs [dm,qE,ci,ci2,c1,c2];refine gC (b:=false) (by simp[c1,c2]) (mO ?_);exact good hb1 _ (by simp[d2]) (by simp[d3]) _ (fun fr6 S6=>fin (by rw[hdp,hb1];rfl) fr6 S6)
 have endN:∀(fr3:Fr) (S3:St),decP b=none→qI S S3→fr3 2=.ptr S.objs.length 0→fr3 3=.ptr (S.objs.length+1) 0 →
   ∃S4 vs,lL tie pt [.ptr S.objs.length 0,.ptr (S.objs.length+1) 0] .nili S3 S4∧cF fr3 S4 km.results=some vs∧(Rs.ret (aW km.raw S S4 (bb vs)).1 (aW km.raw S S4 (bb vs)).2=.ret (ji b) S):=by
  intro fr3 S3 hn hE f2 f3;obtain⟨S4,vs,k1,k2,k3⟩:=RF hE.grows hE.hl hE.he f2 f3 rfl;refine⟨S4,vs,k1,k2,?_⟩;show Rs.ret (aW false S S4 (bb vs)).1 (aW false S S4 (bb vs)).2=_;rw[k3,ji,hn];rfl
 have endP:∀(fr3:Fr) (S3:St),decP b=none→oU S S3→fr3 2=.ptr S.objs.length 0→fr3 3=.ptr (S.objs.length+1) 0 →
   ∃S4 vs,lL tie pt [.ptr S.objs.length 0,.ptr (S.objs.length+1) 0] fm S3 S4∧cF fr3 S4 km.results=some vs∧(Rs.ret (aW km.raw S S4 (bb vs)).1 (aW km.raw S S4 (bb vs)).2=.ret (ji b) S):=by
  intro fr3 S3 hn hP f2 f3;obtain⟨S4,vs,k1,k2,k3⟩:=Zk hP f2 f3;refine⟨S4,vs,k1,k2,?_⟩;show Rs.ret (aW false S S4 (bb vs)).1 (aW false S S4 (bb vs)).2=_;rw[k3,ji,hn]
 refine main _ endN endP ?_;intro l id fr6 S6 hd hg h0 h1 f2 f3;obtain⟨S4,vs,k1,k2,k3⟩:=RF hg h0 h1 f2 f3 (by simp[PV.free,PV.freeL,pk]);refine⟨S4,vs,k1,k2,?_⟩;show Rs.ret (aW false S S4 (bb vs)).1 (aW false S S4 (bb vs)).2=_;rw[k3,ji,hd];simp[PV.frz,PV.frzL,oC]
end Ps
