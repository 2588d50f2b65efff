/- The document's comparing of sets, samples and series. -/
import Derived.Test.YtpjmpaidcidjgaaGreatDoorDefsKb
import Derived.Test.YtpjmpaidcidjgaaGreatDoorEEKb
import Derived.Test.YtpjmpaidcidjgaaGreatDoorEOKb
import Derived.Test.YtpjmpaidcidjgaaGreatDoorCXKb
import Derived.Test.YtpjmpaidcidjgaaGreatDoorSimVKb
import Derived.KernelRfl
set_option linter.defProp false
namespace Ps
set_option linter.unusedSimpArgs false
set_option linter.unusedVariables false
open Go
def aBg(a:Nat)(w:List UInt8):∀(n k acc:Nat),k≤8→n<128^(9-k)→(k=0∨n≠0)→fD a (aj n++w) k acc=(acc+n*128^k,a+k+(aj n).length,0):=by
 intro n
 induction n using Nat.strongRecOn with
 |_ n ih=>
  intro k acc hk hn h0;by_cases h:n<128
  ·have hu:aj n=[UInt8.ofNat n]:=by rw[aj,if_pos h]
   have hd:(UInt8.ofNat n).toNat=n:=by simp;omega
   rw[hu];simp only[iH,mT,fD,hd,bL,cW];rw[if_neg (by omega),if_pos h,iy h]
  ·have hu:aj n=UInt8.ofNat (n%128+128)::aj (n/128):=by rw[aj,if_neg h]
   have hd:(UInt8.ofNat (n%128+128)).toNat=n%128+128:=by simp;omega
   have hk7:k≤7:=by
    rcases iw k 8 with q|q
    ·omega
    ·have:k=8:=by omega
     subst this;simp at hn;omega
   have hn':n/128<128^(9-(k+1)):=by
    rw[nr (by decide),←uW,show(9-(k+1)).succ=9-k by omega];exact hn
   have hr:=ih (n/128) (by omega) (k+1) (acc+n%128*128^k) (by omega) hn' (.inr (by omega));rw[hu];simp only[iH,fD,hd,bL];rw[if_neg (by omega),if_neg (by omega),show(n%128+128)%128=n%128 by omega,hr]
   have e:acc+n%128*128^k+n/128*128^(k+1)=acc+n*128^k:=by
    rw[Es,nu (128^k) 128,←Nat.mul_assoc,dk,←dl]
    congr 2
    omega
   rw[e]
   congr 2
   omega
def Rl{p w:List UInt8}{n:Nat}(h:n<9223372036854775808):dJ (p++(aj n++w)) (p.length:Int)=(n,p.length+(aj n).length,0):=by
 unfold dJ;rw[if_neg (by simp;omega)];have e:(p++(aj n++w)).drop ((p.length:Int).toNat)=aj n++w:=by simp
 rw[e,aBg _ w n 0 0 (by omega) (by simpa using h) (.inl rfl)];simp
def aBh{p w t:List UInt8}(h:t.length≤65535):jC (p++(cQ t++w)) (p.length:Int)=(t,p.length+(cQ t).length,0):=by
 have hu:=Rl (p:=p) (w:=t++w) (n:=t.length) (by omega);have e:p++(cQ t++w)=p++(aj t.length++(t++w)):=by simp[cQ]
 have hl:(cQ t).length=(aj t.length).length+t.length:=by simp[cQ]
 unfold jC;rw[e,hu];simp only;rw[if_neg (by decide),if_neg (by omega),if_neg (by simp only[am];omega)];have e2:p++(aj t.length++(t++w))=(p++aj t.length)++(t++w):=by simp
 rw[e2,show p.length+(aj t.length).length=(p++aj t.length).length by simp,EP,pZ];simp only[am]
 congr 2
 omega
def CR{p w:List UInt8}{n:Nat}(h:n<9223372036854775808):gy (p++(aj n++w)) p.length=some (n,p.length+(aj n).length):=by
 rw[gy,Rl h];rfl
def Rm{p w x:List UInt8}(h:x.length<9223372036854775808):fZ (p++(cE x++w)) p.length=some (x,p.length+(cE x).length):=by
 have e:p++(cE x++w)=p++(aj x.length++(x++w)):=by simp[cE]
 have e2:p++(aj x.length++(x++w))=(p++aj x.length)++(x++w):=by simp
 rw[fZ,e,CR h];simp only;rw[if_pos (by simp only[am];omega),e2,show p.length+(aj x.length).length=(p++aj x.length).length by simp,EP,pZ];simp only[cE,am,dk]
def eo(s:List Sm):List bi:=(cL s).map fun c=>(bo c,c)
def CS:Int→List (List Sm)→Prop
 |_,[]=>True
 |last,c::cs=>last<aK c 0∧(c.length=120∨cs=[])∧CS (aK c (c.length-1)) cs
def aBi{l:List Sm}{k j:Nat}:aK (l.drop k) j=aK l (k+j):=by
 unfold aK;rw[List.getD_eq_getElem?_getD,List.getD_eq_getElem?_getD,iu]
def Rn{l:List Sm}(h:fE l){i j:Nat}(hij:i<j)(hj:j<l.length):aK l i<aK l j:=by
 induction j with
 |zero=>omega
 |succ j ih=>
  have:=(h (j+1) hj).2 (by omega);have e1:aK l (j+1)=l[j+1].1:=by unfold aK;rw[List.getD_eq_getElem?_getD,List.getElem?_eq_getElem hj];rfl
  have e2:aK l j=(l[j+1-1]'(by omega)).1:=by unfold aK;rw[List.getD_eq_getElem?_getD,List.getElem?_eq_getElem (by omega)];rfl
  rw[←e1,←e2]at this;by_cases e:i=j
  ·subst e;exact this
  ·have:=ih (by omega) (by omega);omega
def aBj:∀(n:Nat) (l:List Sm),l.length=n→fE l→∀last,(l≠[]→last<aK l 0)→CS last (cL l):=by
 intro n
 induction n using Nat.strongRecOn with
 |_ n ih=>
  intro l hl hr last h0;rw[cL];split
  ·trivial
  ·rename_i hne;have hpos:0<l.length:=by cases l with|nil=>exact absurd rfl hne|cons a l=>simp
   refine⟨?_,?_,?_⟩
   ·have:=h0 hne
    rwa [wR (by omega)]
   ·by_cases hb:120<l.length
    ·exact .inl (by rw[iW];omega)
    ·refine .inr ?_;have:l.drop 120=[]:=EO (by omega);rw[this,cL,dif_pos rfl]
   ·refine ih (l.drop 120).length (by rw[kd];omega) (l.drop 120) rfl (hr.drop 120) _ (fun hd=>?_)
    have hb:120<l.length:=by
     rcases iw 120 l.length with h|h
     ·exact h
     ·exact absurd (EO h) hd
    have ht:(l.take 120).length=120:=by rw[iW];omega
    rw[ht,wR (by omega),aBi];exact Rn hr (by omega) (by omega)
theorem Ro{w:List UInt8}{n:Nat}:∀(cs:List (List Sm)) (p:List UInt8) (i:Nat) (last:Int) (acc:List bi),i+cs.length=n→(∀c∈cs,fV c=0)→CS last cs →
  iR (p++(cs.flatMap (fun c=>cE (bo c))++w)) n cs.length i p.length last acc=some (acc++cs.map (fun c=>(bo c,c)),p.length+(cs.flatMap (fun c=>cE (bo c))).length)
 | [],p,i,last,acc,_,_,_=>by simp[iR]
 |c::cs,p,i,last,acc,hi,hc,hch=>by
  obtain⟨h1,h2,h3⟩:=hch;have hcz:=hc c (by simp);have hel:=GC hcz
  have hp:fZ (p++(List.flatMap (fun c=>cE (bo c)) (c::cs)++w)) p.length=some (bo c,p.length+(cE (bo c)).length):=by
   have:=Rm (p:=p) (w:=cs.flatMap (fun c=>cE (bo c))++w) (x:=bo c) (by omega);simpa using this
  have hin:c.length=120∨i+1=n:=by
   rcases h2 with h|h
   ·exact .inl h
   ·subst h;simp at hi;exact .inr hi
  have hpo:nE (p++(List.flatMap (fun c=>cE (bo c)) (c::cs)++w)) p.length i n last=some ((bo c,c),p.length+(cE (bo c)).length):=by
   rw[nE,hp];simp only;rw[aBf hcz];simp only;rw[if_pos ⟨h1,hin⟩]
  rw[bL,iR,hpo];simp only;have ih:=Ro (w:=w) (n:=n) cs (p++cE (bo c)) (i+1) (aK c (c.length-1)) (acc++[(bo c,c)]) (by simp at hi;omega) (fun d hd=>hc d (by simp[hd])) h3;have e:p++(List.flatMap (fun c=>cE (bo c)) (c::cs)++w)=(p++cE (bo c))++(cs.flatMap (fun c=>cE (bo c))++w):=by simp
  rw[e];rw[am]at ih;rw[ih];simp[dk]
def aBk{p w:List UInt8}{s:cD}(hr:fE s.2)(h0:s.2≠[])(hl:s.2.length≤65536):gz (p++(cx s++w)) p.length=some (eo s.2,p.length+(cx s).length):=by
 have hcl:=rj s.2.length s.2 rfl;have hpos:0<s.2.length:=by cases h:s.2 with|nil=>exact absurd h h0|cons a l=>simp
 have e:p++(cx s++w)=p++(aj (cL s.2).length++((cL s.2).flatMap (fun c=>cE (bo c))++w)):=by simp[cx]
 have e2:p++(aj (cL s.2).length++((cL s.2).flatMap (fun c=>cE (bo c))++w))=(p++aj (cL s.2).length)++((cL s.2).flatMap (fun c=>cE (bo c))++w):=by simp
 rw[gz,e,CR (by omega)];simp only;rw[if_pos (by omega),e2,show p.length+(aj (cL s.2).length).length=(p++aj (cL s.2).length).length by simp]
 have ht0:(-1:Int)<aK s.2 0:=by
  have hm:=(hr 0 hpos).1;have e1:aK s.2 0=s.2[0].1:=by unfold aK;rw[List.getD_eq_getElem?_getD,List.getElem?_eq_getElem hpos];rfl
  rw[e1];simp only[eS,aJ,decide_eq_true_eq]at hm;omega
 rw[Ro (cL s.2) (p++aj (cL s.2).length) 0 (-1) [] (by omega) (vH s.2.length s.2 rfl hr) (aBj s.2.length s.2 rfl hr (-1) (fun _=>ht0))];simp[eo,cx,dk]
theorem Rp{w:List UInt8}:∀(l:List cD) (p:List UInt8) (acc:List (List bi)),(∀s∈l,fE s.2∧s.2≠[]∧s.2.length≤65536) →
  hU (p++(l.flatMap cx++w)) l.length p.length acc=some (acc++l.map (fun s=>eo s.2),p.length+(l.flatMap cx).length)
 | [],p,acc,_=>by simp[hU]
 |s::l,p,acc,h=>by
  obtain⟨h1,h2,h3⟩:=h s (by simp)
  have hs:gz (p++(List.flatMap cx (s::l)++w)) p.length=some (eo s.2,p.length+(cx s).length):=by
   have:=aBk (p:=p) (w:=l.flatMap cx++w) h1 h2 h3;simpa using this
  rw[bL,hU,hs];simp only;have ih:=Rp (w:=w) l (p++cx s) (acc++[eo s.2]) (fun x hx=>h x (by simp[hx]));have e:p++(List.flatMap cx (s::l)++w)=(p++cx s)++(l.flatMap cx++w):=by simp
  rw[e];rw[am]at ih;rw[ih];simp[dk]
end Ps
set_option linter.defProp false
namespace Ps
set_option linter.unusedSimpArgs false
set_option linter.unusedVariables false
open Go
def tK{p w:List UInt8}{n:Nat}{most:Int}(h:n<9223372036854775808)(hm:(n:Int)≤most):dt (p++(aj n++w)) p.length most=some (n,p.length+(aj n).length):=by
 rw[dt,CR h];simp only;rw[if_neg (by omega)]
def aBl{p w t:List UInt8}(h:t.length≤64):lC (p++(cQ t++w)) p.length=some (t,p.length+(cQ t).length):=by
 rw[lC,aBh (by omega)];simp only;rw[if_pos trivial,if_neg (by omega)]
theorem Rq{w:List UInt8}:∀(L:List Wd) (p:List UInt8) (acc:List Wd),(∀s∈L,s.length≤64)→jk (p++(L.flatMap cQ++w)) L.length p.length acc=some (acc++L,p.length+(L.flatMap cQ).length)
 | [],p,acc,_=>by simp[jk]
 |s::L,p,acc,h=>by
  have ht:lC (p++(List.flatMap cQ (s::L)++w)) p.length=some (s,p.length+(cQ s).length):=by
   have:=aBl (p:=p) (w:=L.flatMap cQ++w) (t:=s) (h s (by simp));simpa using this
  rw[bL,jk,ht];simp only;have ih:=Rq (w:=w) L (p++cQ s) (acc++[s]) (fun x hx=>h x (by simp[hx]));have e:p++(List.flatMap cQ (s::L)++w)=(p++cQ s)++(L.flatMap cQ++w):=by simp
  rw[e];rw[am]at ih;rw[ih];simp[dk]
def CT{ls:List (List aQ)}{s:Wd}(h:s∈dv ls):eG ls s<(bM ls).length:=VH (po.2 h)
def Rr{ls:List (List aQ)}{s:Wd}(h:s∈dv ls):(bM ls).getD (eG ls s) []=s:=by
 have:=CT h;rw[List.getD_eq_getElem?_getD,List.getElem?_eq_getElem this];exact List.getElem_idxOf this
def aBm{ls:List (List aQ)}{l:List aQ}(hl:l∈ls){x:aQ}(hx:x∈l):x.1∈dv ls∧x.2.1∈dv ls:=
 ⟨List.mem_flatMap.2 ⟨l,hl,List.mem_flatMap.2 ⟨x,hx,by simp⟩⟩,List.mem_flatMap.2 ⟨l,hl,List.mem_flatMap.2 ⟨x,hx,by simp⟩⟩⟩
def aBn{ls:List (List aQ)}(hx:gQ ls){x:aQ}(h1:x.1∈dv ls)(h2:x.2.1∈dv ls){p w:List UInt8}:nF (p++(dw ls x++w)) (bM ls) p.length=some (x,p.length+(dw ls x).length):=by
 have hl:=mi hx;have a1:=CT h1;have a2:=CT h2
 have u1:dt (p++(dw ls x++w)) p.length (((bM ls).length:Int)-1)=some (eG ls x.1,p.length+(aj (eG ls x.1)).length):=by
  have:=tK (p:=p) (w:=aj (eG ls x.2.1)++w) (n:=eG ls x.1) (most:=((bM ls).length:Int)-1) (by omega) (by omega);simpa[dw]using this
 have u2:dt (p++(dw ls x++w)) (p.length+(aj (eG ls x.1)).length) (((bM ls).length:Int)-1)=some (eG ls x.2.1,p.length+(aj (eG ls x.1)).length+(aj (eG ls x.2.1)).length):=by
  have:=tK (p:=p++aj (eG ls x.1)) (w:=w) (n:=eG ls x.2.1) (most:=((bM ls).length:Int)-1) (by omega) (by omega);simpa[dw]using this
 rw[nF,u1];simp only;rw[u2];simp only;rw[Rr h1,Rr h2];obtain⟨a,b,⟨⟩⟩:=x;simp[dw,dk]
theorem Rt{ls:List (List aQ)}(hx:gQ ls){w:List UInt8}:∀(l:List aQ) (p:List UInt8) (acc:List aQ),(∀x∈l,x.1∈dv ls∧x.2.1∈dv ls)→jK (p++(l.flatMap (dw ls)++w)) (bM ls) l.length p.length acc=some (acc++l,p.length+(l.flatMap (dw ls)).length)
 | [],p,acc,_=>by simp[jK]
 |x::l,p,acc,h=>by
  have ht:nF (p++(List.flatMap (dw ls) (x::l)++w)) (bM ls) p.length=some (x,p.length+(dw ls x).length):=by
   have:=aBn hx (h x (by simp)).1 (h x (by simp)).2 (p:=p) (w:=l.flatMap (dw ls)++w);simpa using this
  rw[bL,jK,ht];simp only;have ih:=Rt hx (w:=w) l (p++dw ls x) (acc++[x]) (fun y hy=>h y (by simp[hy]));have e:p++(List.flatMap (dw ls) (x::l)++w)=(p++dw ls x)++(l.flatMap (dw ls)++w):=by simp
  rw[e];rw[am]at ih;rw[ih];simp[dk]
theorem Ru{ls:List (List aQ)}(hx:gQ ls){w:List UInt8}:∀(m:List (List aQ)) (p:List UInt8) (acc:List (List aQ)),(∀l∈m,l∈ls)→gY (p++(m.flatMap (eH ls)++w)) (bM ls) m.length p.length acc=some (acc++m,p.length+(m.flatMap (eH ls)).length)
 | [],p,acc,_=>by simp[gY]
 |l::m,p,acc,h=>by
  have hl:=h l (by simp);have h8:=hx.set l hl
  have u1:dt (p++(List.flatMap (eH ls) (l::m)++w)) p.length 8=some (l.length,p.length+(aj l.length).length):=by
   have:=tK (p:=p) (w:=l.flatMap (dw ls)++(m.flatMap (eH ls)++w)) (n:=l.length) (most:=8) (by omega) (by omega);simpa[eH]using this
  have u2:jK (p++(List.flatMap (eH ls) (l::m)++w)) (bM ls) l.length (p.length+(aj l.length).length) []=some (l,p.length+(eH ls l).length):=by
   have:=Rt hx (w:=m.flatMap (eH ls)++w) l (p++aj l.length) [] (fun x hxm=>aBm hl hxm);rw[am]at this;simpa[eH,dk]using this
  rw[bL,gY,u1];simp only;rw[u2];simp only;have ih:=Ru hx (w:=w) m (p++eH ls l) (acc++[l]) (fun y hy=>h y (by simp[hy]));have e:p++(List.flatMap (eH ls) (l::m)++w)=(p++eH ls l)++(m.flatMap (eH ls)++w):=by simp
  rw[e];rw[am]at ih;rw[ih];simp[dk]
def aBo{ls:List (List aQ)}(hz:dZ ls=0):hJ (cU ls)=some ls:=by
 have hx:=mh hz;have hl:=mi hx;have hn:=hx.len;have hw:∀s∈bM ls,s.length≤64:=fun s hs=>vE hx (po.1 hs);have e:cU ls=aj (bM ls).length++((bM ls).flatMap cQ++(aj ls.length++(ls.flatMap (eH ls)++[]))):=by rw[vG];simp
 have u1:dt (cU ls) 0 4096=some ((bM ls).length,(aj (bM ls).length).length):=by
  rw[e];have:=tK (p:=[]) (w:=(bM ls).flatMap cQ++(aj ls.length++(ls.flatMap (eH ls)++[]))) (n:=(bM ls).length) (most:=4096) (by omega) (by omega);simpa using this
 have u2:jk (cU ls) (bM ls).length (aj (bM ls).length).length []=some (bM ls,(aj (bM ls).length++(bM ls).flatMap cQ).length):=by
  rw[e,Rq (bM ls) (aj (bM ls).length) [] hw];simp
 have u3:dt (cU ls) (aj (bM ls).length++(bM ls).flatMap cQ).length 256=some (ls.length,(aj (bM ls).length++(bM ls).flatMap cQ++aj ls.length).length):=by
  have:=tK (p:=aj (bM ls).length++(bM ls).flatMap cQ) (w:=ls.flatMap (eH ls)++[]) (n:=ls.length) (most:=256) (by omega) (by omega);rw[e];simpa[dk]using this
 have u4:gY (cU ls) (bM ls) ls.length (aj (bM ls).length++(bM ls).flatMap cQ++aj ls.length).length []=some (ls,(aj (bM ls).length++(bM ls).flatMap cQ++aj ls.length).length+(ls.flatMap (eH ls)).length):=by
  have:=Ru hx (w:=[]) ls (aj (bM ls).length++(bM ls).flatMap cQ++aj ls.length) [] (fun l h=>h);rw[e];rw[mT]at this;rw[←this];simp
 rw[hJ,u1];simp only;rw[u2];simp only;rw[u3];simp only;rw[u4];simp[hz]
end Ps
set_option linter.defProp false
namespace Ps
set_option linter.unusedSimpArgs false
set_option linter.unusedVariables false
open Go
def Rv:∀(n:Nat) (l:List Sm),l.length=n→(cL l).flatten=l:=by
 intro n
 induction n using Nat.strongRecOn with
 |_ n ih=>
  intro l hn;rw[cL];split
  ·rename_i hl;subst hl;rfl
  ·rename_i hl;have:=List.length_pos_iff.2 hl;rw[List.flatten_cons,ih (l.drop 120).length (by rw[kd];omega) (l.drop 120) rfl,ke]
def aBp(s:List Sm):jL (eo s)=s.length:=by
 have:=congrArg List.length (Rv s.length s rfl);rw[List.length_flatten]at this;rw[←this,jL,eo,pT];rfl
def aBq(l:List cD):fa (l.map fun s=>eo s.2)=cu l:=by
 rw[fa,cu,pT]
 congr 1
 exact mS fun s _=>aBp s.2
def aBr{low high:Int}{c:List Sm}(h:oF c):oZ low high (bo c,c)=c.filter (dQ low high):=by
 unfold oZ;split
 ·rename_i hout
  symm
  rw[nl];intro x hx;obtain⟨i,hi,rfl⟩:=dz hx
  have hne:∀a b,a≤b→b<c.length→aK c a≤aK c b:=by
   intro a b hab hb
   induction b with
   |zero=>
    have:a=0:=by omega
    subst this;exact Int.le_refl _
   |succ b ih=>
    by_cases e:a=b+1
    ·subst e;exact Int.le_refl _
    ·have:=ih (by omega) (by omega);have:=h.rise b hb;omega
  have e1:aK c i=c[i].1:=by unfold aK;rw[List.getD_eq_getElem?_getD,List.getElem?_eq_getElem hi];rfl
  have l1:=hne 0 i (by omega) hi;have l2:=hne i (c.length-1) (by omega) (by omega);simp only[dQ,aJ,decide_eq_true_eq];rw[←e1];simp only at hout;omega
 ·rfl
def CU{low high:Int}{s:List Sm}(h:fE s):gJ low high (eo s)=s.filter (dQ low high):=by
 have hf:=Rv s.length s rfl;have hc:=vH s.length s rfl h;rw[gJ,eo,List.flatMap_map]
 conv=>rhs;rw[←hf,List.filter_flatten]
 rw[EW]
 congr 1
 exact mS fun c hcm=>aBr (uw (hc c hcm))
def aBs{s:List Sm}(h:fE s):gJ 0 1099511627776 (eo s)=s:=by
 rw[CU h,kc];intro x hx;obtain⟨i,hi,rfl⟩:=dz hx;have hm:=(h i hi).1;simp only[eS,aJ,decide_eq_true_eq]at hm;simp only[dQ,aJ,decide_eq_true_eq];omega
def Rw{l:List cD}(h:∀s∈l,fE s.2):cG (l.map (·.1)) (l.map fun s=>eo s.2)=l:=by
 unfold cG;rw[List.zip_map',pT]
 conv=>rhs;rw[←rP l]
 exact mS fun s hs=>by
  simp only[Function.comp];rw[aBs (h s hs)];rfl
def qP(l:List cD):(cn l).length=(cX l).length+4:=by rw[cn,am];rfl
def Rx(l:List cD):(cn l).take ((cn l).length-4)=cX l:=by
 rw[qP,nq,cn,pZ]
def aBt(l:List cD):qL (cn l)=true:=by
 have h1:4≤(cX l).length:=by simp[cX,ec]
 have h2:(cn l).take 4=ec:=by
  rw[cn,cX];rfl
 have h3:(cn l).drop ((cn l).length-4)=gG (cX l):=by
  rw[qP,nq,cn,EP]
 rw[qL,Rx,h2,h3,qP];simp;omega
def CV{l:List cD}(hz:dT l=0):fb (cn l)=some (l.map (·.1),l.map fun s=>eo s.2):=by
 have hk:=kE hz;have hxo:=mh hk.ix;have hil:=yg hxo;have hb:cX l=ec++(cE (cU (l.map (·.1)))++(l.flatMap cx++[])):=by rw[cX];simp
 have hp:fZ (cX l) 4=some (cU (l.map (·.1)),(ec++cE (cU (l.map (·.1)))).length):=by
  have:=Rm (p:=ec) (w:=l.flatMap cx++[]) (x:=cU (l.map (·.1))) (by omega);rw[←hb]at this;have h4:ec.length=4:=rfl;rw[h4]at this;rw[this,am,h4]
 have hr:∀s∈l,fE s.2:=fun s hs=>(hk.ser s hs).2
 have hlen:∀s∈l,s.2.length≤65536:=fun s hs=>by
  have h1:=hk.sum;have:s.2.length≤cu l:=pn (List.mem_map.2 ⟨s,hs,rfl⟩);omega
 have hs:hU (cX l) (l.map (·.1)).length (ec++cE (cU (l.map (·.1)))).length []=some (l.map (fun s=>eo s.2),(cX l).length):=by
  have:=Rp (w:=[]) l (ec++cE (cU (l.map (·.1)))) [] (fun s hs=>⟨hr s hs,(hk.ser s hs).1,hlen s hs⟩);rw[bz];have e:ec++cE (cU (l.map (·.1)))++(l.flatMap cx++[])=cX l:=by rw[cX];simp
  rw[e]at this;rw[this];simp[cX,dk]
 have hsh:kL (cG (l.map (·.1)) (l.map fun s=>eo s.2)) (cX l)=true:=by
  rw[Rw hr,kL];simp[hz]
 have hc:fa (l.map fun s=>eo s.2)≤65536:=by rw[aBq];exact hk.sum
 rw[fb,if_pos (aBt l),Rx,hp];simp only;rw[aBo hk.ix];simp only;rw[hs];simp only;rw[if_pos ⟨by rw[qP];omega,hc,hsh⟩]
def aBu{b:List UInt8}{ls:List (List aQ)}{pss:List (List bi)}(h:fb b=some (ls,pss)):dT (cG ls pss)=0∧cn (cG ls pss)=b:=by
 unfold fb at h;split at h
 ·rename_i hh;split at h
  ·split at h
   ·split at h
    ·split at h
     ·rename_i hq;simp only[ap,bc]at h;obtain⟨rfl,rfl⟩:=h;obtain⟨_,_,hs⟩:=hq;simp only[kL,aJ,decide_eq_true_eq]at hs;refine⟨hs.1,?_⟩;simp only[qL,aJ,decide_eq_true_eq]at hh;rw[cn,hs.2,←hh.2,ke]
     ·cases h
    ·cases h
   ·cases h
  ·cases h
 ·cases h
end Ps
namespace Ps
open Go Go.Proofs
def GJ:List aA:=[M 15 1]++(Q 16 (.wc [] (.cst (.fn 66 [])) [(V 15)])::[M 14 16,EX 17 0 14,EX 18 1 14,M 3 17,M 4 18])
def GK:List aA:=[]++(Q 20 (.wc [] (.cst (.fn 66 [])) [(.cst .nils)])::[M 19 20,EX 21 0 19,EX 22 1 19,M 5 21,M 6 22])
def GL:List aA:=[M 42 1,Q 43 (.toStr (V 42)),Q 44 (.call .pur 156 []),Q 45 (.call .pur 152 [(V 44)]),Q 46 (.toStr (V 45)),Q 47 (.arith .eql (V 43) (V 46)),M 48 47,QG (some 49) (.mov (V 1)) 48 true,QG (some 50) (.len false (V 49)) 48 true,QG (some 51) (.arith .eql (V 50) (I 24)) 48 true,Q 52 (.pick (V 48) (V 51) bR),M 53 52,QG (some 54) (.mov (V 7)) 53 true,QG (some 55) (.len false (V 54)) 53 true,QG (some 56) (.arith .eql (V 55) (I 1)) 53 true,Q 57 (.pick (V 53) (V 56) bR),M 58 57,QG (some 59) (.mov (V 7)) 58 true,QG (some 60) (.iaddr 2 (V 59) (I 0)) 58 true,QG (some 61) (.load true 2 true (V 60)) 58 true,QG (some 62) (.build [(.int .i64 0),(.int .i64 0)] [(0,1,(I 10)),(1,1,(I 5))]) 58 true,QG (some 63) (.eqs false 2 (V 61) (V 62)) 58 true,Q 64 (.pick (V 58) (V 63) bR),M 65 64,QG (some 66) (.mov (V 8)) 65 true,QG (some 67) (.arith .eql (V 66) (I 0)) 65 true,Q 68 (.pick (V 65) (V 67) bR),M 69 68,Q 70 (.pick (V 69) ck bR),M 0 70]
def rl:aX:=
 ⟨0,[.tmp 0],
 (.seq (.region zj) (.seq (.clr [(9,14)] (.region zk)) (.seq (.clr [(14,19)] (.region GJ)) (.seq (.clr [(5,6),(19,23)] (.region GK)) (.seq (.seq (.clr [(23,36)] (.region zl)) (.cond (V 36) (.seq (.region IK) .ret) .skip)) (.seq (.clr [(37,42)] (.region zm)) (.seq (.clr [(42,71)] (.region GL)) .ret))))))),false⟩
def GM:List aA:=[M 14 1]++(Q 15 (.wc [] (.cst (.fn 66 [])) [(V 14)])::[M 13 15,EX 16 0 13,EX 17 1 13,M 5 16,M 6 17])
def yl:List aA:=[M 42 0,Q 43 (.call .std 64 [(V 42)]),M 44 10,Q 45 (.arith .eql (V 43) (V 44)),M 46 45,QG (some 47) (.mov (V 9)) 46 true,QG (some 48) (.len false (V 47)) 46 true,QG (some 49) (.arith .eql (V 48) (I 0)) 46 true,Q 50 (.pick (V 46) (V 49) bR),M 51 50]++(QG (some 52) (.wc [] (.cst (.fn 65 [])) []) 51 true::[Q 53 (.pick (V 51) (V 52) bR),M 4 53])
def ym:List aA:=[M 55 9]++(Q 56 (.wc [] (.cst (.fn 66 [])) [(V 55)])::[M 54 56,EX 57 0 54,EX 58 1 54,M 11 57,M 12 58])
def yn:List aA:=[M 59 12,Q 60 (.arith .eql (V 59) (I 0)),M 61 60,QG (some 62) (.mov (V 11)) 61 true,QG (some 63) (.eqn true .p (V 62)) 61 true,Q 64 (.pick (V 61) (V 63) bR),M 65 64,QG (some 66) (.mov (V 11)) 65 true,QG (some 67) (.call .std 171 [(V 66)]) 65 true,QG (some 68) (.mov (V 0)) 65 true,QG (some 69) (.call .std 170 [(V 67),(V 68)]) 65 true,Q 70 (.pick (V 65) (V 69) bR),M 71 70]++(QG (some 72) (.wc [] (.cst (.fn 65 [])) []) 71 true::[Q 73 (.pick (V 71) (V 72) bR),M 4 73])
def rn:aX:=
 ⟨2,[.tmp 4],
 (.seq (.region zQ) (.seq (.seq (.clr [(13,18)] (.region GM)) (.seq (.clr [(18,19)] (.region vR)) (.cond (V 19) (.seq (.clr [(20,26)] (.region zR)) (.seq (.clr [(26,34)] (.region zS)) (.cond (V 34) (.seq (.region HT) .ret) .skip))) .skip))) (.seq (.clr [(35,40)] (.region sI)) (.seq (.seq (.clr [(40,41)] (.region sJ)) (.cond (V 41) (.seq (.clr [(42,54)] (.region yl)) .ret) .skip)) (.seq (.clr [(54,59)] (.region ym)) (.seq (.clr [(59,74)] (.region yn)) .ret)))))),false⟩
def yo:List aA:=[]++(Q 44 (.wc [] (.cst (.fn 65 [])) [])::[M 10 44])
def GN:List aA:=[M 46 11]++(Q 47 (.wc [] (.cst (.fn 66 [])) [(V 46)])::[M 45 47,EX 48 0 45,EX 49 1 45,M 13 48,M 14 49])
def GO:List aA:=[M 88 17,Q 89 (.arith .eql (V 88) (I 0)),M 90 89,QG (some 91) (.mov (V 19)) 90 true,QG (some 92) (.arith .eql (V 91) (I 0)) 90 true,Q 93 (.pick (V 90) (V 92) bR),M 94 93,QG (some 95) (.mov (V 21)) 94 true,QG (some 96) (.arith .eql (V 95) (I 0)) 94 true,Q 97 (.pick (V 94) (V 96) bR),M 98 97,QG (some 99) (.bsl false (.agg [(.int .i64 0),(.int .i64 0)]) 0 []) 98 true,QG (some 100) (.mov (V 16)) 98 true,QG (some 101) (.app 2 16 (V 99) (V 100)) 98 true,QG (some 102) (.mov (V 18)) 98 true,QG (some 103) (.app 2 16 (V 101) (V 102)) 98 true,QG (some 104) (.mov (V 20)) 98 true,QG (some 105) (.call .std 177 [(V 103),(V 104)]) 98 true,Q 106 (.pick (V 98) (V 105) bR),M 107 106]++(QG (some 108) (.wc [] (.cst (.fn 65 [])) []) 107 true::[Q 109 (.pick (V 107) (V 108) bR),M 10 109])
def rp:aX:=
 ⟨5,[.tmp 10],
 (.seq (.region vT) (.seq (.clr [(22,27)] (.region sK)) (.seq (.seq (.clr [(27,43)] (.region mr)) (.cond (V 43) (.seq (.clr [(44,45)] (.region yo)) .ret) .skip)) (.seq (.clr [(45,50)] (.region GN)) (.seq (.seq (.clr [(50,55)] (.region vU)) (.cond (V 55) (.seq (.region zT) .ret) .skip)) (.seq (.clr [(56,63)] (.region vV)) (.seq (.clr [(63,71)] (.region vW)) (.seq (.clr [(71,80)] (.region vX)) (.seq (.clr [(80,88)] (.region vY)) (.seq (.clr [(88,110)] (.region GO)) .ret)))))))))),false⟩
end Ps
set_option linter.defProp false
namespace Ps
open Go Go.Proofs
def func65:tie.P.funcs[tie.fnOf 65]?=some Tryz.f13:=Tryz.func13
def Yv:fH tie Tryz.f13 rl=true:=by kernel_rfl
def Yw:tie.P.funcs[tie.fnOf 456]?=some Tryz.f4:=Tryz.func4
def Yx:fH tie Tryz.f4 rn=true:=by kernel_rfl
def Yy:tie.P.funcs[tie.fnOf 457]?=some Tryz.f6:=Tryz.func6
def Yz:fH tie Tryz.f6 rp=true:=by kernel_rfl
end Ps
set_option linter.defProp false
namespace Ps
set_option linter.unusedSimpArgs false
set_option linter.unusedVariables false
open Go Go.Proofs
set_option maxRecDepth 100000
def fx:List cD:=[([([97],[120],())],[(10,5)])]
def nG:List UInt8:=[71,66,75,49,9,2,1,97,1,120,1,1,0,1,1,4,3,9,65,40,154,15,65,129]
def lu:PV:=.sl none [.agg [.sl none [.agg [.str [97],.str [120]]] [],.sl none [.agg [.int .i64 10,.int .i64 5]] []]] []
def aBv:bV T 50 156 [] cS=some (lu,cS):=by kernel_rfl
def aBw:bV T 3000 152 [lu] cS=some (.sl none (aI nG) [],cS):=by kernel_rfl
def aBx:bM (fx.map (·.1))=[[97],[120]]:=by
 have hw:iO (dv (fx.map (·.1)))=[[97],[120]]:=by kernel_rfl
 rw[bM,hw];exact List.mergeSort_of_pairwise (by simp[leB];decide)
def aBy:cU (fx.map (·.1))=[2,1,97,1,120,1,1,0,1]:=by
 unfold cU eG;rw[aBx]
 kernel_rfl
def aBz:cX fx=[71,66,75,49,9,2,1,97,1,120,1,1,0,1,1,4,3,9,65,40]:=by
 unfold cX;rw[aBy]
 kernel_rfl
def Ry:cn fx=nG:=by
 unfold cn;rw[aBz]
 kernel_rfl
def CW:dT fx=0:=by kernel_rfl
def aBA:iK lu fx:=by
 refine⟨[.agg [.sl none [.agg [.str [97],.str [120]]] [],.sl none [.agg [.int .i64 10,.int .i64 5]] []]],⟨.inr ⟨[],rfl,by simp,rfl,rfl⟩,by simp,rfl,rfl⟩,rfl,fun i h h'=>?_⟩;have hi:i=0:=by simp[fx]at h;exact h
 subst hi;exact⟨_,_,rfl,od (by simp[fx]) rfl rfl,od (by simp[fx]) rfl rfl⟩
def Rz:fc T2 156 []=some lu:=pP (fv (tQ 50 aBv)) rfl
def aBB:fc T2 152 [lu]=some (.sl none (aI nG) []):=pP (fv (tQ 3000 aBw)) rfl
def CX{X:Tie}{d:Option Nat}{ks:List Nat}{x:aH}{args:List aH}{l:List aA}{fr:Fr}{S:St}{Q:Wo→Prop}{f:Nat}{aq:List PV}{R:Rs→Prop}{t:Nat}{b:Bool}(ht:fr t=.bool b)
  (hf:b=false→cT X l (aP fr d (.tup [])) S Q)
  (hc:dG fr x args=some (f,aq))(hs:dc X f aq S R)
  (hr:b=true→∀v S',R (.ret v S')→rH fr ks S S'∧cT X l (aP fr d v) S' Q)(hp:b=true→∀v S',R (.pan v S')→Q (.pan v S')):cT X (⟨d,.wc ks x args,some (t,true)⟩::l) fr S Q:=by
 cases b with
 |true=>
  simp only[cT,bu,ht]
  exact⟨f,aq,R,hc,hs,hr rfl,hp rfl⟩
 |false=>
  simp only[cT,bu,ht];exact hf rfl
def aBC:tie2.P.funcs[tie2.fnOf 65]?=some Tryz.f13:=func65
def aBD:fH tie2 Tryz.f13 rl=true:=(oX _ _).trans Yv
def aBE:lu.free=true:=rfl
def aBF:lu.frz=lu:=rfl
def SB:fb []=none:=by rw[fb,if_neg (by decide)]
def wS(S:St):dc tie2 65 [] S (fun q=>q=.ret (.bool true) S):=by
 have hw:∀S,aN T2 155 [lu] S=some (.tup [.sl none (aI nG) [],.int .i64 0],S):=fun S=>by
  have:=lm (yi aBA (fun s hs=>by
   simp only[fx,jW]at hs;subst hs;refine⟨⟨by simp[maxLen],fun x hx=>?_⟩,by simp⟩;simp only[jW]at hx;subst hx;simp[maxLen]) CW S)
  rw[Ry]at this;exact this
 have hob:fb nG=some (fx.map (·.1),fx.map fun s=>eo s.2):=by rw[←Ry];exact CV CW
 have hr1:fE [((10:Int),(5:Int))]:=(kE CW).ser ([([97],[120],())],[(10,5)]) (by simp[fx]) |>.2
 obtain⟨bv,hbv⟩:∃bv,bv=PV.sl none (aI nG) []:=⟨_,rfl⟩;have hbs:ay 1 bv (aI nG):=by rw[hbv];exact lV _
 rw[←hbv]at hw;have t1:eX bv=some (.str nG):=kC hbs.isl;have hbl:=hbs.len;rw[bh]at hbl;have hbl:eN false bv=some (.int .i64 24):=hbl;have pr:=aBB;rw[←hbv]at pr
 have main:∀PP:Wx→Fr→St→Prop,(∀fr S',aL S S'→fr 0=.bool true→PP .ret fr S')→W tie2 rl.body (bk []) S PP:=by
  intro PP k1;unfold rl;simp only;refine bO tieOk2 rfl ?_;simp -implicitDefEqProofs [aZ,zj];refine bO tieOk2 rfl ?_;simp -implicitDefEqProofs [aZ,zk,Rz,dF,hw];refine bw (dC (dB tieOk2 ?_));unfold GJ;refine cw rfl ?_;simp -implicitDefEqProofs [aZ];refine ez (by simp[dG]) (tJ hbs (by decide)) ?_ ?_
  rotate_left
  ·intro u S1 hq;rw[hob]at hq;obtain⟨xb,S',e,_⟩:=hq;cases e
  intro u S1 hq;refine⟨fun q hq=>(by cases hq),?_⟩;rw[hob]at hq;obtain⟨xb,S1',e,hg1,hblk⟩:=hq;cases e;refine eL rfl ?_;simp -implicitDefEqProofs [aZ];refine bw (dC (dB tieOk2 ?_));unfold GK;refine cw rfl ?_;simp -implicitDefEqProofs [aZ];refine ez (by simp[dG]) (tJ (b:=[]) (jn 1) (by decide)) ?_ ?_
  rotate_left
  ·intro u S2 hq;rw[SB]at hq;cases hq
  intro u S2 hq;refine⟨fun q hq=>(by cases hq),?_⟩;rw[SB]at hq;cases hq;refine eL rfl ?_;simp -implicitDefEqProofs [aZ];refine fT tieOk2 rfl ?_;simp -implicitDefEqProofs [aZ,zl,lr];obtain⟨sv,s1,s2⟩:=tI hblk (i:=0) (by simp[fx]) (by simp[fx]) (by simp only[fx,cb,List.getElem_cons_zero];rw[eo,bz,rj 1 _ rfl];decide) (low:=10) (high:=10);have s1:aN T2 157 [.ptr xb 0,.int .i64 0,.int .i64 10,.int .i64 10] S1=some (.tup [sv,.int .i64 0],S1):=s1
  have hsel:gJ 10 10 ((fx.map fun s=>eo s.2)[0]'(by simp[fx]))=[(10,5)]:=by
   simp only[fx,cb,List.getElem_cons_zero];rw[CU hr1];rfl
  rw[hsel]at s2;have hsl:=s2.len;have hsl:eN false sv=some (.int .i64 1):=hsl;have hsg:=s2.reads.get 0 (by simp) .i64;have hsg:ca 2 sv (.int .i64 0)=some (.ref [.int .i64 10,.int .i64 5]):=hsg;refine bO tieOk2 rfl ?_;simp -implicitDefEqProofs [aZ,zm,s1];refine pO tieOk2 rfl ?_;simp -implicitDefEqProofs [aZ,GL,t1,Rz,pr,dF,hbl,hsl,hsg,fN,aR,dx,ak,eJ,fu,aBE,aBF];exact k1 _ S1 hg1 (by simp)
 refine jy tieOk2 aBC aBD rfl (main _ (fun fr S' hg f0=>⟨[fr 0],rfl,?_⟩));rw[f0];have hf:aW false S S' (.bool true)=(.bool true,S):=aCw hg;simp only[bb,rl,hf]
end Ps
set_option linter.defProp false
namespace Ps
set_option linter.unusedSimpArgs false
set_option linter.unusedVariables false
open Go Go.Proofs
set_option maxRecDepth 100000
def aBG:T.fn 177=some (.code z63):=rfl
def SC{l:List Sm}{v1 v2:PV}(hv1:cM 2 v1 (l.map bC))(hv2:cM 2 v2 (l.map bC))(hl:l.length≤4000000000)(S:St):aN T 177 [v1,v2] S=some (.bool true,S):=by
 have n1:=hv1.len;have n2:=hv2.len;rw[bz]at n1 n2;refine bZ aBG rfl ?_;simp -implicitDefEqProofs [z63,n1,n2];refine jm l.length (fun i fr S'=>fr 0=v1∧fr 1=v2∧fr 5=.int .i64 (i:Int)∧S'=S) ?_ ?_ 0 (by omega) _ _ ⟨by simp,by simp,by simp,rfl⟩
 ·rintro i fr S' hi ⟨f0,f1,f5,rfl⟩ k;have hii:(i:Int)<(l.length:Int):=by omega
  have g1:=hv1.get i (by simpa using hi) .i64;have g2:=hv2.get i (by simpa using hi) .i64;have hx:((l.map bC)[i]'(by simpa using hi)).cells=[.int .i64 l[i].1,.int .i64 l[i].2]:=by simp
  rw[hx]at g1 g2;have hw1:IntKind.i64.wrap ((i:Int)+1)=((i+1:Nat):Int):=by rw[au]<;>omega
  generalize l[i].1=t at g1 g2;generalize l[i].2=u at g1 g2;rw[ax];simp -implicitDefEqProofs [f0,f1,f5,n1,n2,hi,hii,g1,g2,fN,eJ,fu,hw1];exact k _ _ ⟨by simp[f0],by simp[f1],by simp,rfl⟩
 ·rintro fr S' ⟨f0,f1,f5,rfl⟩;rw[ax];simp -implicitDefEqProofs [f0,f1,f5,n1,n2]
def aBH:∀l:List aQ,dp l l=0:=fun l=>Ep.2 rfl
def aBI:T.fn 170=some (.code sL):=rfl
def aBJ{l:List cD}{v1 v2:PV}(hv1:iK v1 l)(hv2:iK v2 l)(hl:l.length≤4000000000)(hs:∀s∈l,s.1.length≤maxLen∧s.2.length≤4000000000)(S:St):aN T 170 [v1,v2] S=some (.bool true,S):=by
 obtain⟨e1,a1,a2,a3⟩:=hv1;obtain⟨e2,b1,b2,b3⟩:=hv2;have n1:=a1.len;have n2:=b1.len;rw[a2]at n1;rw[b2]at n2;refine bZ aBI rfl ?_;simp -implicitDefEqProofs [sL,n1,n2];refine jm l.length (fun i fr S'=>fr 0=v1∧fr 1=v2∧fr 5=.int .i64 (i:Int)∧S'=S) ?_ ?_ 0 (by omega) _ _ ⟨by simp,by simp,by simp,rfl⟩
 ·rintro i fr S' hi ⟨f0,f1,f5,rfl⟩ k;have hii:(i:Int)<(l.length:Int):=by omega
  have g1:=a1.reads.get i (by omega) .i64;have g2:=b1.reads.get i (by omega) .i64;obtain⟨lv1,sv1,c1,c2,c3⟩:=a3 i hi (by omega);obtain⟨lv2,sv2,d1,d2,d3⟩:=b3 i hi (by omega);rw[c1]at g1;rw[d1]at g2;have hw1:IntKind.i64.wrap ((i:Int)+1)=((i+1:Nat):Int):=by rw[au]<;>omega
  obtain⟨h1,h2⟩:=hs l[i] (List.getElem_mem hi);have s1:=Vg c2.reads d2.reads h1 S';rw[aBH]at s1;have s1:aN T 26 [lv1,lv2] S'=some (.bool true,S'):=s1;have s2:=SC c3.reads d3.reads h2 S';rw[ax];simp -implicitDefEqProofs [f0,f1,f5,n1,n2,hi,hii,g1,g2,bD,s1,s2,hw1];exact k _ _ ⟨by simp[f0],by simp[f1],by simp,rfl⟩
 ·rintro fr S' ⟨f0,f1,f5,rfl⟩;rw[ax];simp -implicitDefEqProofs [f0,f1,f5,n1,n2]
end Ps
