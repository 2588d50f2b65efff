/- The disk in plain words and the document's: what a change does to both. -/
import Derived.Test.YtbjefjhmnojdoaaGreatDefs
import Derived.Test.YtbjefjhmnojdoaaGreatGF
import Derived.Test.YtbjefjhmnojdoaaGreatDV
set_option linter.defProp false
namespace Ps
set_option linter.unusedSimpArgs false
set_option linter.unusedVariables false
open Go
def aCc:T.fn 89=some (.code tU):=rfl
def jd(kept:List Int)(i:Nat)(f:RF):RF:=⟨kH f.bv (fJ kept i f.b f.s.toNat),f.b.take (fJ kept i f.b f.s.toNat),(fJ kept i f.b f.s.toNat:Nat)⟩
def gL(kept:List Int):Nat→List RE→List RF→List RF
 |_,[],fs=>fs
 |i,e::l,fs=>gL kept (i+1) l (fs.modify e.2.toNat (jd kept i))
def hI(R:RD)(dirs:Int):Nat:=(IntKind.u64.wrap dirs).toNat%(R.wait.length+1)
def lU(R:RD)(dirs:Int)(kept:List Int)(lv:PV):RD:=
  { R with files:=gL kept 0 (dirL R.base (R.wait.take (hI R dirs))) R.files
           fv:=.sl none ((gL kept 0 (dirL R.base (R.wait.take (hI R dirs))) R.files).map RF.v) []
           base:=dirL R.base (R.wait.take (hI R dirs)),bv:=lv,wait:=[],wv:=.nils,left:=-1,dark:=false}
def pV(f:RF):Prop:=cC 1 f.bv (aL f.b)∧0≤f.s∧f.s≤f.b.length∧f.b.length≤4194304
def VX{f:RF}(h:pV f)(kept:List Int)(i:Nat):pV (jd kept i f):=by
 obtain⟨h1,h2,h3,h4⟩:=h;have hk:=Cv kept i f.b f.s.toNat (by omega);have:=(h1.slc (k:=fJ kept i f.b f.s.toNat) (by simpa[aL]using hk) (j:=.i64)).2;have e:(aL f.b).take (fJ kept i f.b f.s.toNat)=aL (f.b.take (fJ kept i f.b f.s.toNat)):=by simp[aL,sd]
 rw[e]at this;exact⟨this,by simp[jd],by simp[jd];omega,by simp[jd];omega⟩
def VY{P:RF→Prop}{F:RF→RF}(hF:∀f,P f→P (F f)){l:List RF}{n:Nat}(h:∀f∈l,P f):∀f∈l.modify n F,P f:=by
 intro f hm;obtain⟨j,hj⟩:=iK hm;rw[qR]at hj
 cases hl:l[j]? with
 |none=>rw[hl]at hj;simp at hj
 |some g=>
  rw[hl]at hj;simp only[Option.map_eq_map,lD,bU]at hj;have hg:=h g (dZ hl);split at hj
  ·subst hj;exact hF g hg
  ·subst hj;exact hg
theorem yc(kept:List Int):∀(l:List RE) (i:Nat) (fs:List RF),(∀f∈fs,pV f)→(gL kept i l fs).length=fs.length∧∀f∈gL kept i l fs,pV f
 | [],i,fs,h=>⟨rfl,h⟩
 |e::l,i,fs,h=>by
  obtain⟨h1,h2⟩:=yc kept l (i+1) (fs.modify e.2.toNat (jd kept i)) (VY (P:=pV) (fun f hf=>VX hf kept i) h);exact⟨by rw[gL,h1];simp,by rw[gL];exact h2⟩
def VZ{R:RD}{K:Nat}(h:R.Wf K)(dirs:Int)(kept:List Int){lv:PV}(hl:cC 2 lv ((dirL R.base (R.wait.take (hI R dirs))).map bz)):(lU R dirs kept lv).Wf K:=by
 obtain⟨c1,c2⟩:=yc kept (dirL R.base (R.wait.take (hI R dirs))) 0 R.files h.ff;have:=uR (R.wait.take (hI R dirs)) R.base;have hb:=h.bl;exact⟨VT fun f hf=>(c2 f hf).1,hl,lR 4,c2,by show(gL _ _ _ _).length≤K;rw[c1];exact h.fl,by show(dirL _ _).length+0≤K;simp at this;omega,h.rm,h.ct,by simp[lU]⟩
theorem Va(kept:List Int):∀(p:List RE) (i:Nat) (l:List RE) (fs:List RF),gL kept i (p++l) fs=gL kept (i+p.length) l (gL kept i p fs)
 | [],i,l,fs=>rfl
 |e::p,i,l,fs=>by
  rw[jx,gL,Va kept p (i+1) l,gL,bV,show i+1+p.length=i+(p.length+1)by omega]
def aCd{R:RD}{K:Nat}(hR:R.Wf K)(hK:K≤1048560){dirs:Int}{kept:List Int}{kv:PV}(hkv:bT 1 kv (kept.map (.int .i64)))(hlv:∀e∈dirL R.base (R.wait.take (hI R dirs)),0≤e.2∧e.2<R.files.length){S:St} :
  ∃lv,cC 2 lv ((dirL R.base (R.wait.take (hI R dirs))).map bz)∧aO T 89 [R.v,.int .i64 dirs,kv] S=some ((lU R dirs kept lv).v,S):=by
 have hK':K≤1048570:=by omega
 have hkw:hI R dirs≤R.wait.length:=by have:=Nat.mod_lt (IntKind.u64.wrap dirs).toNat (Nat.succ_pos R.wait.length);unfold hI;exact Nat.le_of_lt_succ this
 obtain⟨lv,l1,l2⟩:=VM hR hK' hkw (S:=⟨S.objs++[[.int .i64 0,.nils,.nils,.nils,.int .i64 0,.bool false,.int .i64 0]],S.tips⟩);have hw':=VZ hR dirs kept l2;refine⟨lv,l2,?_⟩;generalize hrr:(lU R dirs kept lv).v=rr;have o1:=hR.fs.one.1;have o2:=hR.bs.one.1;have o3:=hR.ws.one.1;have hwl:=hR.ws.len;rw[List.length_map]at hwl;have hm:(IntKind.u64.wrap dirs).tmod ((R.wait.length:Int)+1)=((hI R dirs:Nat):Int):=yM dirs R.wait.length;have hne0:¬(R.wait.length:Int)+1=0:=by omega
 have hwb:=hR.bl;have hw1:IntKind.i64.wrap ((R.wait.length:Int)+1)=(R.wait.length:Int)+1:=bJ (by omega) (by omega);have hw2:IntKind.u64.wrap ((R.wait.length:Int)+1)=(R.wait.length:Int)+1:=by rw[uM];omega
 have hkl:((hI R dirs:Nat):Int)≤1048570:=by omega
 have hw3:IntKind.i64.wrap ((hI R dirs:Nat):Int)=((hI R dirs:Nat):Int):=bJ (by omega) (by omega);refine aW aCc rfl ?_;simp only[RD.v,RD.c]at l1 ⊢;obtain⟨L,hL⟩:∃L,L=dirL R.base (R.wait.take (hI R dirs)):=⟨_,rfl⟩;rw[←hL]at l2 hlv
 have hLl:L.length≤1048560:=by
  have:=uR (R.wait.take (hI R dirs)) R.base;rw[hL];simp at this;omega
 have hLm:L.length≤maxLen:=by unfold maxLen;omega
 have hlen:=l2.len;rw[List.length_map]at hlen;have hkl:=hkv.len;rw[List.length_map]at hkl;obtain⟨z,hz⟩:∃z:List PV,z=[.int .i64 0,.nils,.nils,.nils,.int .i64 0,.bool false,.int .i64 0]:=⟨_,rfl⟩;have hzl:z.length=7:=by rw[hz];rfl
 obtain⟨F0,S1,a1,a2,a3,a4,a5,a6,a7,a8⟩:=(show dV S 2 ⟨S.objs++[z],S.tips⟩ .emp []from⟨.inl ⟨.inl rfl,rfl⟩,by simp⟩).app (bytes:=32) (new:=R.files.map RF.v) ((aP.refl S).objs _) (by omega) (fun e he=>by
  obtain⟨f,hf,rfl⟩:=cD.1 he;exact⟨rfl,(RF.v_ok (hR.ff f hf).1).2.1⟩) (by have:=hR.fl;simp;omega)
 rw[eE]at a2;have hap:=hR.fs.appd ⟨S.objs++[z],S.tips⟩;rw[hz]at a1 hap;simp -implicitDefEqProofs [tU,aI,o1,o2,o3,ah,hwl,hw1,hw2,hm,hne0,hw3,l1,a1,hap]
 refine lP L.length (fun i fr S'=>fr 2=kv∧fr 3=.ref R.c∧fr 6=.ptr S.objs.length 0∧fr 7=lv∧fr 9=.int .i64 (i:Int)∧aP S S'∧S'.objs[S.objs.length]?=some z∧dV S 2 S' (fr 8) ((gL kept 0 (L.take i) R.files).map RF.v)∧fr 8≠.nils∧du (fr 8)≠some S.objs.length) ?_ ?_ 0 (Nat.zero_le _) _ _
  ⟨by simp,by simp[RD.c],by simp,by simp,by simp,a3,a6 _ _ (by simp) (fun e=>by cases e),by simpa[gL]using a2,by simpa using a8 (fun e=>by cases e),by
   simp only[aMx];intro e;have e:du F0=some S.objs.length:=e;have:=a7 _ e (by simp);cases this⟩
 ·rintro i fr S' hi ⟨f2,f3,f6,f7,f9,hg,hz6,gA,hnn,hne⟩ kk;have hw:=lQ hi hLm;have hgl:=l2.reads.get i (by simpa using hi) .i64;have hx:(L.map bz)[i]'(by simpa using hi)=bz L[i]:=by simp
  rw[hx,rO]at hgl;have hb:=hlv _ (jy hi);have ht:L.take (i+1)=L.take i++[L[i]]:=by rw[sj,cJ hi];rfl
  obtain⟨e,he⟩:∃e,e=L[i]:=⟨_,rfl⟩;rw[←he]at hgl hb ht;obtain⟨m,hm0⟩:∃m:Nat,e.2=(m:Int):=⟨e.2.toNat,by omega⟩;obtain⟨c1,c2⟩:=yc kept (L.take i) 0 R.files hR.ff;obtain⟨fs,hfs⟩:∃fs,fs=gL kept 0 (L.take i) R.files:=⟨_,rfl⟩;rw[←hfs]at gA c1 c2;have hml:m<fs.length:=by rw[c1];omega
  obtain⟨f,hf⟩:∃f,fs[m]?=some f:=⟨_,cJ hml⟩;obtain⟨q1,q2,q3,q4⟩:=c2 f (dZ hf)
  have hne0:fs.map RF.v≠[]:=by
   intro h;have:fs=[]:=by simpa using h
   rw[this]at hml;simp at hml
  obtain⟨id,i1,h8,i3⟩:=ya gA hne0;have hidlt:=(aS.1 i3).1;have hido:id≠S.objs.length:=fun h=>hne (by rw[h8,h];rfl);obtain⟨r,hr⟩:=DO (i:=m) (fun e he=>(gA.ok e he).1) (show(fs.map RF.v)[m]?=some f.v by rw[fX,hf];rfl);rw[RF.v_cells]at hr;have hfl:=rN (fun e he=>(gA.ok e he).1);rw[List.length_map]at hfl;have hload:cS S' true 2 (.ptr id (m*2))=some (.agg [f.bv,.int .i64 f.s]):=by rw[aU i3,hr];simp[ae]
  have hltm:((m:Int)<(fs.length:Int)):=by omega
  have q5:=q1.len;rw[show(aL f.b).length=f.b.length by simp[aL]]at q5;obtain⟨n,hn⟩:∃n,n=fJ kept i f.b f.s.toNat:=⟨_,rfl⟩;have hnle:n≤f.b.length:=by rw[hn];exact Cv kept i f.b f.s.toNat (by omega)
  have hnge:f.s≤(n:Int):=by have:=aA6 kept i f.b f.s.toNat;rw[←hn]at this;omega
  obtain⟨d1,d2⟩:=q1.slc (k:=n) (by simpa[aL]using hnle) (j:=.i64);have dOne:=d2.one
  have hset:(fs.map RF.v).set m (RF.v (jd kept i f))=(fs.modify m (jd kept i)).map RF.v:=by
   apply mr;intro j;rw[fX,qR,GH];by_cases hj:m=j
   ·subst hj
    have:fs[m]=f:=by
     have:=hf;rw[cJ hml]at this;cases this;rfl
    simp[hml,this]
   ·simp[hj]
  have hcut:jd kept i f=⟨kH f.bv n,f.b.take n,(n:Int)⟩:=by rw[hn];rfl
  have hput:=yV (i:=m) (e':=RF.v (jd kept i f)) (fun e he=>(gA.ok e he).1) (show(fs.map RF.v)[m]?=some f.v by rw[fX,hf];rfl) rfl (j:=0) (c:=[kH f.bv n,.int .i64 (n:Int)]) (by simp) (by rw[hcut];rfl);rw[hset,gB]at hput;obtain⟨cs',hcs'⟩:∃cs',cs'=((fs.modify m (jd kept i)).map RF.v).flatMap PV.cells:=⟨_,rfl⟩;have c2':∀g∈fs.modify m (jd kept i),pV g:=VY (P:=pV) (fun f hf=>VX hf kept i) c2
  have next:∀(fr':Fr) (x:List PV),fr' 2=kv→fr' 3=.ref R.c→fr' 6=.ptr S.objs.length 0→fr' 7=lv→fr' 9=.int .i64 ((i:Int)+1)→fr' 8=fr 8→Ok (aJ T (.lp BT::.blk 0::[.code (.seq (.clr [(79,86)] (.region BU)) .ret)]) fr' ⟨(S'.objs++[x]).set id cs',S'.tips⟩) (gM [.cell 6 true 7] false S rr S):=by
   intro fr' x g2 g3 g6 g7 g9 g8;have hL2:(S'.objs++[x])[id]?=some ((fs.map RF.v).flatMap PV.cells):=by rw[bP hidlt];exact i3
   refine kk fr' _ ⟨g2,g3,g6,g7,by simpa using g9,?_,?_,?_,by rw[g8];exact hnn,by rw[g8];exact hne⟩
   ·obtain⟨o,tt,rfl⟩:=hg;exact⟨(o++[x]).set (id-S.objs.length) cs',tt,by simp only[St.mk.injEq,and_true];rw[iv,mF _ _ i1]⟩
   ·simp only;rw[ak hido,bP (aS.1 hz6).1];exact hz6
   ·rw[ht,Va];simp only[gL,List.length_take,dN,GP (Nat.le_of_lt hi),←hfs];have hmm:e.2.toNat=m:=by omega
    rw[hmm,g8,h8];refine⟨.inr ⟨id,i1,by simp,by simp only;rw[hcs'];exact da hL2,?_⟩,fun e he=>?_⟩
    ·intro h;have:=congrArg List.length h;simp at this;rw[this]at hml;simp at hml
    ·obtain⟨g,hg',rfl⟩:=cD.1 he;exact⟨rfl,(RF.v_ok (c2' g hg').1).2.1⟩
  clear kk;have hle2:m*2+2≤((fs.map RF.v).flatMap PV.cells).length:=by rw[hfl];omega
  have i3':∀x:List PV,(S'.objs++[x])[id]?=some ((fs.map RF.v).flatMap PV.cells):=fun x=>by rw[bP hidlt];exact i3
  rw[hm0]at hgl
  have hput2:List.take (m*2) ((fs.map RF.v).flatMap PV.cells)++kH f.bv n::PV.int .i64 (n:Int)::List.drop (m*2+2) ((fs.map RF.v).flatMap PV.cells)=cs':=by
   rw[hcs',←hput];simp[aR]
  have w1:IntKind.i64.wrap ((f.b.length:Int)-f.s)=(f.b.length:Int)-f.s:=bJ (by omega) (by omega);have w2:IntKind.i64.wrap ((f.b.length:Int)-f.s+1)=(f.b.length:Int)-f.s+1:=bJ (by omega) (by omega);rw[af];by_cases hik:i<kept.length
  ·have hgk:=hkv.get i (by simpa using hik) .i64;have hkx:(kept.map (PV.int .i64))[i]'(by simpa using hik)=.int .i64 kept[i]:=by simp
   rw[hkx,oc]at hgk;have hkof:n=f.s.toNat+(IntKind.u64.wrap kept[i]).toNat%(f.b.length-f.s.toNat+1):=by rw[hn,fJ,dif_pos hik]
   obtain⟨x,hx⟩:∃x,x=(IntKind.u64.wrap kept[i]).toNat%(f.b.length-f.s.toNat+1):=⟨_,rfl⟩;rw[←hx]at hkof;have w3:IntKind.u64.wrap ((f.b.length:Int)-f.s+1)=((f.b.length-f.s.toNat:Nat):Int)+1:=by rw[uM];omega
   have w4:(IntKind.u64.wrap kept[i]).tmod (((f.b.length-f.s.toNat:Nat):Int)+1)=(x:Int):=by rw[hx];exact yM kept[i] (f.b.length-f.s.toNat)
   have w5:IntKind.i64.wrap (x:Int)=(x:Int):=bJ (by omega) (by omega);have w6:IntKind.i64.wrap (f.s+(x:Int))=(n:Int):=by rw[show f.s+(x:Int)=(n:Int)by omega];exact bJ (by omega) (by omega)
   have w7:¬(((f.b.length-f.s.toNat:Nat):Int)+1=0):=by omega
   have hik':((i:Int)<(kept.length:Int)):=by omega
   obtain⟨y,hy⟩:∃y:Nat,y=f.b.length-f.s.toNat:=⟨_,rfl⟩;rw[←hy]at w3 w4 w7;simp -implicitDefEqProofs [-List.length_flatMap,f2,f3,f6,f7,f9,h8,hlen,hi,hgl,hltm,hload,aI,aR,q1.one.1,hkl,hik,hik',hgk,q5,w1,w2,w3,w4,w5,w6,w7,d1,aQ,bK,dOne.1,dOne.2,i3',hle2,hput];rw[hput2];exact next _ _ (by simp[f2]) (by simp[f3]) (by simp[f6]) (by simp[f7]) (by simp[hw]) (by simp)
  ·have hkof:n=f.s.toNat:=by rw[hn,fJ,dif_neg hik]
   have w8:IntKind.i64.wrap f.s=(n:Int):=by rw[show f.s=(n:Int)by omega];exact bJ (by omega) (by omega)
   have hik':¬((i:Int)<(kept.length:Int)):=by omega
   simp -implicitDefEqProofs [-List.length_flatMap,f2,f3,f6,f7,f9,h8,hlen,hi,hgl,hltm,hload,aI,aR,q1.one.1,hkl,hik,hik',q5,w1,w2,w8,d1,aQ,bK,dOne.1,dOne.2,i3',hle2,hput];rw[hput2];exact next _ _ (by simp[f2]) (by simp[f3]) (by simp[f6]) (by simp[f7]) (by simp[hw]) (by simp)
 ·rintro fr S' ⟨f2,f3,f6,f7,f9,hg,hz6,gA,hnn,hne⟩;rw[iy]at gA;obtain⟨F,hF⟩:∃F,F=fr 8:=⟨_,rfl⟩;rw[←hF]at gA hnn hne;obtain⟨c1,c2⟩:=yc kept L 0 R.files hR.ff
  have oF:F.one=true∧F.cells=[F]:=by
   rcases gA.acc with⟨hv|hv,_⟩|⟨id,_,hv,_⟩<;>subst hv<;>exact⟨rfl,rfl⟩
  have tF:nq S S' [S.objs.length] F (.sl none ((gL kept 0 L R.files).map RF.v) []):=by
   refine yZ gA (by omega) (fun i hi=>by
    simp only[se];intro e;rw[e]at hi;exact hne hi) hnn (fun f hf objs' _ k=>np ?_) (fun f hf=>⟨_,rfl,rfl⟩)
   have:=(RF.v_ok (c2 f hf).1).2.2.1;simpa[RF.v,PV.free]using this
  have hlo:=l2.one;have e1:(S'.objs.set S.objs.length [.int .i64 R.room,F,lv,.nils,.int .i64 (-1),.bool false,.int .i64 R.count])[S.objs.length]?=some [.int .i64 R.room,F,lv,.nils,.int .i64 (-1),.bool false,.int .i64 R.count]:=da hz6
  have hfin:ac false S ⟨S'.objs.set S.objs.length [.int .i64 R.room,F,lv,.nils,.int .i64 (-1),.bool false,.int .i64 R.count],S'.tips⟩ (.agg [.int .i64 R.room,F,lv,.nils,.int .i64 (-1),.bool false,.int .i64 R.count])=(rr,S):=by
   rw[Dw (r':=(lU R dirs kept lv).v) ?_ ?_]
   ·rw[hw'.frz,hrr]
   ·obtain⟨o,tt,rfl⟩:=hg;exact⟨o.set 0 _,tt,by simp only[St.mk.injEq,and_true];rw[mF _ _ (aj _),Nat.sub_self]⟩
   ·refine VS (k:=38) ?_
    have s1:=tF (S'.objs.set S.objs.length [.int .i64 R.room,F,lv,.nils,.int .i64 (-1),.bool false,.int .i64 R.count]) (fun i x hi hx=>by
     simp only[se]at hi;rw[ak (Ne.symm hi)];exact hx) 36
    have s3:∀{v:PV},v.free=true→bQ (S'.objs.set S.objs.length [.int .i64 R.room,F,lv,.nils,.int .i64 (-1),.bool false,.int .i64 R.count]) S.objs.length 39 v=some v:=fun h=>lz h;simp only[cr,s1,s3 l2.free,s3 (v:=.int .i64 _) rfl,s3 (v:=.bool _) rfl,s3 (v:=.nils) rfl];simp only[lU,RD.c,←hL]
  rw[af];have hz7:z.drop 7=[]:=sa (by omega);simp -implicitDefEqProofs [f3,f6,f7,f9,hlen,RD.c,←hF,aI,aQ,bK,aR,oF.1,oF.2,hlo.1,hlo.2,hz6,hzl,hz7];exact uP (by simp[f6,aU (S:=⟨_,S'.tips⟩) e1,ah]<;>rfl) hfin
end Ps
set_option linter.defProp false
namespace Ps
set_option linter.unusedSimpArgs false
set_option linter.unusedVariables false
open Go
def Vb{a b:List UInt8}:Op.bytesLess a b=true↔a<b:=by
 induction a generalizing b with
 |nil=>cases b<;>simp[Op.bytesLess]
 |cons x a ih=>cases b with
  |nil=>simp[Op.bytesLess]
  |cons y b=>simp[Op.bytesLess,ih,Za]
abbrev yd(M:List RE):Prop:=M.Pairwise fun a b=>a.1<b.1
theorem DT(e:RE):∀l:List RE,eT e true l=eH e.1 l
 | []=>rfl
 |x::l=>by
  simp only[eT,vt,qP,cF,if_false,eE,Bool.true_or,DT e l];unfold eH;cases h:(x.1==e.1)<;>simp[h]
theorem Vc(e:RE):∀(l:List RE) (x:RE),x∈eT e false l→x=e∨x∈l
 | [],x,h=>by simp[eT]at h;exact .inl h
 |y::l,x,h=>by
  simp only[eT,AR,vu,GA]at h
  cases hb:Op.bytesLess e.1 y.1 with
  |true=>
   rw[hb,DT]at h;simp only[if_true,dA,cX,kY,or_false]at h;rcases h with h|h|h
   ·exact .inl h
   ·split at h
    ·simp at h;exact .inr (by simp[h])
    ·cases h
   ·exact .inr (wD _ (oq.1 h).1)
  |false=>
   rw[hb]at h;simp only[cF,if_false,eE,dA]at h;rcases h with h|h
   ·split at h
    ·simp at h;exact .inr (by simp[h])
    ·cases h
   ·rcases Vc e l x h with h|h
    ·exact .inl h
    ·exact .inr (wD _ h)
theorem Vd(e:RE):∀l:List RE,yd l→yd (eT e false l)∧(eT e false l).Perm (e::eH e.1 l)
 | [],_=>by simp[eT,eH,yd]
 |x::l,h=>by
  have h1:=(sg.1 h).1;obtain⟨i1,i2⟩:=Vd e l (sg.1 h).2;simp only[eT,AR,vu,GA]
  cases hb:Op.bytesLess e.1 x.1 with
  |true=>
   have hlt:=Vb.1 hb
   have hne:(x.1==e.1)=false:=by
    rw[beq_eq_false_iff_ne];intro k;rw[k]at hlt;exact ol _ hlt
   rw[DT];have e1:([e]++([x]++eH e.1 l))=e::eH e.1 (x::l):=by simp[eH,hne]
   simp only[hne,AR,if_true];rw[e1];refine⟨sg.2 ⟨?_,h.filter _⟩,.refl _⟩;intro y hy;rcases cX.1 (oq.1 hy).1 with hy|hy
   ·rw[hy];exact hlt
   ·exact GK hlt (h1 y hy)
  |false=>
   simp only[cF,if_false,eE]
   cases hx:(x.1==e.1)with
   |true=>
    refine⟨by simpa using i1,?_⟩
    simpa[eH,hx]using i2
   |false=>
    have hnl:¬e.1<x.1:=fun k=>by rw[Vb.2 k]at hb;cases hb
    have hle:x.1<e.1:=by
     by_cases k:x.1<e.1
     ·exact k
     ·have:x.1=e.1:=List.le_antisymm (List.not_lt.1 hnl) (List.not_lt.1 k);rw[this]at hx;simp at hx
    simp only[AR,if_true,List.singleton_append];refine⟨sg.2 ⟨?_,i1⟩,?_⟩
    ·intro y hy;rcases Vc e l y hy with hy|hy
     ·rw[hy];exact hle
     ·exact h1 y hy
    ·have e1:eH e.1 (x::l)=x::eH e.1 l:=by simp[eH,hx]
     rw[e1];exact(i2.cons x).trans (GB _ _ _)
def mp(φ:Nat→Int)(l:List (Nm×Nat)):List RE:=l.map fun p=>(p.1,φ p.2)
def DR(φ:Nat→Int)(l:List (Nm×Nat))(M:List RE):Prop:=(mp φ l).Perm M∧yd M
def DR.nd{φ:Nat→Int}{l:List (Nm×Nat)}{M:List RE}(h:DR φ l M):l.Pairwise fun a b=>a.1≠b.1:=by
 have h2:M.Pairwise fun a b=>a.1≠b.1:=h.2.imp fun k e=>by rw[e]at k;exact ol _ k
 have h3:=(h.1.pairwise_iff (R:=fun a b:RE=>a.1≠b.1) (fun k=>Ne.symm k)).2 h2;unfold mp at h3;exact(List.pairwise_map (f:=fun p:Nm×Nat=>(p.1,φ p.2)) (R:=fun a b:RE=>a.1≠b.1)).1 h3
theorem Ve(k:Nm)(f:Nat):∀l:List (Nm×Nat),(put k f l).Perm ((k,f)::del k l)
 | []=>.refl _
 |(q,u)::l=>by
  simp only[put,del];split
  ·exact .refl _
  ·exact((Ve k f l).cons _).trans (GB _ _ _)
theorem Vf(k:Nm):∀l:List (Nm×Nat),l.Pairwise (fun a b=>a.1≠b.1)→del k l=l.filter fun p=>!(p.1==k)
 | [],_=>rfl
 |(q,u)::l,h=>by
  obtain⟨h1,h2⟩:=sg.1 h;simp only[del];by_cases e:(k==q)=true
  ·have e':k=q:=by simpa using e
   subst e'
   have:(l.filter fun p=>!(p.1==k))=l:=by
    rw[qQ];intro p hp;have:=h1 p hp;simp only[kV,beq_eq_false_iff_ne];exact Ne.symm this
   simp[this]
  ·have e':(q==k)=false:=by
    rw[beq_eq_false_iff_ne];intro x;exact e (by simp[x])
   simp[e,e',Vf k l h2]
def DR.del{φ:Nat→Int}{l:List (Nm×Nat)}{M:List RE}(h:DR φ l M)(k:Nm):DR φ (del k l) (eH k M):=by
 refine⟨?_,h.2.filter _⟩;rw[Vf k l h.nd]
 have:mp φ (l.filter fun p=>!(p.1==k))=eH k (mp φ l):=by
  unfold mp eH;rw[List.filter_map];rfl
 rw[this];exact h.1.filter _
def DR.put{φ:Nat→Int}{l:List (Nm×Nat)}{M:List RE}(h:DR φ l M)(k:Nm)(f:Nat):DR φ (put k f l) (eT (k,φ f) false M):=by
 obtain⟨h1,h2⟩:=Vd (k,φ f) M h.2;refine⟨?_,h1⟩;refine List.Perm.trans ?_ h2.symm;have:(mp φ (Ps.put k f l)).Perm (mp φ ((k,f)::Ps.del k l)):=(Ve k f l).map _;exact this.trans ((h.del k).1.cons _)
theorem DU{n:Nm}{x:Int}:∀{M:List RE},M.Pairwise (fun a b=>a.1≠b.1)→(n,x)∈M→bC n M=x
 |(q,f)::l,h,hm=>by
  obtain⟨h1,h2⟩:=sg.1 h;simp only[bC];rcases cX.1 hm with hm|hm
  ·cases hm;simp
  ·have:(q==n)=false:=by
    rw[beq_eq_false_iff_ne];exact h1 _ hm
   simp only[this,cF,if_false];exact DU h2 hm
theorem Vg{n:Nm}:∀{M:List RE},(∀e∈M,e.1≠n)→bC n M = -1
 | [],_=>rfl
 |(q,f)::l,h=>by
  have:(q==n)=false:=by
   rw[beq_eq_false_iff_ne];exact h (q,f) (by simp)
  simp only[bC,this,cF,if_false];exact Vg fun e he=>h e (by simp[he])
theorem DV{k:Nm}:∀{l:List (Nm×Nat)},lk k l=none→∀p∈l,p.1≠k
 | [],_,p,hp=>by cases hp
 |(q,f)::l,h,p,hp=>by
  simp only[lk]at h;split at h
  ·cases h
  ·rename_i e;rcases cX.1 hp with hp|hp
   ·subst hp;intro x;exact e (by simp[←x])
   ·exact DV h p hp
def DR.at{φ:Nat→Int}{l:List (Nm×Nat)}{M:List RE}(h:DR φ l M)(n:Nm):bC n M=match lk n l with|some f=>φ f|none=>-1:=by
 have h2:M.Pairwise fun a b=>a.1≠b.1:=h.2.imp fun k e=>by rw[e]at k;exact ol _ k
 cases hl:lk n l with
 |some f=>
  have:=ic hl
  exact DU h2 (h.1.mem_iff.1 (cD.2 ⟨(n,f),this,rfl⟩))
 |none=>
  refine Vg fun e he=>?_;obtain⟨p,hp,rfl⟩:=cD.1 (h.1.mem_iff.2 he);exact DV hl p hp
def kI(φ:Nat→Int)(x:di):RS:=match x.2.2 with|some f=>⟨1,x.2.1,[],φ f⟩|none=>if x.2.1=[]then⟨3,x.1,[],0⟩else⟨2,x.1,x.2.1,0⟩
def DR.doE{φ:Nat→Int}{l:List (Nm×Nat)}{M:List RE}(h:DR φ l M)(x:di)(hx:Ul x l)(hn:x.2.2≠none→x.2.1≠[]):DR φ (Ps.doE x l) (jG M (kI φ x)):=by
 obtain⟨a,b,c⟩:=x
 cases c with
 |some f=>
  have hb:b≠[]:=hn (by simp);simp only[Ps.doE,hb,if_false,kI,jG,if_true]
  exact h.put b f
 |none=>
  obtain⟨f,hf⟩:=my.1 (hx rfl);simp only at hf;by_cases hb:b=[]
  ·subst hb;simp only[Ps.doE,hf,if_true,kI,jG];simpa using h.del a
  ·simp only[Ps.doE,hf,hb,if_false,kI,jG];have ha:=h.at a;rw[hf]at ha;simp only at ha;simp only[ha];simpa using (h.del a).put b f
theorem DR.doA{φ:Nat→Int}:∀(ws:List di) {l:List (Nm×Nat)} {M:List RE},DR φ l M→okA ws l→(∀x∈ws,x.2.2≠none→x.2.1≠[])→DR φ (doA ws l) (dirL M (ws.map (kI φ)))
 | [],l,M,h,_,_=>h
 |x::ws,l,M,h,ho,hn=>by
  simp only[Ps.doA,dS,dirL,vz];exact DR.doA ws (h.doE x ho.1 (hn x (by simp))) ho.2 fun y hy=>hn y (by simp[hy])
def DR.len{φ:Nat→Int}{l:List (Nm×Nat)}{M:List RE}(h:DR φ l M):M.length=l.length:=by
 rw[←h.1.length_eq];simp[mp]
def DR.congr{φ ψ:Nat→Int}{l:List (Nm×Nat)}{M:List RE}(h:DR φ l M)(he:∀p∈l,φ p.2=ψ p.2):DR ψ l M:=by
 refine⟨?_,h.2⟩;have:mp ψ l=mp φ l:=om fun p hp=>by rw[he p hp]
 rw[this];exact h.1
def DR.nil(φ:Nat→Int):DR φ [] []:=⟨.refl _,.nil⟩
def DR.sort{φ:Nat→Int}{l:List (Nm×Nat)}{M:List RE}(h:DR φ l M):ii l=M.map (·.1):=by
 have hp:(l.map (·.1)).Perm (M.map (·.1)):=by
  have:=h.1.map (·.1);unfold mp at this;rw[oo]at this;exact this
 unfold ii;have h1:(l.map (·.1)).mergeSort leB=(M.map (·.1)).mergeSort leB:=mergeSort_of_perm hp;rw[h1];refine List.mergeSort_of_pairwise ?_;rw[List.pairwise_map];exact h.2.imp fun k=>by simpa[leB]using List.le_of_lt k
end Ps
set_option linter.defProp false
namespace Ps
set_option linter.unusedSimpArgs false
set_option linter.unusedVariables false
open Go
def ix(fl:List Nat)(f:Nat):Int:=((fl.reverse.idxOf f:Nat):Int)
def Vh(fl:List Nat)(f:Nat):0≤ix fl f:=by unfold ix;omega
def ye(fl:List Nat)(f:Nat):(ix fl f).toNat=fl.reverse.idxOf f:=by unfold ix;omega
def Vi{fl:List Nat}{f:Nat}(h:f∈fl):fl.reverse.idxOf f<fl.length:=by
 have:=GI (Ab.2 h);simpa using this
def aCe{l:List Nat}{f g:Nat}(hf:f∈l)(hg:g∈l)(h:l.idxOf f=l.idxOf g):f=g:=by
 have h1:=List.getElem_idxOf (GI hf);have h2:=List.getElem_idxOf (GI hg);rw[←h1,←h2]
 congr 1
def DW{fl:List Nat}{F f:Nat}(h:f∈fl):(F::fl).reverse.idxOf f=fl.reverse.idxOf f:=by
 rw[List.reverse_cons,List.idxOf_append,if_pos (Ab.2 h)]
def Vj{fl:List Nat}{F:Nat}(h:F∉fl):(F::fl).reverse.idxOf F=fl.length:=by
 rw[List.reverse_cons,List.idxOf_append,if_neg (by simpa using h)];simp
def mW(fl:List Nat)(fb:Nat→List UInt8)(fs:Nat→Nat)(L:List RF):Prop:=
 L.length=fl.length∧∀f∈fl,∃g,L[fl.reverse.idxOf f]?=some g∧g.b=fb f∧g.s=(fs f:Int)
def mW.modify{fl:List Nat}{fb:Nat→List UInt8}{fs:Nat→Nat}{L:List RF}(h:mW fl fb fs L){f:Nat}(hf:f∈fl){F:RF→RF}{b:List UInt8}{s:Nat}(hF:∀g:RF,g.b=fb f→g.s=(fs f:Int)→(F g).b=b∧(F g).s=(s:Int)) :
  mW fl (fun g=>if g=f then b else fb g) (fun g=>if g=f then s else fs g) (L.modify (fl.reverse.idxOf f) F):=by
 refine⟨by simpa using h.1,fun f' hf'=>?_⟩;obtain⟨g,h1,h2,h3⟩:=h.2 f' hf';by_cases e:f'=f
 ·subst e;refine⟨F g,by rw[qR,h1];simp,?_⟩;simpa using hF g h2 h3
 ·have hne:fl.reverse.idxOf f≠fl.reverse.idxOf f':=fun k=>e (aCe (Ab.2 hf') (Ab.2 hf) k.symm);refine⟨g,by rw[qR,h1];simp[hne],?_⟩;simpa[e]using ⟨h2,h3⟩
def mW.add{fl:List Nat}{fb:Nat→List UInt8}{fs:Nat→Nat}{L:List RF}(h:mW fl fb fs L){F:Nat}(hF:F∉fl) :
  mW (F::fl) (fun f=>if f=F then []else fb f) (fun f=>if f=F then 0 else fs f) (L++[⟨.nils,[],0⟩]):=by
 refine⟨by simp[h.1],fun f hf=>?_⟩;by_cases e:f=F
 ·subst e;refine⟨⟨.nils,[],0⟩,?_,by simp,by simp⟩;rw[Vj hF,gu (by rw[h.1];exact aj _),h.1];simp
 ·have hf:f∈fl:=by
   rcases cX.1 hf with k|k
   ·exact absurd k e
   ·exact k
  obtain⟨g,h1,h2,h3⟩:=h.2 f hf;refine⟨g,?_,by simpa[e]using h2,by simpa[e]using h3⟩;rw[DW hf,bP (by rw[h.1];exact Vi hf),h1]
structure cQ(D:Dk)(R:RD):Prop where
 room:R.room=D.room
 left:R.left=D.left
 dark:R.dark=D.dark
 count:R.count=D.done
 nd:D.fl.Nodup
 fl:mW D.fl D.fb D.fs R.files
 base:DR (ix D.fl) D.base R.base
 wait:R.wait=D.wait.map (kI (ix D.fl))
 nm:∀x∈D.wait,x.2.2≠none→x.2.1≠[]
def DR.bd{fl:List Nat}{l:List (Nm×Nat)}{M:List RE}(h:DR (ix fl) l M)(hl:∀p∈l,p.2∈fl):∀e∈M,0≤e.2∧e.2<fl.length:=by
 intro e he;obtain⟨p,hp,rfl⟩:=cD.1 (h.1.mem_iff.2 he);have:=Vi (hl p hp);exact⟨Vh _ _,by simp only[ix];omega⟩
def Vk{S:St}{o K:Nat}{D:Dk}{R:RD}(h:At S o K D)(hr:cQ D R)(k:Nat):DR (ix D.fl) (lJ D k) (dirL R.base (R.wait.take k)):=by
 have h1:=Cu h.hist.okA.1 k;rw[hr.wait,←sd];exact hr.base.doA _ h1 fun x hx=>hr.nm x (jz hx)
def nr{S:St}{o K:Nat}{D:Dk}{R:RD}(h:At S o K D)(hr:cQ D R):DR (ix D.fl) D.live (aZ R):=by
 have h1:=h.hist.okA;unfold aZ;rw[hr.wait,h1.2];exact hr.base.doA _ h1.1 hr.nm
def DX{S:St}{o K:Nat}{D:Dk}{R:RD}(h:At S o K D)(hr:cQ D R):∀e∈aZ R,0≤e.2∧e.2<R.files.length:=by
 rw[hr.fl.1];exact(nr h hr).bd h.inl
def aCf{S:St}{o K:Nat}{D:Dk}{R:RD}(h:At S o K D)(hr:cQ D R)(k:Nat):∀e∈dirL R.base (R.wait.take k),0≤e.2∧e.2<R.files.length:=by
 rw[hr.fl.1];exact(Vk h hr k).bd (h.dirF k)
def aCg(fs:List RF){a b:List RE}(h:a.Perm b):dJ fs a=dJ fs b:=by
 induction h with
 |nil=>rfl
 |cons x _ ih=>simp only[dJ,ih]
 |swap x y l=>simp only[dJ];omega
 |trans _ _ ih1 ih2=>exact ih1.trans ih2
def aCh{S:St}{o K:Nat}{D:Dk}{R:RD}(h:At S o K D)(hr:cQ D R):dJ R.files (aZ R)=gx D D.live:=by
 rw[←aCg _ (nr h hr).1]
 have key:∀l:List (Nm×Nat),(∀p∈l,p.2∈D.fl)→dJ R.files (mp (ix D.fl) l)=gx D l:=by
  intro l
  induction l with
  |nil=>intro _;rfl
  |cons p l ih=>
   intro hl;obtain⟨g,h1,h2,_⟩:=hr.fl.2 p.2 (hl p (by simp));have ih:=ih fun q hq=>hl q (by simp[hq]);unfold mp at ih ⊢;obtain⟨q,f⟩:=p;simp only[dS,dJ,gx,ih,ik,ye,h1,h2]
 exact key _ h.inl
theorem Vl{fl:List Nat}{l:List (Nm×Nat)}{M0:List RE}(h:DR (ix fl) l M0)(hl:∀p∈l,p.2∈fl)(kept:List Int):∀(M:List RE) (i:Nat) (fb:Nat→List UInt8) (fs:Nat→Nat) (L:List RF),(∀e∈M,e∈M0)→mW fl fb fs L →
  mW fl (mR l kept i (M.map (·.1)) fb fs).1 (mR l kept i (M.map (·.1)) fb fs).2 (gL kept i M L)
 | [],i,fb,fs,L,_,hf=>hf
 |e::M,i,fb,fs,L,hm,hf=>by
  have h2:M0.Pairwise fun a b=>a.1≠b.1:=h.2.imp fun k e=>by rw[e]at k;exact ol _ k
  have ha:=DU h2 (hm e (by simp):(e.1,e.2)∈M0);have ha2:=h.at e.1;have hbd:=h.bd hl e (hm e (by simp));rw[ha]at ha2
  cases hk:lk e.1 l with
  |none=>rw[hk]at ha2;simp only at ha2;omega
  |some f=>
   rw[hk]at ha2;simp only at ha2;have hfl:=hl _ (ic hk);simp only[dS,mR,hk,gL];rw[ha2,ye];refine Vl h hl kept M (i+1) _ _ _ (fun x hx=>hm x (by simp[hx])) ?_;refine hf.modify hfl fun g g1 g2=>?_;simp only[jd,g1,g2,Int.toNat_natCast];exact⟨trivial,trivial⟩
def yf{D:Dk}{R:RD}(hr:cQ D R):gy R=cY D∧cQ (aX D) (cA R):=by
 have h1:=hr.left;have h2:=hr.dark;have h3:=hr.count;unfold gy cY aX cA;rw[h1,h2];refine⟨rfl,?_⟩;split
 ·exact {hr with dark:=rfl,left:=rfl}
 ·exact {hr with left:=rfl,dark:=rfl,count:=by simp[h3]}
def yg{S:St}{o K:Nat}{D:Dk}{R:RD}(h:At S o K D)(hr:cQ D R)(n:Nm):(cP D n=0↔bg n=true∧0≤bC n (aZ R))∧(cP D n=9↔bg n=true∧bC n (aZ R)<0)∧(cP D n=8↔bg n=false)∧(cP D n=0∨cP D n=9∨cP D n=8):=by
 have ha:=(nr h hr).at n;unfold cP;rw[ha]
 cases hn:bg n with
 |false=>simp
 |true=>
  cases hk:lk n D.live with
  |none=>simp
  |some f=>have:=Vh D.fl f;simp;omega
def aCi{S:St}{o K:Nat}{D:Dk}{R:RD}(h:At S o K D)(hr:cQ D R)(n to:Nm)(b:List UInt8) :
  cG R 1 n to b=fD D n∧cG R 2 n to b=iB D n b∧cG R 3 n to b=fZ D n to∧cG R 4 n to b=cP D n∧cG R 5 n to b=cP D n∧cG R 6 n to b=0:=by
 obtain⟨f0,f9,f8,fo⟩:=yg h hr n;have hlen:=(nr h hr).len;have hsum:=aCh h hr;have hroom:=hr.room;unfold cG fD iB fZ;rw[hlen,hsum,hroom]
 cases hn:bg n with
 |false=>
  rw[hn]at f0 f9 f8;have e8:=f8.2 rfl
  simp[e8]
 |true=>
  rw[hn]at f0 f9 f8;by_cases ha:0≤bC n (aZ R)
  ·have e0:=f0.2 ⟨rfl,ha⟩;have ha':¬bC n (aZ R)<0:=by omega
   rw[e0];refine⟨by simp[ha],by simp[ha'],?_,by simp[ha'],by simp[ha'],by simp⟩;cases hb:bg to<;>simp[ha']
  ·have ha':bC n (aZ R)<0:=by omega
   have e9:=f9.2 ⟨rfl,ha'⟩;rw[e9];refine⟨by simp[ha],by simp[ha'],?_,by simp[ha'],by simp[ha'],by simp⟩;cases hb:bg to<;>simp[ha']
def aCj{S:St}{o K:Nat}{D:Dk}{R:RD}(h:At S o K D)(hr:cQ D R)(n:Nm) :
  gY R n=(if cP D n≠0 then cP D n else if D.dark then 6 else 0)∧uT R n=(if gY R n=0 then(match lk n D.live with|some f=>D.fb f|none=>[])else []):=by
 obtain⟨f0,f9,f8,fo⟩:=yg h hr n;have hd:=hr.dark;have ha:=(nr h hr).at n;refine⟨?_,?_⟩
 ·unfold gY;rw[hd]
  cases hn:bg n with
  |false=>simp[f8.2 hn]
  |true=>
   by_cases ha:0≤bC n (aZ R)
   ·have ha':¬bC n (aZ R)<0:=by omega
    simp[f0.2 ⟨hn,ha⟩,ha']
   ·have ha':bC n (aZ R)<0:=by omega
    simp[f9.2 ⟨hn,ha'⟩,ha']
 ·unfold uT;split
  ·rename_i he
   cases hk:lk n D.live with
   |none=>
    exfalso;rw[hk]at ha;simp only at ha;unfold gY at he;rw[ha]at he;split at he
    ·omega
    ·simp at he
   |some f=>
    rw[hk]at ha;simp only at ha;rw[ha,ye];obtain⟨g,h1,h2,_⟩:=hr.fl.2 f (h.inl _ (ic hk));simp only[h1,h2]
  ·rfl
def aCk{S:St}{o K:Nat}{D:Dk}{R:RD}(h:At S o K D)(hr:cQ D R):pU R=if D.dark then []else ii D.live:=by
 unfold pU;rw[hr.dark,(nr h hr).sort]
end Ps
set_option linter.defProp false
namespace Ps
set_option linter.unusedSimpArgs false
set_option linter.unusedVariables false
open Go
def DY{R:RD}:(cA R).files=R.files∧(cA R).wait=R.wait∧(cA R).base=R.base:=by unfold cA;split<;>exact⟨rfl,rfl,rfl⟩
def aCl{D:Dk}{F:Nat}{S:St}{o K:Nat}(h:At S o K D):D.wait.map (kI (ix (F::D.fl)))=D.wait.map (kI (ix D.fl)):=by
 refine om fun x hx=>?_;obtain⟨a,b,c⟩:=x
 cases c with
 |none=>rfl
 |some f=>
  have:ix (F::D.fl) f=ix D.fl f:=by unfold ix;rw[DW (h.inw _ hx f rfl)]
  simp only[kI,this]
def aCm{S:St}{o K:Nat}{D:Dk}{R:RD}(h:At S o K D)(hr:cQ D R){n to:Nm}{b:List UInt8}{k:Nat}{lv wv':PV}(hn:bg n=true){F:Nat}(hF:F∉D.fl)(hs:cY D=0) :
  cQ {aX (db D F)with live:=put n F D.live,wait:=D.wait++[([],n,some F)],wv:=wv'} (ce (cA R) 1 n to b k lv):=by
 obtain⟨_,h1⟩:=yf hr;obtain⟨e1,e2,e3⟩:=DY (R:=R);have hst:aX (db D F)=db (aX D) F:=by unfold aX db;split<;>rfl
 rw[hst];have d1:(aX D).fl=D.fl∧(aX D).wait=D.wait∧(aX D).base=D.base∧(aX D).fb=D.fb∧(aX D).fs=D.fs:=by unfold aX;split<;>exact⟨rfl,rfl,rfl,rfl,rfl⟩
 have hFl:=h1.fl;have hB:=h1.base;rw[d1.1,d1.2.2.2.1,d1.2.2.2.2]at hFl;rw[d1.1,d1.2.2.1]at hB;refine {room:=h1.room,left:=h1.left,dark:=h1.dark,count:=h1.count,nd:=?_,fl:=?_,base:=?_,wait:=?_,nm:=?_}
 ·simp only[db];rw[d1.1];exact GM.2 ⟨hF,hr.nd⟩
 ·simp only[db,ce,gz,if_true];rw[d1.1,d1.2.2.2.1,d1.2.2.2.2];exact hFl.add hF
 ·simp only[db,ce];rw[d1.1,d1.2.2.1];refine DR.congr ?_ (φ:=ix D.fl) fun p hp=>?_
  ·simpa using hB
  ·unfold ix;rw[DW (h.inb p hp)]
 ·simp only[db,ce,gZ,if_true];rw[d1.1,e2,hr.wait,e1,hr.fl.1,eh,aCl h];simp only[dS,sc,kI];have:ix (F::D.fl) F=(D.fl.length:Int):=by unfold ix;rw[Vj hF]
  rw[this]
 ·simp only;intro x hx hx2;rcases dA.1 hx with hx|hx
  ·exact hr.nm x hx hx2
  ·simp only[se]at hx;subst hx;simp only;intro e;subst e;simp[bg]at hn
def Vm{S:St}{o K:Nat}{D:Dk}{R:RD}(h:At S o K D)(hr:cQ D R){n to:Nm}{b:List UInt8}{lv v':PV}{f:Nat}(hf:lk n D.live=some f) :
  cQ (dD (aX D) f v' (D.fb f++b) (D.fs f)) (ce (cA R) 2 n to b (bC n (aZ R)).toNat lv)∧cQ (dD (aX D) f v' (D.fb f) (D.fb f).length) (ce (cA R) 5 n to b (bC n (aZ R)).toNat lv):=by
 obtain⟨_,h1⟩:=yf hr;obtain⟨e1,e2,e3⟩:=DY (R:=R);have d1:(aX D).fl=D.fl∧(aX D).fb=D.fb∧(aX D).fs=D.fs:=by unfold aX;split<;>exact⟨rfl,rfl,rfl⟩
 have ha:=(nr h hr).at n;rw[hf]at ha;simp only at ha;have hfl:=h.inl _ (ic hf);rw[ha,ye];have hFl:=h1.fl;rw[d1.1,d1.2.1,d1.2.2]at hFl;refine⟨{room:=h1.room,left:=h1.left,dark:=h1.dark,count:=h1.count,nd:=h1.nd,fl:=?_,base:=by simpa[ce,dD]using h1.base,wait:=by simpa[ce,gZ,dD]using h1.wait,nm:=h1.nm},{room:=h1.room,left:=h1.left,dark:=h1.dark,count:=h1.count,nd:=h1.nd,fl:=?_,base:=by simpa[ce,dD]using h1.base,wait:=by simpa[ce,gZ,dD]using h1.wait,nm:=h1.nm}⟩
 ·simp only[dD,ce,gz];rw[d1.1,d1.2.1,d1.2.2];exact hFl.modify hfl fun g g1 g2=>by simp[g1,g2]
 ·simp only[dD,ce,gz];rw[d1.1,d1.2.1,d1.2.2];exact hFl.modify hfl fun g g1 g2=>by simp[g1]
def DZ{S:St}{o K:Nat}{D:Dk}{R:RD}(h:At S o K D)(hr:cQ D R){n to:Nm}{b:List UInt8}{k:Nat}{lv wv':PV} :
  (bg to=true→cQ {aX D with live:=doE (n,to,none) D.live,wait:=D.wait++[(n,to,none)],wv:=wv'} (ce (cA R) 3 n to b k lv)) ∧
  cQ {aX D with live:=doE (n,[],none) D.live,wait:=D.wait++[(n,[],none)],wv:=wv'} (ce (cA R) 4 n to b k lv) ∧
  (∀B,cQ {aX D with bi:=B,base:=D.live,wait:=[],wv:=.nils} (ce (cA R) 6 n to b k lv)):=by
 obtain⟨_,h1⟩:=yf hr;obtain⟨e1,e2,e3⟩:=DY (R:=R);have d1:(aX D).fl=D.fl∧(aX D).wait=D.wait∧(aX D).live=D.live:=by unfold aX;split<;>exact⟨rfl,rfl,rfl⟩
 have hnm:∀y:di,y.2.2=none→∀x∈D.wait++[y],x.2.2≠none→x.2.1≠[]:=by
  intro y hy x hx hx2;rcases dA.1 hx with hx|hx
  ·exact hr.nm x hx hx2
  ·simp only[se]at hx;subst hx;exact absurd hy hx2
 refine⟨fun hto=>{room:=h1.room,left:=h1.left,dark:=h1.dark,count:=h1.count,nd:=h1.nd,fl:=by simpa[ce,gz]using h1.fl,base:=by simpa[ce]using h1.base,wait:=?_,nm:=hnm _ rfl},{room:=h1.room,left:=h1.left,dark:=h1.dark,count:=h1.count,nd:=h1.nd,fl:=by simpa[ce,gz]using h1.fl,base:=by simpa[ce]using h1.base,wait:=?_,nm:=hnm _ rfl},fun B=>{room:=h1.room,left:=h1.left,dark:=h1.dark,count:=h1.count,nd:=h1.nd,fl:=by simpa[ce,gz]using h1.fl,base:=?_,wait:=by simp[ce,gZ],nm:=fun x hx=>by cases hx}⟩
 ·have hne:to≠[]:=by intro e;subst e;simp[bg]at hto
  simp only[ce,gZ];rw[e2,hr.wait,d1.1,eh];simp[kI,hne]
 ·simp only[ce,gZ];rw[e2,hr.wait,d1.1,eh];simp[kI]
 ·simp only[ce,if_true];rw[d1.1,DQ];exact nr h hr
def aCn {D:Dk} {R:RD} (hr:cQ D R) (n:Int):cQ (jD D n) (lT R n):={hr with left:=rfl}
def aCo{S:St}{o K:Nat}{D:Dk}{R:RD}(h:At S o K D)(hr:cQ D R)(dirs:Int)(kept:List Int){li':Nat}{fv':Nat→PV}{lv:PV}:cQ (fK D li' fv' dirs kept) (lU R dirs kept lv):=by
 have hk:hI R dirs=ig D dirs:=by unfold hI ig;rw[hr.wait,List.length_map]
 have hd:=Vk h hr (ig D dirs);refine {hr with left:=rfl,dark:=rfl,fl:=?_,base:=?_,wait:=rfl,nm:=fun x hx=>by cases hx}
 ·simp only[fK,lU,Cw,hk];rw[hd.sort];exact Vl hd (h.dirF _) kept _ 0 _ _ _ (fun e he=>he) hr.fl
 ·simp only[fK,lU,hk];exact hd
def aCp{room:Int}(bi li:Nat)(fb:Nat→List UInt8)(fs:Nat→Nat)(fv:Nat→PV):cQ ⟨room,-1,0,false,bi,li,[],[],[],.nils,[],fb,fs,fv⟩ (fq room) where
 room:=rfl
 left:=rfl
 dark:=rfl
 count:=rfl
 nd:=.nil
 fl:=⟨rfl,fun f hf=>by cases hf⟩
 base:=DR.nil _
 wait:=rfl
 nm:=fun x hx=>by cases hx
end Ps
