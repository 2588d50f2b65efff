/- The document's disk: dL, step, List, Read, Fuse, New. -/
import Derived.Test.YtbjefjhmnojdoaaGreatDefs
import Derived.Test.YtbjefjhmnojdoaaGreatGB
set_option linter.defProp false
namespace Ps
set_option linter.unusedSimpArgs false
set_option linter.unusedVariables false
open Go
structure RS where
 kind:Int
 name:Nm
 to:Nm
 file:Int
def RS.v(s:RS):PV:=.agg [.int .i64 s.kind,.str s.name,.str s.to,.int .i64 s.file]
@[simp]def RS.v_cells(s:RS):s.v.cells=[.int .i64 s.kind,.str s.name,.str s.to,.int .i64 s.file]:=rfl
structure RF where
 bv:PV
 b:List UInt8
 s:Int
def RF.v(f:RF):PV:=.agg [f.bv,.int .i64 f.s]
@[simp]def RF.v_cells(f:RF):f.v.cells=[f.bv,.int .i64 f.s]:=rfl
structure RD where
 room:Int
 fv:PV
 files:List RF
 bv:PV
 base:List RE
 wv:PV
 wait:List RS
 left:Int
 dark:Bool
 count:Int
def RD.c(R:RD):List PV:=[.int .i64 R.room,R.fv,R.bv,R.wv,.int .i64 R.left,.bool R.dark,.int .i64 R.count]
def RD.v(R:RD):PV:=.agg R.c
@[simp]def RD.v_cells(R:RD):R.v.cells=R.c:=rfl
structure RD.Wf(R:RD)(K:Nat):Prop where
 fs:cC 2 R.fv (R.files.map RF.v)
 bs:cC 2 R.bv (R.base.map bz)
 ws:cC 4 R.wv (R.wait.map RS.v)
 ff:∀f∈R.files,cC 1 f.bv (aL f.b)∧0≤f.s∧f.s≤f.b.length∧f.b.length≤4194304
 fl:R.files.length≤K
 bl:R.base.length+R.wait.length≤K
 rm:1≤R.room∧R.room≤4194304
 ct:0≤R.count∧R.count≤K
 lf:-1≤R.left∧R.left≤9223372036854775807
def RD.Wf.free{R:RD}{K:Nat}(h:R.Wf K):R.v.free=true:=by simp[RD.v,RD.c,PV.free,PV.freeL,h.fs.free,h.bs.free,h.ws.free]
def RD.Wf.frz{R:RD}{K:Nat}(h:R.Wf K):R.v.frz=R.v:=by simp[RD.v,RD.c,PV.frz,PV.frzL,h.fs.frz,h.bs.frz,h.ws.frz]
def RD.Wf.one{R:RD}{K:Nat}(h:R.Wf K):R.c.all PV.one=true:=by simp[RD.c,h.fs.one.1,h.bs.one.1,h.ws.one.1]
def jG(l:List RE)(s:RS):List RE:=
 if s.kind=1 then eT (s.name,s.file) false l
 else if s.kind=2 then eT (s.to,bC s.name l) false (eH s.name l)
 else if s.kind=3 then eH s.name l else l
def dirL(base:List RE)(ws:List RS):List RE:=ws.foldl jG base
def VL(n:Nm)(l:List RE):(eH n l).length≤l.length:=Zf _ _
def aBP(l:List RE)(s:RS):(jG l s).length≤l.length+1:=by
 unfold jG;have h1:=DL (s.name,s.file) false l;have h2:=DL (s.to,bC s.name l) false (eH s.name l);have h3:=VL s.name l;simp at h1 h2;split
 ·omega
 ·split
  ·omega
  ·split<;>omega
theorem uR:∀(ws:List RS) (base:List RE),(dirL base ws).length≤base.length+ws.length
 | [],base=>by simp[dirL]
 |s::ws,base=>by
  have:=uR ws (jG base s);have h2:=aBP base s;simp only[dirL,vz,bV]at this ⊢;omega
def aBQ(base:List RE)(ws:List RS)(s:RS):dirL base (ws++[s])=jG (dirL base ws) s:=by simp[dirL,List.foldl_append]
def aBR{l:List RE}{v:PV}(hv:bT 2 v (l.map bz))(hl:l.length≤1048576){n:Nm}:∃v',eu T 296 [v,.str n]=some v'∧cC 2 v' ((eH n l).map bz):=by
 obtain⟨v',h1,h2⟩:=VJ hv hl (n:=n) (S:=bk);exact⟨v',iH h1 h2.free h2.frz,h2⟩
def rP{a b c d:PV}{l:List PV}:ae true 4 (a::b::c::d::l)=some (.agg [a,b,c,d]):=by simp[ae]
def ah{a b c d e f g:PV}:ae true 7 [a,b,c,d,e,f,g]=some (.agg [a,b,c,d,e,f,g]):=rfl
@[simp]def aQi{c:Bool}{x:PV}:aK c (some x)=some (gd c x):=aME c x
def VM{R:RD}{K:Nat}(h:R.Wf K)(hK:K≤1048570){k:Nat}(hk:k≤R.wait.length){S:St}:∃v',aO T 207 [R.v,.int .i64 (k:Int)] S=some (v',S)∧cC 2 v' ((dirL R.base (R.wait.take k)).map bz):=by
 have hkm:k≤maxLen:=by have:=h.bl;unfold maxLen;omega
 have hbl:=h.bl
 obtain⟨r,S2,h1,h2,h3⟩:=eB (T:=T) aBL (args:=[R.v,.int .i64 (k:Int)]) (S:=S) rfl (R:=fun r S2=>S2=S∧cC 2 r ((dirL R.base (R.wait.take k)).map bz)) (by
  simp -implicitDefEqProofs [tg,aI,h.one];simp -implicitDefEqProofs [RD.c];refine lP k (fun i fr S'=>fr 1=.int .i64 (k:Int)∧fr 2=.ref R.c∧fr 6=.int .i64 (i:Int)∧aP S S'∧cC 2 (fr 5) ((dirL R.base (R.wait.take i)).map bz)) ?_ ?_ 0 (Nat.zero_le _) _ _ ⟨by simp,by simp[RD.c],by simp,aP.refl S,by simpa[dirL]using h.bs⟩
  ·rintro i fr S' hi ⟨f1,f2,f6,hg,hs⟩ kk;have hw:=lQ hi hkm;have hiw:i<R.wait.length:=by omega
   have hgw:=h.ws.reads.get i (by simpa using hiw) .i64;have hx:(R.wait.map RS.v)[i]'(by simpa using hiw)=R.wait[i].v:=by simp
   rw[hx,RS.v_cells]at hgw;have ht:R.wait.take (i+1)=R.wait.take i++[R.wait[i]]:=by rw[sj,cJ hiw];rfl
   obtain⟨s,hs0⟩:∃s,s=R.wait[i]:=⟨_,rfl⟩;rw[←hs0]at hgw ht;obtain⟨l,hl0⟩:∃l,l=dirL R.base (R.wait.take i):=⟨_,rfl⟩;rw[←hl0]at hs
   have hll:l.length≤1048576:=by
    have:=uR (R.wait.take i) R.base;rw[hl0];simp at this;omega
   have hL:∀(fr':Fr) (S1:St),fr' 1=.int .i64 (k:Int)→fr' 2=.ref R.c→fr' 6=.int .i64 ((i:Int)+1)→aP S S1→cC 2 (fr' 5) ((jG l s).map bz)→Ok (aJ T (.lp By::.blk 0::[.code (.seq (.clr [(53,54)] (.region Bz)) .ret)]) fr' S1) (fun fr S1=>(ac false S S1 (fr 4)).2=S∧cC 2 (ac false S S1 (fr 4)).1 ((dirL R.base (R.wait.take k)).map bz)):=by
    intro fr' S1 g1 g2 g6 gg g5;refine kk fr' S1 ⟨g1,g2,by simpa using g6,gg,?_⟩;rw[ht,aBQ,←hl0];exact g5
   clear kk;have hlk:((i:Int)<(k:Int)):=by omega
   obtain⟨kind,name,to,file⟩:=s;simp only at hgw;rw[af];by_cases e1:kind=1
   ·subst e1;obtain⟨v',w1,w2⟩:=VK hs.reads hll (x:=(name,file)) (S:=⟨S'.objs++[[.int .i64 1,.str name,.str to,.int .i64 file]],S'.tips⟩);simp only[bz]at w1;simp -implicitDefEqProofs [f1,f2,f6,RD.c,hlk,hi,hgw,rP,aI,aR,aQ,bK,ae,w1];exact hL _ _ (by simp[f1]) (by simp[f2,RD.c]) (by simp[hw]) (hg.objs _) (by simpa[jG]using w2)
   ·have e1':(kind==1)=false:=by simpa using e1
    by_cases e2:kind=2
    ·subst e2;have a1:=uQ hs.reads (by unfold maxLen;omega:l.length≤maxLen) (n:=name) (S:=⟨S'.objs++[[.int .i64 2,.str name,.str to,.int .i64 file]],S'.tips⟩);obtain⟨v1,b1,b2⟩:=aBR hs.reads hll (n:=name);have hb3:=VL name l;obtain⟨v',w1,w2⟩:=VK b2.reads (by omega) (x:=(to,bC name l)) (S:=⟨S'.objs++[[.int .i64 2,.str name,.str to,.int .i64 file]],S'.tips⟩);simp only[bz]at w1;simp -implicitDefEqProofs [f1,f2,f6,RD.c,hlk,hi,hgw,rP,aI,aR,aQ,bK,ae,a1,hs.free,hs.frz,b1,w1];exact hL _ _ (by simp[f1]) (by simp[f2,RD.c]) (by simp[hw]) (hg.objs _) (by simpa[jG]using w2)
    ·have e2':(kind==2)=false:=by simpa using e2
     by_cases e3:kind=3
     ·subst e3;obtain⟨v1,b1,b2⟩:=VJ hs.reads hll (n:=name) (S:=⟨S'.objs++[[.int .i64 3,.str name,.str to,.int .i64 file]],S'.tips⟩);simp -implicitDefEqProofs [f1,f2,f6,RD.c,hlk,hi,hgw,rP,aI,aR,aQ,bK,ae,b1];exact hL _ _ (by simp[f1]) (by simp[f2,RD.c]) (by simp[hw]) (hg.objs _) (by simpa[jG]using b2)
     ·have e3':(kind==3)=false:=by simpa using e3
      simp -implicitDefEqProofs [f1,f2,f6,RD.c,hlk,hi,hgw,rP,aI,aR,aQ,bK,ae,e1',e2',e3'];exact hL _ _ (by simp[f1]) (by simp[f2,RD.c]) (by simp[hw]) (hg.objs _) (by simpa[jG,e1,e2,e3]using hs)
  ·rintro fr S' ⟨f1,f2,f6,hg,hs⟩;rw[af];simp -implicitDefEqProofs [f1,f2,f6];rw[cN hg hs.free,hs.frz];exact⟨rfl,hs⟩)
 subst h2;exact⟨r,h1,h3⟩
end Ps
set_option linter.defProp false
namespace Ps
set_option linter.unusedSimpArgs false
set_option linter.unusedVariables false
open Go
def aBS:T.fn 87=some (.code nK):=rfl
def aBT:T.fn 88=some (.code pC):=rfl
def aBU:T.fn 92=some (.code tW):=rfl
def VN:T.fn 17=some (.code oz):=rfl
def aZ(R:RD):List RE:=dirL R.base R.wait
def uS{R:RD}{K:Nat}(h:R.Wf K)(hK:K≤1048570){S:St}:∃v',aO T 204 [R.v] S=some (v',S)∧cC 2 v' ((aZ R).map bz):=by
 obtain⟨v',h1,h2⟩:=VM h hK (aj _) (S:=S);rw[iy]at h2;refine⟨v',?_,h2⟩;have hl:=h.ws.len;rw[List.length_map]at hl;simp only[RD.v,RD.c]at h1;have h1:aO T 207 [.agg [.int .i64 R.room,R.fv,R.bv,R.wv,.int .i64 R.left,.bool R.dark,.int .i64 R.count],.int .i64 (R.wait.length:Int)] S=some (v',S):=h1;refine aW aBJ rfl ?_;simp -implicitDefEqProofs [td,aI,h.one];simp -implicitDefEqProofs [RD.c,ah,hl,h1];rw[cN (aP.refl S) h2.free,h2.frz]
def lS{R:RD}{K:Nat}(h:R.Wf K):(aZ R).length≤K:=by
 have:=uR R.wait R.base;have:=h.bl;unfold aZ;omega
def gy(R:RD):Int:=if R.dark||R.left==0 then 6 else 0
def cA (R:RD):RD:=if R.dark||R.left==0 then {R with dark:=true}else {R with left:=if R.left>0 then R.left-1 else R.left,count:=R.count+1}
def yX{R:RD}{K:Nat}(h:R.Wf K):(cA R).Wf (K+1):=by
 unfold cA;have hl:=h.lf;have hc:=h.ct;split
 ·exact {h with fl:=Ai h.fl,bl:=Ai h.bl,ct:=⟨hc.1,by have:=hc.2;simp;omega⟩}
 ·refine {h with fl:=Ai h.fl,bl:=Ai h.bl,ct:=⟨by simp;omega,by have:=hc.2;simp;omega⟩,lf:=?_};simp only;split<;>omega
def gK{R:RD}{K:Nat}(h:R.Wf K){S S':St}(hg:aP S S')(e:Int):ac false S S' (.tup [R.v,.int .i64 e])=(.tup [R.v,.int .i64 e],S):=by
 rw[cN hg (by simp[PV.free,PV.freeL,h.free])];simp[PV.frz,PV.frzL,h.frz]
def yY{R:RD}{K:Nat}(h:R.Wf K){S S':St}(hg:aP S S'):ac false S S' R.v=(R.v,S):=by
 rw[cN hg h.free,h.frz]
def aBV{R:RD}{K:Nat}(h:R.Wf K)(hK:K≤1048570){S:St}:aO T 206 [R.v] S=some (.tup [(cA R).v,.int .i64 (gy R)],S):=by
 have hw':=yX h;have hlf:=h.lf;have hct:=h.ct;have o1:=h.fs.one.1;have o2:=h.bs.one.1;have o3:=h.ws.one.1;obtain⟨room,fv,files,bv,base,wv,wait,left,dark,count⟩:=R;simp only at o1 o2 o3;simp only at hlf hct;have hw1:IntKind.i64.wrap (count+1)=count+1:=bJ (by omega) (by omega);by_cases hl:left=0
 ·subst hl;have eD:cA ⟨room,fv,files,bv,base,wv,wait,0,dark,count⟩=⟨room,fv,files,bv,base,wv,wait,0,true,count⟩:=by simp[cA]
  have eR:gy ⟨room,fv,files,bv,base,wv,wait,0,dark,count⟩=6:=by simp[gy]
  rw[eD]at hw';rw[eD,eR];refine aW yW rfl ?_;simp only[RD.v,RD.c];simp -implicitDefEqProofs [nN,aI,o1,o2,o3,aR,ah];exact fM (by simp[ah]<;>rfl) (by simp<;>rfl) (gK hw' ((aP.refl S).objs [_,_]) 6)
 ·have hl':(left==0)=false:=by simpa using hl
  cases dark with
  |true=>
   have eD:cA ⟨room,fv,files,bv,base,wv,wait,left,true,count⟩=⟨room,fv,files,bv,base,wv,wait,left,true,count⟩:=by simp[cA]
   have eR:gy ⟨room,fv,files,bv,base,wv,wait,left,true,count⟩=6:=by simp[gy]
   rw[eD]at hw';rw[eD,eR];refine aW yW rfl ?_;simp only[RD.v,RD.c];simp -implicitDefEqProofs [nN,aI,o1,o2,o3,aR,ah,hl']
   exact fM (by simp[ah]<;>rfl) (by simp<;>rfl) (gK hw' ((aP.refl S).objs [_,_]) 6)
  |false=>
   have eR:gy ⟨room,fv,files,bv,base,wv,wait,left,false,count⟩=0:=by simp[gy,hl]
   by_cases hp:0<left
   ·have hw2:IntKind.i64.wrap (left-1)=left-1:=bJ (by omega) (by omega);have eD:cA ⟨room,fv,files,bv,base,wv,wait,left,false,count⟩=⟨room,fv,files,bv,base,wv,wait,left-1,false,count+1⟩:=by simp[cA,hl,hp]
    rw[eD]at hw';rw[eD,eR];refine aW yW rfl ?_;simp only[RD.v,RD.c];simp -implicitDefEqProofs [nN,aI,o1,o2,o3,aR,ah,hl',hp,hw1,hw2];exact fM (by simp[ah]<;>rfl) (by simp<;>rfl) (gK hw' ((aP.refl S).objs [_,_]) 0)
   ·have eD:cA ⟨room,fv,files,bv,base,wv,wait,left,false,count⟩=⟨room,fv,files,bv,base,wv,wait,left,false,count+1⟩:=by simp[cA,hl,hp]
    rw[eD]at hw';rw[eD,eR];refine aW yW rfl ?_;simp only[RD.v,RD.c];simp -implicitDefEqProofs [nN,aI,o1,o2,o3,aR,ah,hl',hp,hw1];exact fM (by simp[ah]<;>rfl) (by simp<;>rfl) (gK hw' ((aP.refl S).objs [_,_]) 0)
def fq(room:Int):RD:=⟨room,.nils,[],.nils,[],.nils,[],-1,false,0⟩
def VO{room:Int}(h:1≤room∧room≤4194304):(fq room).Wf 0 where
 fs:=lR 2
 bs:=lR 2
 ws:=lR 4
 ff:=by simp[fq]
 fl:=by simp[fq]
 bl:=by simp[fq]
 rm:=h
 ct:=by simp[fq]
 lf:=by simp[fq]
def aBW{room:Int}(h:1≤room∧room≤4194304):aO T 17 [.int .i64 room] bk=some (.tup [(fq room).v,.int .i64 0],bk):=by
 have h1:¬room<1:=by omega
 have h2:¬4194304<room:=by omega
 refine aW VN rfl ?_;simp -implicitDefEqProofs [oz,aI,aR,aQ,bK,ah,h1,h2,fq,RD.v,RD.c];exact fM (by simp[ah]<;>rfl) (by simp<;>rfl) (gK (VO h) ((aP.refl bk).objs [_]) 0)
def aBX{room:Int}(h:1≤room∧room≤4194304):eu T 17 [.int .i64 room]=some (.tup [(fq room).v,.int .i64 0]):=iH (aBW h) rfl rfl
def lT (R:RD) (n:Int):RD:={R with left:=if n < -1 then -1 else n}
def VP{R:RD}{K:Nat}(h:R.Wf K){n:Int}(hn:n≤9223372036854775807):(lT R n).Wf K:=
 {h with lf:=by simp only[lT];split<;>omega}
def aBY{R:RD}{K:Nat}(h:R.Wf K){n:Int}(hn:n≤9223372036854775807){S:St}:aO T 88 [R.v,.int .i64 n] S=some ((lT R n).v,S):=by
 have hw':=VP h hn;have o1:=h.fs.one.1;have o2:=h.bs.one.1;have o3:=h.ws.one.1;obtain⟨room,fv,files,bv,base,wv,wait,left,dark,count⟩:=R;simp only at o1 o2 o3;refine aW aBT rfl ?_;simp only[RD.v,RD.c];by_cases hc:n < -1
 ·have eD:lT ⟨room,fv,files,bv,base,wv,wait,left,dark,count⟩ n=⟨room,fv,files,bv,base,wv,wait,-1,dark,count⟩:=by simp[lT,hc]
  rw[eD]at hw' ⊢;simp -implicitDefEqProofs [pC,aI,o1,o2,o3,aR,ah,hc]
  first
   |exact uP (by simp[ah]<;>rfl) (yY hw' ((aP.refl S).objs [_,_]))
   |(rw[if_pos (by omega)];exact uP (by simp[ah]<;>rfl) (yY hw' ((aP.refl S).objs [_,_])))
 ·have eD:lT ⟨room,fv,files,bv,base,wv,wait,left,dark,count⟩ n=⟨room,fv,files,bv,base,wv,wait,n,dark,count⟩:=by simp[lT,hc]
  rw[eD]at hw' ⊢;by_cases hc2:n = -1
  ·subst hc2;simp -implicitDefEqProofs [pC,aI,o1,o2,o3,aR,ah];exact uP (by simp[ah]<;>rfl) (yY hw' ((aP.refl S).objs [_,_]))
  ·have h3:-1<n:=by omega
   have h4:¬n < -1:=by omega
   simp -implicitDefEqProofs [pC,aI,o1,o2,o3,aR,ah,h3,h4];exact uP (by simp[ah]<;>rfl) (yY hw' ((aP.refl S).objs [_,_]))
def gY(R:RD)(n:Nm):Int:=if bg n=false then 8 else if bC n (aZ R)<0 then 9 else if R.dark then 6 else 0
def eU(R:RD)(n:Nm):PV:=if gY R n=0 then(match R.files[(bC n (aZ R)).toNat]? with|some f=>f.bv|none=>.nils)else .nils
def uT(R:RD)(n:Nm):List UInt8:=if gY R n=0 then(match R.files[(bC n (aZ R)).toNat]? with|some f=>f.b|none=>[])else []
def DM{R:RD}{K:Nat}(h:R.Wf K)(n:Nm):cC 1 (eU R n) (aL (uT R n)):=by
 unfold eU uT;split
 ·split
  ·rename_i f hf;exact(h.ff f (dZ hf)).1
  ·exact lR 1
 ·exact lR 1
def VQ{R:RD}{K:Nat}(h:R.Wf K)(hK:K≤1048570){n:Nm}(hn:n.length≤maxLen)(hf:∀e∈aZ R,e.2<R.files.length){S:St}:aO T 87 [R.v,.str n] S=some (.tup [eU R n,.int .i64 (gY R n)],S):=by
 have hnm:=DH hn;obtain⟨lv,l1,l2⟩:=uS h hK (S:=S);have hll:(aZ R).length≤maxLen:=by have:=lS h;unfold maxLen;omega
 have ha:=uQ l2.reads hll (n:=n) (S:=S);have hsl:=DM h n;have o1:=h.fs.one.1;have o2:=h.bs.one.1;have o3:=h.ws.one.1
 have hfin:∀e:Int,e=gY R n→ac false S S (.tup [eU R n,.int .i64 e])=(.tup [eU R n,.int .i64 (gY R n)],S):=by
  intro e he;subst he;rw[cN (aP.refl S) (by simp[PV.free,PV.freeL,hsl.free])];simp[PV.frz,PV.frzL,hsl.frz]
 have hat:0≤bC n (aZ R)→(bC n (aZ R)).toNat<R.files.length:=by
  have key:∀l:List RE,(∀e∈l,e.2<R.files.length)→0≤bC n l→(bC n l).toNat<R.files.length:=by
   intro l
   induction l with
   |nil=>intro _ h;simp[bC]at h
   |cons x l ih=>
    obtain⟨q,f⟩:=x;intro h1 h2;simp only[bC]at h2 ⊢;split at h2
    ·rename_i hq;have:=h1 (q,f) (by simp);simp only[hq,if_true];simp only at this;omega
    ·rename_i hq;simp only[hq,if_false,cF];exact ih (fun e he=>h1 e (by simp[he])) h2
  exact key _ hf
 refine aW aBS rfl ?_;simp only[RD.v,RD.c]at l1 ⊢;by_cases h1:bg n=true
 ·by_cases h2:bC n (aZ R)<0
  ·simp -implicitDefEqProofs [nK,aI,o1,o2,o3,hnm,h1,h2,ah,l1,ha];have e:gY R n=9:=by simp[gY,h1,h2]
   have e2:eU R n=.nils:=by simp[eU,e]
   have:=hfin 9 e.symm;rw[e2]at this ⊢;exact this
  ·have hlt:=hat (by omega);have hx:R.files[(bC n (aZ R)).toNat]?=some R.files[(bC n (aZ R)).toNat]:=cJ hlt
   cases hd:R.dark with
   |true=>
    simp -implicitDefEqProofs [nK,aI,o1,o2,o3,hnm,h1,h2,ah,l1,ha,hd];rw[hd]at l1;have e:gY R n=6:=by simp[gY,h1,h2,hd]
    have e2:eU R n=.nils:=by simp[eU,e]
    have:=hfin 6 e.symm;rw[e2]at this ⊢;simp -implicitDefEqProofs [l1,ha,h2,hd]
    exact this
   |false=>
    rw[hd]at l1;have hg:=h.fs.reads.get (bC n (aZ R)).toNat (by simpa using hlt) .i64;have hgx:(R.files.map RF.v)[(bC n (aZ R)).toNat]'(by simpa using hlt)=R.files[(bC n (aZ R)).toNat].v:=by simp
    rw[hgx,RF.v_cells]at hg;have hnn:(((bC n (aZ R)).toNat:Nat):Int)=bC n (aZ R):=by omega
    rw[hnn]at hg;have e:gY R n=0:=by simp[gY,h1,h2,hd]
    have e2:eU R n=R.files[(bC n (aZ R)).toNat].bv:=by simp only[eU,e,if_true,hx]
    have:=hfin 0 e.symm;rw[e2]at this ⊢;simp -implicitDefEqProofs [nK,aI,o1,o2,o3,hnm,h1,h2,ah,l1,ha,hd,hg];exact this
 ·have h1':bg n=false:=by simpa using h1
  simp -implicitDefEqProofs [nK,aI,o1,o2,o3,hnm,h1'];have e:gY R n=8:=by simp[gY,h1']
  have e2:eU R n=.nils:=by simp[eU,e]
  have:=hfin 8 e.symm;rw[e2]at this ⊢;exact this
def pU(R:RD):List Nm:=if R.dark then []else(aZ R).map (·.1)
def aBZ{R:RD}{K:Nat}(h:R.Wf K)(hK:K≤1048570){S:St}:∃v,aO T 92 [R.v] S=some (v,S)∧cC 1 v ((pU R).map .str):=by
 obtain⟨lv,l1,l2⟩:=uS h hK (S:=S);have hll:(aZ R).length≤maxLen:=by have:=lS h;unfold maxLen;omega
 have hlen:=l2.len;rw[List.length_map]at hlen;have o1:=h.fs.one.1;have o2:=h.bs.one.1;have o3:=h.ws.one.1;simp only[RD.v,RD.c]at l1 ⊢
 obtain⟨r,S2,h1,h2,h3⟩:=eB (T:=T) aBU (args:=[.agg [.int .i64 R.room,R.fv,R.bv,R.wv,.int .i64 R.left,.bool R.dark,.int .i64 R.count]]) (S:=S) rfl (R:=fun r S2=>S2=S∧cC 1 r ((pU R).map .str)) (by
  simp -implicitDefEqProofs [tW,aI,o1,o2,o3,ah,l1];refine lP (if R.dark then 0 else(aZ R).length) (fun i fr S'=>fr 1=.ref [.int .i64 R.room,R.fv,R.bv,R.wv,.int .i64 R.left,.bool R.dark,.int .i64 R.count]∧fr 4=lv∧fr 5=.int .i64 (i:Int)∧bB S 1 S' (fr 3) (((aZ R).take i).map fun e=>.str e.1)) ?_ ?_ 0 (Nat.zero_le _) _ _ ⟨by simp,by simp,by simp,by simpa using ip 1 (aP.refl S)⟩
  ·rintro i fr S' hi ⟨f1,f4,f5,ha⟩ k
   cases hd:R.dark with
   |true=>rw[hd]at hi;simp at hi
   |false=>
    rw[hd]at hi f1;simp only[cF,if_false]at hi;have hw:=lQ hi hll;have hg:=l2.reads.get i (by simpa using hi) .i64;have hx:((aZ R).map bz)[i]'(by simpa using hi)=bz (aZ R)[i]:=by simp
    rw[hx,rO]at hg;have ht:(aZ R).take (i+1)=(aZ R).take i++[(aZ R)[i]]:=by rw[sj,cJ hi];rfl
    have hle:(((aZ R).take i).map fun e=>PV.str e.1).length≤1048576:=by
     have:=lS h;simp;omega
    obtain⟨v',S1,a1,a2,a3⟩:=ha.push (bytes:=16) (.str (aZ R)[i].1) (by omega);have hL:=fun(fr':Fr) (g1:fr' 1=_) (g4:fr' 4=lv) (g5:fr' 5=.int .i64 ((i:Int)+1)) (g3:fr' 3=v')=>k fr' S1 ⟨g1,g4,by simpa using g5,by rw[g3,ht,eh];exact a2⟩;clear k;rw[af];simp -implicitDefEqProofs [f1,f4,f5,hlen,hi,hg,aI,bL,bR,Cd,a1];exact hL _ (by simp[f1,hd]) (by simp[f4]) (by simp[hw]) (by simp)
  ·rintro fr S' ⟨f1,f4,f5,ha⟩
   have hz:(((aZ R).take (if R.dark then 0 else(aZ R).length)).map fun e=>PV.str e.1)=(pU R).map .str:=by
    unfold pU;cases R.dark<;>simp
   rw[hz]at ha;obtain⟨q1,q2⟩:=ha.sl0 (fun e he=>by obtain⟨x,_,rfl⟩:=cD.1 he;rfl) (lY _ (fun _=>rfl) _) (mb _ (fun _=>rfl) _);rw[af]
   cases hd:R.dark with
   |true=>
    rw[hd]at f1 f5;simp only[if_true]at f5;by_cases h0:0<(aZ R).length
    ·have h0':(0:Int)<((aZ R).length:Int):=by omega
     simp -implicitDefEqProofs [f1,f4,f5,hlen,h0,h0',q1,q2]
    ·have h0':¬(0:Int)<((aZ R).length:Int):=by omega
     simp -implicitDefEqProofs [f1,f4,f5,hlen,h0,h0',q1,q2]
   |false=>
    rw[hd]at f1 f5;simp only[cF,if_false]at f5;simp -implicitDefEqProofs [f1,f4,f5,hlen,q1,q2])
 subst h2;exact⟨r,h1,h3⟩
end Ps
