/- The program's functions are the pure ones: printed by program, checked by the kernel. -/
import Derived.Test.YtpjmpaidcidjgaaGreatDoorAbbKt
import Derived.Test.YtpjmpaidcidjgaaGreatDoorCodeKt
import Derived.Test.YtpjmpaidcidjgaaGreatDoorExtMKt
import Derived.Test.YtpjmpaidcidjgaaGreatDoorChecked
import Derived.Test.YtpjmpaidcidjgaaGreatDoorShelfMKt
set_option linter.defProp false
namespace Ps
open Go Go.Proofs
set_option maxRecDepth 10000
def yv:List (Nat×Nat):=[(0,0),(1,1),(2,2),(459,3),(456,4),(458,5),(457,6),(460,7),(155,8),(63,9),(64,10),(151,11),(170,12),(65,13),(66,14),(171,15),(157,16),(177,17),(51,18),(153,19),(261,20),(107,21),(262,22),(134,23),(263,24),(264,25),(161,26),(152,27),(154,28),(169,29),(52,30),(174,31),(257,32),(26,33),(156,34),(158,35),(159,36),(160,37),(133,38),(162,39),(136,40),(163,41),(164,42),(165,43),(176,44),(265,45),(40,46),(28,47),(130,48),(218,49),(234,50),(108,51),(333,52),(334,53),(270,54),(135,55),(219,56),(258,57),(259,58),(260,59),(98,60),(102,61),(329,62),(266,63),(267,64),(268,65),(269,66),(232,67),(233,68),(271,69),(201,70),(272,71),(55,72),(335,73),(336,74),(337,75),(338,76),(121,77),(103,78),(104,79),(105,80),(106,81),(199,82),(314,83),(377,84),(378,85),(342,86),(235,87),(220,88),(236,89),(330,90),(331,91),(332,92),(126,93),(216,94),(339,95),(340,96),(341,97),(110,98),(111,99),(379,100),(380,101),(217,102),(293,103),(239,104),(362,105),(404,106),(405,107),(373,108),(139,109),(238,110),(375,111),(376,112),(406,113),(347,114),(316,115),(317,116),(413,117),(414,118),(415,119),(401,120),(402,121),(403,122),(363,123),(364,124),(365,125),(366,126),(367,127),(368,128),(369,129),(370,130),(371,131),(372,132),(412,133),(394,134),(395,135),(396,136),(397,137),(398,138),(411,139),(417,140),(418,141),(419,142),(420,143),(421,144),(422,145),(423,146),(424,147),(425,148),(426,149),(427,150),(428,151),(429,152),(430,153),(431,154),(432,155),(433,156),(434,157),(436,158),(437,159),(438,160),(441,161),(442,162),(443,163),(444,164),(445,165),(446,166),(447,167),(448,168),(449,169),(450,170),(451,171),(455,172),(494,176)]
def Pr:List (Nat×Nat):=[(0,9),(3,72),(1,74),(2,77),(11,144),(6,174),(7,177),(8,179),(13,249)]
def Pt:List (Nat×String):=[(0, "gauge/regex.ends"),(1, "Kind"),(2, "Elem"),(3, "Implements"),(4, "AssignableTo"),(5, "As"),(6, "Unwrap")]
def Pu:List (Nat×Nat×Nat):=[]
def Pv:List (Nat×nK):=[(155,.code jD),(64,.code lg),(171,.code wC),(157,.code z6),(51,.code lj),(153,.code nJ),(261,.code pG),(107,.code z23),(262,.code z26),(263,.code kX),(264,.code z29),(161,.code pI),(152,.code z33),(154,.code pJ),(174,.code z53),(257,.code wY),(156,.code wZ),(133,.code wa),(136,.code wb),(164,.code wg),(165,.code z1),(176,.code z3),(40,.code z46),(28,.code pK),(130,.code z5),(218,.code pL),(108,.code z24),(333,.code pM),(334,.code z2),(270,.code ol),(135,.code z44),(219,.code uw),(258,.code z32),(259,.code vB),(260,.code oq),(329,.code z64),(232,.code vC),(233,.code z9),(201,.code z8),(272,.code vD),(55,.code z7),(121,.code ot),(103,.code z0),(104,.code ou),(105,.code z57),(106,.code z4),(199,.exs (nO 362)),(314,.code ov),(377,.code ow),(378,.code oy),(342,.code z35),(235,.code vG),(220,.code vH),(236,.code vI),(330,.code z36),(331,.code vJ),(332,.code vK),(110,.code vM),(111,.code vN),(379,.code vO),(380,.code z41),(217,.code oz),(404,.code nH),(405,.code pA),(373,.code pB),(139,.code vQ),(238,.code vR),(375,.code z28),(376,.code z63),(406,.code vT),(413,.code pC),(414,.code lf),(415,.code z27),(401,.code vY),(402,.code vZ),(403,.code va),(412,.code vb)]
def T:aM:=⟨gU Pv,rj Pu⟩
noncomputable def tie:Tie:=⟨Tryz.prog,T,wx yv 100000,pQ Pr,Mn Pt,[(0,.iface 169 (.agg #[.pointer (some ⟨1,74,none⟩)]))]⟩
def Pw:ah tie Tryz.f8 jD=true:=by kernel_rfl
def aAw:ai tie 155 (.code jD):=⟨Tryz.f8,Tryz.func8,Pw⟩
def Px:ah tie Tryz.f10 lg=true:=by kernel_rfl
def aAx:ai tie 64 (.code lg):=⟨Tryz.f10,Tryz.func10,Px⟩
def aAy:ah tie Tryz.f15 wC=true:=by kernel_rfl
def aAz:ai tie 171 (.code wC):=⟨Tryz.f15,Tryz.func15,aAy⟩
def aAA:ah tie Tryz.f16 z6=true:=by kernel_rfl
def aAB:ai tie 157 (.code z6):=⟨Tryz.f16,Tryz.func16,aAA⟩
def aAC:ah tie Tryz.f18 lj=true:=by kernel_rfl
def aAD:ai tie 51 (.code lj):=⟨Tryz.f18,Tryz.func18,aAC⟩
def aAE:ah tie Tryz.f19 nJ=true:=by kernel_rfl
def aAF:ai tie 153 (.code nJ):=⟨Tryz.f19,Tryz.func19,aAE⟩
def aAG:ah tie Tryz.f20 pG=true:=by kernel_rfl
def aAH:ai tie 261 (.code pG):=⟨Tryz.f20,Tryz.func20,aAG⟩
def aAI:ah tie Tryz.f21 z23=true:=by kernel_rfl
def aAJ:ai tie 107 (.code z23):=⟨Tryz.f21,Tryz.func21,aAI⟩
def aAK:ah tie Tryz.f22 z26=true:=by kernel_rfl
def aAL:ai tie 262 (.code z26):=⟨Tryz.f22,Tryz.func22,aAK⟩
def aAM:ah tie Tryz.f24 kX=true:=by kernel_rfl
def aAN:ai tie 263 (.code kX):=⟨Tryz.f24,Tryz.func24,aAM⟩
def aAO:ah tie Tryz.f25 z29=true:=by kernel_rfl
def aAP:ai tie 264 (.code z29):=⟨Tryz.f25,Tryz.func25,aAO⟩
def aAQ:ah tie Tryz.f26 pI=true:=by kernel_rfl
def aAR:ai tie 161 (.code pI):=⟨Tryz.f26,Tryz.func26,aAQ⟩
def aAS:ah tie Tryz.f27 z33=true:=by kernel_rfl
def aAT:ai tie 152 (.code z33):=⟨Tryz.f27,Tryz.func27,aAS⟩
def aAU:ah tie Tryz.f28 pJ=true:=by kernel_rfl
def aAV:ai tie 154 (.code pJ):=⟨Tryz.f28,Tryz.func28,aAU⟩
def aAW:ah tie Tryz.f31 z53=true:=by kernel_rfl
def aAX:ai tie 174 (.code z53):=⟨Tryz.f31,Tryz.func31,aAW⟩
def aAY:ah tie Tryz.f32 wY=true:=by kernel_rfl
def aAZ:ai tie 257 (.code wY):=⟨Tryz.f32,Tryz.func32,aAY⟩
def aA0:ah tie Tryz.f34 wZ=true:=by kernel_rfl
def aA1:ai tie 156 (.code wZ):=⟨Tryz.f34,Tryz.func34,aA0⟩
def aA2:ah tie Tryz.f38 wa=true:=by kernel_rfl
def aA3:ai tie 133 (.code wa):=⟨Tryz.f38,Tryz.func38,aA2⟩
def aA4:ah tie Tryz.f40 wb=true:=by kernel_rfl
def aA5:ai tie 136 (.code wb):=⟨Tryz.f40,Tryz.func40,aA4⟩
def aA6:ah tie Tryz.f42 wg=true:=by kernel_rfl
def aA7:ai tie 164 (.code wg):=⟨Tryz.f42,Tryz.func42,aA6⟩
def aA8:ah tie Tryz.f43 z1=true:=by kernel_rfl
def aA9:ai tie 165 (.code z1):=⟨Tryz.f43,Tryz.func43,aA8⟩
def aBa:ah tie Tryz.f44 z3=true:=by kernel_rfl
def aBb:ai tie 176 (.code z3):=⟨Tryz.f44,Tryz.func44,aBa⟩
def aBc:ah tie Tryz.f46 z46=true:=by kernel_rfl
def aBd:ai tie 40 (.code z46):=⟨Tryz.f46,Tryz.func46,aBc⟩
def aBe:ah tie Tryz.f47 pK=true:=by kernel_rfl
def aBf:ai tie 28 (.code pK):=⟨Tryz.f47,Tryz.func47,aBe⟩
def aBg:ah tie Tryz.f48 z5=true:=by kernel_rfl
def aBh:ai tie 130 (.code z5):=⟨Tryz.f48,Tryz.func48,aBg⟩
def aBi:ah tie Tryz.f49 pL=true:=by kernel_rfl
def aBj:ai tie 218 (.code pL):=⟨Tryz.f49,Tryz.func49,aBi⟩
def aBk:ah tie Tryz.f51 z24=true:=by kernel_rfl
def aBl:ai tie 108 (.code z24):=⟨Tryz.f51,Tryz.func51,aBk⟩
def aBm:ah tie Tryz.f52 pM=true:=by kernel_rfl
def aBn:ai tie 333 (.code pM):=⟨Tryz.f52,Tryz.func52,aBm⟩
def aBo:ah tie Tryz.f53 z2=true:=by kernel_rfl
def aBp:ai tie 334 (.code z2):=⟨Tryz.f53,Tryz.func53,aBo⟩
def aBq:ah tie Tryz.f54 ol=true:=by kernel_rfl
def aBr:ai tie 270 (.code ol):=⟨Tryz.f54,Tryz.func54,aBq⟩
def aBs:ah tie Tryz.f55 z44=true:=by kernel_rfl
def aBt:ai tie 135 (.code z44):=⟨Tryz.f55,Tryz.func55,aBs⟩
def aBu:ah tie Tryz.f56 uw=true:=by kernel_rfl
def aBv:ai tie 219 (.code uw):=⟨Tryz.f56,Tryz.func56,aBu⟩
def aBw:ah tie Tryz.f57 z32=true:=by kernel_rfl
def aBx:ai tie 258 (.code z32):=⟨Tryz.f57,Tryz.func57,aBw⟩
def aBy:ah tie Tryz.f58 vB=true:=by kernel_rfl
def aBz:ai tie 259 (.code vB):=⟨Tryz.f58,Tryz.func58,aBy⟩
def aBA:ah tie Tryz.f59 oq=true:=by kernel_rfl
def aBB:ai tie 260 (.code oq):=⟨Tryz.f59,Tryz.func59,aBA⟩
def aBC:ah tie Tryz.f62 z64=true:=by kernel_rfl
def aBD:ai tie 329 (.code z64):=⟨Tryz.f62,Tryz.func62,aBC⟩
def aBE:ah tie Tryz.f67 vC=true:=by kernel_rfl
def aBF:ai tie 232 (.code vC):=⟨Tryz.f67,Tryz.func67,aBE⟩
def aBG:ah tie Tryz.f68 z9=true:=by kernel_rfl
def aBH:ai tie 233 (.code z9):=⟨Tryz.f68,Tryz.func68,aBG⟩
def aBI:ah tie Tryz.f70 z8=true:=by kernel_rfl
def aBJ:ai tie 201 (.code z8):=⟨Tryz.f70,Tryz.func70,aBI⟩
def aBK:ah tie Tryz.f71 vD=true:=by kernel_rfl
def aBL:ai tie 272 (.code vD):=⟨Tryz.f71,Tryz.func71,aBK⟩
def aBM:ah tie Tryz.f72 z7=true:=by kernel_rfl
def aBN:ai tie 55 (.code z7):=⟨Tryz.f72,Tryz.func72,aBM⟩
def aBO:ah tie Tryz.f77 ot=true:=by kernel_rfl
def aBP:ai tie 121 (.code ot):=⟨Tryz.f77,Tryz.func77,aBO⟩
def aBQ:ah tie Tryz.f78 z0=true:=by kernel_rfl
def aBR:ai tie 103 (.code z0):=⟨Tryz.f78,Tryz.func78,aBQ⟩
def aBS:ah tie Tryz.f79 ou=true:=by kernel_rfl
def aBT:ai tie 104 (.code ou):=⟨Tryz.f79,Tryz.func79,aBS⟩
def aBU:ah tie Tryz.f80 z57=true:=by kernel_rfl
def aBV:ai tie 105 (.code z57):=⟨Tryz.f80,Tryz.func80,aBU⟩
def aBW:ah tie Tryz.f81 z4=true:=by kernel_rfl
def aBX:ai tie 106 (.code z4):=⟨Tryz.f81,Tryz.func81,aBW⟩
def aBY:ah tie Tryz.f83 ov=true:=by kernel_rfl
def aBZ:ai tie 314 (.code ov):=⟨Tryz.f83,Tryz.func83,aBY⟩
def aB0:ah tie Tryz.f84 ow=true:=by kernel_rfl
def aB1:ai tie 377 (.code ow):=⟨Tryz.f84,Tryz.func84,aB0⟩
def aB2:ah tie Tryz.f85 oy=true:=by kernel_rfl
def aB3:ai tie 378 (.code oy):=⟨Tryz.f85,Tryz.func85,aB2⟩
def aB4:ah tie Tryz.f86 z35=true:=by kernel_rfl
def aB5:ai tie 342 (.code z35):=⟨Tryz.f86,Tryz.func86,aB4⟩
def aB6:ah tie Tryz.f87 vG=true:=by kernel_rfl
def aB7:ai tie 235 (.code vG):=⟨Tryz.f87,Tryz.func87,aB6⟩
def aB8:ah tie Tryz.f88 vH=true:=by kernel_rfl
def aB9:ai tie 220 (.code vH):=⟨Tryz.f88,Tryz.func88,aB8⟩
def aCa:ah tie Tryz.f89 vI=true:=by kernel_rfl
def aCb:ai tie 236 (.code vI):=⟨Tryz.f89,Tryz.func89,aCa⟩
def aCc:ah tie Tryz.f90 z36=true:=by kernel_rfl
def aCd:ai tie 330 (.code z36):=⟨Tryz.f90,Tryz.func90,aCc⟩
def aCe:ah tie Tryz.f91 vJ=true:=by kernel_rfl
def aCf:ai tie 331 (.code vJ):=⟨Tryz.f91,Tryz.func91,aCe⟩
def aCg:ah tie Tryz.f92 vK=true:=by kernel_rfl
def aCh:ai tie 332 (.code vK):=⟨Tryz.f92,Tryz.func92,aCg⟩
def aCi:ah tie Tryz.f98 vM=true:=by kernel_rfl
def aCj:ai tie 110 (.code vM):=⟨Tryz.f98,Tryz.func98,aCi⟩
def aCk:ah tie Tryz.f99 vN=true:=by kernel_rfl
def aCl:ai tie 111 (.code vN):=⟨Tryz.f99,Tryz.func99,aCk⟩
def aCm:ah tie Tryz.f100 vO=true:=by kernel_rfl
def aCn:ai tie 379 (.code vO):=⟨Tryz.f100,Tryz.func100,aCm⟩
def aCo:ah tie Tryz.f101 z41=true:=by kernel_rfl
def aCp:ai tie 380 (.code z41):=⟨Tryz.f101,Tryz.func101,aCo⟩
def aCq:ah tie Tryz.f102 oz=true:=by kernel_rfl
def aCr:ai tie 217 (.code oz):=⟨Tryz.f102,Tryz.func102,aCq⟩
def aCs:ah tie Tryz.f106 nH=true:=by kernel_rfl
def aCt:ai tie 404 (.code nH):=⟨Tryz.f106,Tryz.func106,aCs⟩
def aCu:ah tie Tryz.f107 pA=true:=by kernel_rfl
def aCv:ai tie 405 (.code pA):=⟨Tryz.f107,Tryz.func107,aCu⟩
def aCw:ah tie Tryz.f108 pB=true:=by kernel_rfl
def aCx:ai tie 373 (.code pB):=⟨Tryz.f108,Tryz.func108,aCw⟩
def aCy:ah tie Tryz.f109 vQ=true:=by kernel_rfl
def aCz:ai tie 139 (.code vQ):=⟨Tryz.f109,Tryz.func109,aCy⟩
def aCA:ah tie Tryz.f110 vR=true:=by kernel_rfl
def aCB:ai tie 238 (.code vR):=⟨Tryz.f110,Tryz.func110,aCA⟩
def aCC:ah tie Tryz.f111 z28=true:=by kernel_rfl
def aCD:ai tie 375 (.code z28):=⟨Tryz.f111,Tryz.func111,aCC⟩
def aCE:ah tie Tryz.f112 z63=true:=by kernel_rfl
def aCF:ai tie 376 (.code z63):=⟨Tryz.f112,Tryz.func112,aCE⟩
def aCG:ah tie Tryz.f113 vT=true:=by kernel_rfl
def aCH:ai tie 406 (.code vT):=⟨Tryz.f113,Tryz.func113,aCG⟩
def aCI:ah tie Tryz.f117 pC=true:=by kernel_rfl
def aCJ:ai tie 413 (.code pC):=⟨Tryz.f117,Tryz.func117,aCI⟩
def aCK:ah tie Tryz.f118 lf=true:=by kernel_rfl
def aCL:ai tie 414 (.code lf):=⟨Tryz.f118,Tryz.func118,aCK⟩
def aCM:ah tie Tryz.f119 z27=true:=by kernel_rfl
def aCN:ai tie 415 (.code z27):=⟨Tryz.f119,Tryz.func119,aCM⟩
def aCO:ah tie Tryz.f120 vY=true:=by kernel_rfl
def aCP:ai tie 401 (.code vY):=⟨Tryz.f120,Tryz.func120,aCO⟩
def aCQ:ah tie Tryz.f121 vZ=true:=by kernel_rfl
def aCR:ai tie 402 (.code vZ):=⟨Tryz.f121,Tryz.func121,aCQ⟩
def aCS:ah tie Tryz.f122 va=true:=by kernel_rfl
def aCT:ai tie 403 (.code va):=⟨Tryz.f122,Tryz.func122,aCS⟩
def aCU:ah tie Tryz.f133 vb=true:=by kernel_rfl
def aCV:ai tie 412 (.code vb):=⟨Tryz.f133,Tryz.func133,aCU⟩
def aCW:ai tie 199 (.exs (nO 362)):=by
 have hf:Tryz.prog.funcs[wx yv 100000 199]?=some Tryz.f82:=Tryz.func82;exact Uy (X:=tie) (f:=199) (gk:=362) (fn:=Tryz.f82) (k:=9) Tryz.underlying9 hf (by decide +kernel) (by kernel_rfl) (fun bx b nn D0 w h1 h2 h3 h4=>Go.Proofs.Tryz.sorted_keys lx bx b nn D0 w h1 h2 h3 h4)
def tieOk:bY tie where
 ty:=VH (by decide)
 meth:=fun t m f h u w=>VI (Mp (P:=Tryz.prog) (ty:=pQ Pr) (mn:=Mn Pt) (fnOf:=wx yv 100000) (l:=Pu) (by kernel_rfl) t m f h) _ u w
 mixed:=by kernel_rfl
 fns:=fun f pf h=>by
  have:∀q∈Pv,ai tie q.1 q.2:=by
   exact au.2 ⟨aAw,au.2 ⟨aAx,au.2 ⟨aAz,au.2 ⟨aAB,au.2 ⟨aAD,au.2 ⟨aAF,au.2 ⟨aAH,au.2 ⟨aAJ,au.2 ⟨aAL,au.2 ⟨aAN,au.2 ⟨aAP,au.2 ⟨aAR,au.2 ⟨aAT,au.2 ⟨aAV,au.2 ⟨aAX,au.2 ⟨aAZ,au.2 ⟨aA1,au.2 ⟨aA3,au.2 ⟨aA5,au.2 ⟨aA7,au.2 ⟨aA9,au.2 ⟨aBb,au.2 ⟨aBd,au.2 ⟨aBf,au.2 ⟨aBh,au.2 ⟨aBj,au.2 ⟨aBl,au.2 ⟨aBn,au.2 ⟨aBp,au.2 ⟨aBr,au.2 ⟨aBt,au.2 ⟨aBv,au.2 ⟨aBx,au.2 ⟨aBz,au.2 ⟨aBB,au.2 ⟨aBD,au.2 ⟨aBF,au.2 ⟨aBH,au.2 ⟨aBJ,au.2 ⟨aBL,au.2 ⟨aBN,au.2 ⟨aBP,au.2 ⟨aBR,au.2 ⟨aBT,au.2 ⟨aBV,au.2 ⟨aBX,au.2 ⟨aCW,au.2 ⟨aBZ,au.2 ⟨aB1,au.2 ⟨aB3,au.2 ⟨aB5,au.2 ⟨aB7,au.2 ⟨aB9,au.2 ⟨aCb,au.2 ⟨aCd,au.2 ⟨aCf,au.2 ⟨aCh,au.2 ⟨aCj,au.2 ⟨aCl,au.2 ⟨aCn,au.2 ⟨aCp,au.2 ⟨aCr,au.2 ⟨aCt,au.2 ⟨aCv,au.2 ⟨aCx,au.2 ⟨aCz,au.2 ⟨aCB,au.2 ⟨aCD,au.2 ⟨aCF,au.2 ⟨aCH,au.2 ⟨aCJ,au.2 ⟨aCL,au.2 ⟨aCN,au.2 ⟨aCP,au.2 ⟨aCR,au.2 ⟨aCT,au.2 ⟨aCV,fun _ h=>absurd h zV⟩⟩⟩⟩⟩⟩⟩⟩⟩⟩⟩⟩⟩⟩⟩⟩⟩⟩⟩⟩⟩⟩⟩⟩⟩⟩⟩⟩⟩⟩⟩⟩⟩⟩⟩⟩⟩⟩⟩⟩⟩⟩⟩⟩⟩⟩⟩⟩⟩⟩⟩⟩⟩⟩⟩⟩⟩⟩⟩⟩⟩⟩⟩⟩⟩⟩⟩⟩⟩⟩⟩⟩⟩⟩⟩⟩⟩
  exact this _ (nS h)
end Ps
