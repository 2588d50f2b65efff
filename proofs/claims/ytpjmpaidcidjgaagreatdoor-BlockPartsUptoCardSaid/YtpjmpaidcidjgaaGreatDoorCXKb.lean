/- Functions that may panic, as W code: printed by program, checked by the kernel. -/
import Derived.Test.YtpjmpaidcidjgaaGreatDoorDefsKb
import Derived.Test.YtpjmpaidcidjgaaGreatDoorCodeKb
import Derived.Test.YtpjmpaidcidjgaaGreatDoorExtMKb
import Derived.Test.YtpjmpaidcidjgaaGreatDoorChecked
import Derived.Test.YtpjmpaidcidjgaaGreatDoorShelfMKb
set_option linter.defProp false
namespace Ps
open Go Go.Proofs
set_option maxRecDepth 10000
def Dz:List (Nat×Nat):=[(0,0),(1,1),(2,2),(459,3),(456,4),(458,5),(457,6),(460,7),(155,8),(63,9),(64,10),(151,11),(170,12),(65,13),(66,14),(171,15),(157,16),(177,17),(51,18),(153,19),(261,20),(107,21),(262,22),(134,23),(263,24),(264,25),(161,26),(152,27),(154,28),(169,29),(52,30),(174,31),(257,32),(26,33),(156,34),(158,35),(159,36),(160,37),(133,38),(162,39),(136,40),(163,41),(164,42),(165,43),(176,44),(265,45),(40,46),(28,47),(130,48),(218,49),(234,50),(108,51),(333,52),(334,53),(270,54),(135,55),(219,56),(258,57),(259,58),(260,59),(98,60),(102,61),(329,62),(266,63),(267,64),(268,65),(269,66),(232,67),(233,68),(271,69),(201,70),(272,71),(55,72),(335,73),(336,74),(337,75),(338,76),(121,77),(103,78),(104,79),(105,80),(106,81),(199,82),(314,83),(377,84),(378,85),(342,86),(235,87),(220,88),(236,89),(330,90),(331,91),(332,92),(126,93),(216,94),(339,95),(340,96),(341,97),(110,98),(111,99),(379,100),(380,101),(217,102),(293,103),(239,104),(362,105),(404,106),(405,107),(373,108),(139,109),(238,110),(375,111),(376,112),(406,113),(347,114),(316,115),(317,116),(413,117),(414,118),(415,119),(401,120),(402,121),(403,122),(363,123),(364,124),(365,125),(366,126),(367,127),(368,128),(369,129),(370,130),(371,131),(372,132),(412,133),(394,134),(395,135),(396,136),(397,137),(398,138),(411,139),(417,140),(418,141),(419,142),(420,143),(421,144),(422,145),(423,146),(424,147),(425,148),(426,149),(427,150),(428,151),(429,152),(430,153),(431,154),(432,155),(433,156),(434,157),(436,158),(437,159),(438,160),(441,161),(442,162),(443,163),(444,164),(445,165),(446,166),(447,167),(448,168),(449,169),(450,170),(451,171),(455,172),(494,176)]
def Us:List (Nat×Nat):=[(0,9),(3,72),(1,74),(2,77),(11,144),(6,174),(7,177),(8,179),(13,249)]
def Ut:List (Nat×String):=[(0, "gauge/regex.ends"),(1, "Kind"),(2, "Elem"),(3, "Implements"),(4, "AssignableTo"),(5, "As"),(6, "Unwrap")]
def Uu:List (Nat×Nat×Nat):=[]
def Uv:List (Nat×tA):=[(457,.code zU),(155,.code z35),(64,.code qB),(170,.code sL),(171,.code qC),(157,.code z4),(177,.code z63),(51,.code oM),(153,.code qD),(261,.code z23),(107,.code z29),(262,.code sN),(263,.code mt),(264,.code z32),(161,.code sO),(152,.code AU),(154,.code sP),(174,.code AW),(257,.code AX),(26,.code sQ),(156,.code AY),(133,.code oN),(136,.code sR),(164,.code z9),(165,.code z1),(176,.code z3),(40,.code sY),(28,.code z24),(130,.code z5),(218,.code sZ),(108,.code sa),(333,.code sb),(334,.code z2),(270,.code sd),(135,.code BS),(219,.code BT),(258,.code BU),(259,.code BY),(260,.code sg),(102,.code z28),(329,.code Ba),(232,.code z8),(233,.code oO),(201,.code oP),(272,.code qF),(55,.code z7),(121,.code z57),(103,.code z0),(104,.code si),(105,.code sj),(106,.code z6),(199,.exs (qO 362)),(314,.code z27),(377,.code z36),(378,.code sk),(342,.code sm),(235,.code Bp),(220,.code Bq),(236,.code z46),(330,.code z41),(331,.code z64),(332,.code Br),(216,.code sn),(110,.code so),(111,.code z26),(379,.code sr),(380,.code lc),(217,.code su),(404,.code z53),(405,.code z44),(373,.code sw),(139,.code Bu),(238,.code Bv),(375,.code z33),(376,.code Bw),(406,.code oQ),(413,.code sx),(414,.code oR),(415,.code sy),(401,.code zF),(402,.code zG),(403,.code zH),(412,.code zI)]
def T:aV:=⟨jM Uv,wW Uu⟩
noncomputable def tie:Tie:=⟨Tryz.prog,T,Cd Dz 100000,tN Us,ST Ut,[(0,.iface 169 (.agg #[.pointer (some ⟨1,74,none⟩)]))]⟩
def aFd:bF tie Tryz.f6 zU=true:=by kernel_rfl
def aFe:az tie 457 (.code zU):=⟨Tryz.f6,Tryz.func6,aFd⟩
def aFf:bF tie Tryz.f8 z35=true:=by kernel_rfl
def aFg:az tie 155 (.code z35):=⟨Tryz.f8,Tryz.func8,aFf⟩
def aFh:bF tie Tryz.f10 qB=true:=by kernel_rfl
def aFi:az tie 64 (.code qB):=⟨Tryz.f10,Tryz.func10,aFh⟩
def aFj:bF tie Tryz.f12 sL=true:=by kernel_rfl
def aFk:az tie 170 (.code sL):=⟨Tryz.f12,Tryz.func12,aFj⟩
def aFl:bF tie Tryz.f15 qC=true:=by kernel_rfl
def aFm:az tie 171 (.code qC):=⟨Tryz.f15,Tryz.func15,aFl⟩
def aFn:bF tie Tryz.f16 z4=true:=by kernel_rfl
def aFo:az tie 157 (.code z4):=⟨Tryz.f16,Tryz.func16,aFn⟩
def aFp:bF tie Tryz.f17 z63=true:=by kernel_rfl
def aFq:az tie 177 (.code z63):=⟨Tryz.f17,Tryz.func17,aFp⟩
def aFr:bF tie Tryz.f18 oM=true:=by kernel_rfl
def aFs:az tie 51 (.code oM):=⟨Tryz.f18,Tryz.func18,aFr⟩
def aFt:bF tie Tryz.f19 qD=true:=by kernel_rfl
def aFu:az tie 153 (.code qD):=⟨Tryz.f19,Tryz.func19,aFt⟩
def aFv:bF tie Tryz.f20 z23=true:=by kernel_rfl
def aFw:az tie 261 (.code z23):=⟨Tryz.f20,Tryz.func20,aFv⟩
def aFx:bF tie Tryz.f21 z29=true:=by kernel_rfl
def aFy:az tie 107 (.code z29):=⟨Tryz.f21,Tryz.func21,aFx⟩
def aFz:bF tie Tryz.f22 sN=true:=by kernel_rfl
def aFA:az tie 262 (.code sN):=⟨Tryz.f22,Tryz.func22,aFz⟩
def aFB:bF tie Tryz.f24 mt=true:=by kernel_rfl
def aFC:az tie 263 (.code mt):=⟨Tryz.f24,Tryz.func24,aFB⟩
def aFD:bF tie Tryz.f25 z32=true:=by kernel_rfl
def aFE:az tie 264 (.code z32):=⟨Tryz.f25,Tryz.func25,aFD⟩
def aFF:bF tie Tryz.f26 sO=true:=by kernel_rfl
def aFG:az tie 161 (.code sO):=⟨Tryz.f26,Tryz.func26,aFF⟩
def aFH:bF tie Tryz.f27 AU=true:=by kernel_rfl
def aFI:az tie 152 (.code AU):=⟨Tryz.f27,Tryz.func27,aFH⟩
def aFJ:bF tie Tryz.f28 sP=true:=by kernel_rfl
def aFK:az tie 154 (.code sP):=⟨Tryz.f28,Tryz.func28,aFJ⟩
def aFL:bF tie Tryz.f31 AW=true:=by kernel_rfl
def aFM:az tie 174 (.code AW):=⟨Tryz.f31,Tryz.func31,aFL⟩
def aFN:bF tie Tryz.f32 AX=true:=by kernel_rfl
def aFO:az tie 257 (.code AX):=⟨Tryz.f32,Tryz.func32,aFN⟩
def aFP:bF tie Tryz.f33 sQ=true:=by kernel_rfl
def aFQ:az tie 26 (.code sQ):=⟨Tryz.f33,Tryz.func33,aFP⟩
def aFR:bF tie Tryz.f34 AY=true:=by kernel_rfl
def aFS:az tie 156 (.code AY):=⟨Tryz.f34,Tryz.func34,aFR⟩
def aFT:bF tie Tryz.f38 oN=true:=by kernel_rfl
def aFU:az tie 133 (.code oN):=⟨Tryz.f38,Tryz.func38,aFT⟩
def aFV:bF tie Tryz.f40 sR=true:=by kernel_rfl
def aFW:az tie 136 (.code sR):=⟨Tryz.f40,Tryz.func40,aFV⟩
def aFX:bF tie Tryz.f42 z9=true:=by kernel_rfl
def aFY:az tie 164 (.code z9):=⟨Tryz.f42,Tryz.func42,aFX⟩
def aFZ:bF tie Tryz.f43 z1=true:=by kernel_rfl
def aF0:az tie 165 (.code z1):=⟨Tryz.f43,Tryz.func43,aFZ⟩
def aF1:bF tie Tryz.f44 z3=true:=by kernel_rfl
def aF2:az tie 176 (.code z3):=⟨Tryz.f44,Tryz.func44,aF1⟩
def aF3:bF tie Tryz.f46 sY=true:=by kernel_rfl
def aF4:az tie 40 (.code sY):=⟨Tryz.f46,Tryz.func46,aF3⟩
def aF5:bF tie Tryz.f47 z24=true:=by kernel_rfl
def aF6:az tie 28 (.code z24):=⟨Tryz.f47,Tryz.func47,aF5⟩
def aF7:bF tie Tryz.f48 z5=true:=by kernel_rfl
def aF8:az tie 130 (.code z5):=⟨Tryz.f48,Tryz.func48,aF7⟩
def aF9:bF tie Tryz.f49 sZ=true:=by kernel_rfl
def aGa:az tie 218 (.code sZ):=⟨Tryz.f49,Tryz.func49,aF9⟩
def aGb:bF tie Tryz.f51 sa=true:=by kernel_rfl
def aGc:az tie 108 (.code sa):=⟨Tryz.f51,Tryz.func51,aGb⟩
def aGd:bF tie Tryz.f52 sb=true:=by kernel_rfl
def aGe:az tie 333 (.code sb):=⟨Tryz.f52,Tryz.func52,aGd⟩
def aGf:bF tie Tryz.f53 z2=true:=by kernel_rfl
def aGg:az tie 334 (.code z2):=⟨Tryz.f53,Tryz.func53,aGf⟩
def aGh:bF tie Tryz.f54 sd=true:=by kernel_rfl
def aGi:az tie 270 (.code sd):=⟨Tryz.f54,Tryz.func54,aGh⟩
def aGj:bF tie Tryz.f55 BS=true:=by kernel_rfl
def aGk:az tie 135 (.code BS):=⟨Tryz.f55,Tryz.func55,aGj⟩
def aGl:bF tie Tryz.f56 BT=true:=by kernel_rfl
def aGm:az tie 219 (.code BT):=⟨Tryz.f56,Tryz.func56,aGl⟩
def aGn:bF tie Tryz.f57 BU=true:=by kernel_rfl
def aGo:az tie 258 (.code BU):=⟨Tryz.f57,Tryz.func57,aGn⟩
def aGp:bF tie Tryz.f58 BY=true:=by kernel_rfl
def aGq:az tie 259 (.code BY):=⟨Tryz.f58,Tryz.func58,aGp⟩
def aGr:bF tie Tryz.f59 sg=true:=by kernel_rfl
def aGs:az tie 260 (.code sg):=⟨Tryz.f59,Tryz.func59,aGr⟩
def aGt:bF tie Tryz.f61 z28=true:=by kernel_rfl
def aGu:az tie 102 (.code z28):=⟨Tryz.f61,Tryz.func61,aGt⟩
def aGv:bF tie Tryz.f62 Ba=true:=by kernel_rfl
def aGw:az tie 329 (.code Ba):=⟨Tryz.f62,Tryz.func62,aGv⟩
def aGx:bF tie Tryz.f67 z8=true:=by kernel_rfl
def aGy:az tie 232 (.code z8):=⟨Tryz.f67,Tryz.func67,aGx⟩
def aGz:bF tie Tryz.f68 oO=true:=by kernel_rfl
def aGA:az tie 233 (.code oO):=⟨Tryz.f68,Tryz.func68,aGz⟩
def aGB:bF tie Tryz.f70 oP=true:=by kernel_rfl
def aGC:az tie 201 (.code oP):=⟨Tryz.f70,Tryz.func70,aGB⟩
def aGD:bF tie Tryz.f71 qF=true:=by kernel_rfl
def aGE:az tie 272 (.code qF):=⟨Tryz.f71,Tryz.func71,aGD⟩
def aGF:bF tie Tryz.f72 z7=true:=by kernel_rfl
def aGG:az tie 55 (.code z7):=⟨Tryz.f72,Tryz.func72,aGF⟩
def aGH:bF tie Tryz.f77 z57=true:=by kernel_rfl
def aGI:az tie 121 (.code z57):=⟨Tryz.f77,Tryz.func77,aGH⟩
def aGJ:bF tie Tryz.f78 z0=true:=by kernel_rfl
def aGK:az tie 103 (.code z0):=⟨Tryz.f78,Tryz.func78,aGJ⟩
def aGL:bF tie Tryz.f79 si=true:=by kernel_rfl
def aGM:az tie 104 (.code si):=⟨Tryz.f79,Tryz.func79,aGL⟩
def aGN:bF tie Tryz.f80 sj=true:=by kernel_rfl
def aGO:az tie 105 (.code sj):=⟨Tryz.f80,Tryz.func80,aGN⟩
def aGP:bF tie Tryz.f81 z6=true:=by kernel_rfl
def aGQ:az tie 106 (.code z6):=⟨Tryz.f81,Tryz.func81,aGP⟩
def aGR:bF tie Tryz.f83 z27=true:=by kernel_rfl
def aGS:az tie 314 (.code z27):=⟨Tryz.f83,Tryz.func83,aGR⟩
def aGT:bF tie Tryz.f84 z36=true:=by kernel_rfl
def aGU:az tie 377 (.code z36):=⟨Tryz.f84,Tryz.func84,aGT⟩
def aGV:bF tie Tryz.f85 sk=true:=by kernel_rfl
def aGW:az tie 378 (.code sk):=⟨Tryz.f85,Tryz.func85,aGV⟩
def aGX:bF tie Tryz.f86 sm=true:=by kernel_rfl
def aGY:az tie 342 (.code sm):=⟨Tryz.f86,Tryz.func86,aGX⟩
def aGZ:bF tie Tryz.f87 Bp=true:=by kernel_rfl
def aG0:az tie 235 (.code Bp):=⟨Tryz.f87,Tryz.func87,aGZ⟩
def aG1:bF tie Tryz.f88 Bq=true:=by kernel_rfl
def aG2:az tie 220 (.code Bq):=⟨Tryz.f88,Tryz.func88,aG1⟩
def aG3:bF tie Tryz.f89 z46=true:=by kernel_rfl
def aG4:az tie 236 (.code z46):=⟨Tryz.f89,Tryz.func89,aG3⟩
def aG5:bF tie Tryz.f90 z41=true:=by kernel_rfl
def aG6:az tie 330 (.code z41):=⟨Tryz.f90,Tryz.func90,aG5⟩
def aG7:bF tie Tryz.f91 z64=true:=by kernel_rfl
def aG8:az tie 331 (.code z64):=⟨Tryz.f91,Tryz.func91,aG7⟩
def aG9:bF tie Tryz.f92 Br=true:=by kernel_rfl
def aHa:az tie 332 (.code Br):=⟨Tryz.f92,Tryz.func92,aG9⟩
def aHb:bF tie Tryz.f94 sn=true:=by kernel_rfl
def aHc:az tie 216 (.code sn):=⟨Tryz.f94,Tryz.func94,aHb⟩
def aHd:bF tie Tryz.f98 so=true:=by kernel_rfl
def aHe:az tie 110 (.code so):=⟨Tryz.f98,Tryz.func98,aHd⟩
def aHf:bF tie Tryz.f99 z26=true:=by kernel_rfl
def aHg:az tie 111 (.code z26):=⟨Tryz.f99,Tryz.func99,aHf⟩
def aHh:bF tie Tryz.f100 sr=true:=by kernel_rfl
def aHi:az tie 379 (.code sr):=⟨Tryz.f100,Tryz.func100,aHh⟩
def aHj:bF tie Tryz.f101 lc=true:=by kernel_rfl
def aHk:az tie 380 (.code lc):=⟨Tryz.f101,Tryz.func101,aHj⟩
def aHl:bF tie Tryz.f102 su=true:=by kernel_rfl
def aHm:az tie 217 (.code su):=⟨Tryz.f102,Tryz.func102,aHl⟩
def aHn:bF tie Tryz.f106 z53=true:=by kernel_rfl
def aHo:az tie 404 (.code z53):=⟨Tryz.f106,Tryz.func106,aHn⟩
def aHp:bF tie Tryz.f107 z44=true:=by kernel_rfl
def aHq:az tie 405 (.code z44):=⟨Tryz.f107,Tryz.func107,aHp⟩
def aHr:bF tie Tryz.f108 sw=true:=by kernel_rfl
def aHs:az tie 373 (.code sw):=⟨Tryz.f108,Tryz.func108,aHr⟩
def aHt:bF tie Tryz.f109 Bu=true:=by kernel_rfl
def aHu:az tie 139 (.code Bu):=⟨Tryz.f109,Tryz.func109,aHt⟩
def aHv:bF tie Tryz.f110 Bv=true:=by kernel_rfl
def aHw:az tie 238 (.code Bv):=⟨Tryz.f110,Tryz.func110,aHv⟩
def aHx:bF tie Tryz.f111 z33=true:=by kernel_rfl
def aHy:az tie 375 (.code z33):=⟨Tryz.f111,Tryz.func111,aHx⟩
def aHz:bF tie Tryz.f112 Bw=true:=by kernel_rfl
def aHA:az tie 376 (.code Bw):=⟨Tryz.f112,Tryz.func112,aHz⟩
def aHB:bF tie Tryz.f113 oQ=true:=by kernel_rfl
def aHC:az tie 406 (.code oQ):=⟨Tryz.f113,Tryz.func113,aHB⟩
def aHD:bF tie Tryz.f117 sx=true:=by kernel_rfl
def aHE:az tie 413 (.code sx):=⟨Tryz.f117,Tryz.func117,aHD⟩
def aHF:bF tie Tryz.f118 oR=true:=by kernel_rfl
def aHG:az tie 414 (.code oR):=⟨Tryz.f118,Tryz.func118,aHF⟩
def aHH:bF tie Tryz.f119 sy=true:=by kernel_rfl
def aHI:az tie 415 (.code sy):=⟨Tryz.f119,Tryz.func119,aHH⟩
def aHJ:bF tie Tryz.f120 zF=true:=by kernel_rfl
def aHK:az tie 401 (.code zF):=⟨Tryz.f120,Tryz.func120,aHJ⟩
def aHL:bF tie Tryz.f121 zG=true:=by kernel_rfl
def aHM:az tie 402 (.code zG):=⟨Tryz.f121,Tryz.func121,aHL⟩
def aHN:bF tie Tryz.f122 zH=true:=by kernel_rfl
def aHO:az tie 403 (.code zH):=⟨Tryz.f122,Tryz.func122,aHN⟩
def aHP:bF tie Tryz.f133 zI=true:=by kernel_rfl
def aHQ:az tie 412 (.code zI):=⟨Tryz.f133,Tryz.func133,aHP⟩
def aHR:az tie 199 (.exs (qO 362)):=by
 have hf:Tryz.prog.funcs[Cd Dz 100000 199]?=some Tryz.f82:=Tryz.func82;exact aA8 (X:=tie) (f:=199) (gk:=362) (fn:=Tryz.f82) (k:=9) Tryz.underlying9 hf (by decide +kernel) (by kernel_rfl) (fun bx b nn D0 w h1 h2 h3 h4=>Go.Proofs.Tryz.sorted_keys oc bx b nn D0 w h1 h2 h3 h4)
def tieOk:dR tie where
 ty:=aB1 (by decide)
 meth:=fun t m f h u w=>aB2 (SV (P:=Tryz.prog) (ty:=tN Us) (mn:=ST Ut) (fnOf:=Cd Dz 100000) (l:=Uu) (by kernel_rfl) t m f h) _ u w
 mixed:=by kernel_rfl
 fns:=fun f pf h=>by
  have:∀q∈Uv,az tie q.1 q.2:=by
   exact bJ.2 ⟨aFe,bJ.2 ⟨aFg,bJ.2 ⟨aFi,bJ.2 ⟨aFk,bJ.2 ⟨aFm,bJ.2 ⟨aFo,bJ.2 ⟨aFq,bJ.2 ⟨aFs,bJ.2 ⟨aFu,bJ.2 ⟨aFw,bJ.2 ⟨aFy,bJ.2 ⟨aFA,bJ.2 ⟨aFC,bJ.2 ⟨aFE,bJ.2 ⟨aFG,bJ.2 ⟨aFI,bJ.2 ⟨aFK,bJ.2 ⟨aFM,bJ.2 ⟨aFO,bJ.2 ⟨aFQ,bJ.2 ⟨aFS,bJ.2 ⟨aFU,bJ.2 ⟨aFW,bJ.2 ⟨aFY,bJ.2 ⟨aF0,bJ.2 ⟨aF2,bJ.2 ⟨aF4,bJ.2 ⟨aF6,bJ.2 ⟨aF8,bJ.2 ⟨aGa,bJ.2 ⟨aGc,bJ.2 ⟨aGe,bJ.2 ⟨aGg,bJ.2 ⟨aGi,bJ.2 ⟨aGk,bJ.2 ⟨aGm,bJ.2 ⟨aGo,bJ.2 ⟨aGq,bJ.2 ⟨aGs,bJ.2 ⟨aGu,bJ.2 ⟨aGw,bJ.2 ⟨aGy,bJ.2 ⟨aGA,bJ.2 ⟨aGC,bJ.2 ⟨aGE,bJ.2 ⟨aGG,bJ.2 ⟨aGI,bJ.2 ⟨aGK,bJ.2 ⟨aGM,bJ.2 ⟨aGO,bJ.2 ⟨aGQ,bJ.2 ⟨aHR,bJ.2 ⟨aGS,bJ.2 ⟨aGU,bJ.2 ⟨aGW,bJ.2 ⟨aGY,bJ.2 ⟨aG0,bJ.2 ⟨aG2,bJ.2 ⟨aG4,bJ.2 ⟨aG6,bJ.2 ⟨aG8,bJ.2 ⟨aHa,bJ.2 ⟨aHc,bJ.2 ⟨aHe,bJ.2 ⟨aHg,bJ.2 ⟨aHi,bJ.2 ⟨aHk,bJ.2 ⟨aHm,bJ.2 ⟨aHo,bJ.2 ⟨aHq,bJ.2 ⟨aHs,bJ.2 ⟨aHu,bJ.2 ⟨aHw,bJ.2 ⟨aHy,bJ.2 ⟨aHA,bJ.2 ⟨aHC,bJ.2 ⟨aHE,bJ.2 ⟨aHG,bJ.2 ⟨aHI,bJ.2 ⟨aHK,bJ.2 ⟨aHM,bJ.2 ⟨aHO,bJ.2 ⟨aHQ,fun _ h=>absurd h xr⟩⟩⟩⟩⟩⟩⟩⟩⟩⟩⟩⟩⟩⟩⟩⟩⟩⟩⟩⟩⟩⟩⟩⟩⟩⟩⟩⟩⟩⟩⟩⟩⟩⟩⟩⟩⟩⟩⟩⟩⟩⟩⟩⟩⟩⟩⟩⟩⟩⟩⟩⟩⟩⟩⟩⟩⟩⟩⟩⟩⟩⟩⟩⟩⟩⟩⟩⟩⟩⟩⟩⟩⟩⟩⟩⟩⟩⟩⟩⟩⟩⟩⟩
  exact this _ (qR h)
end Ps
namespace Ps
open Go Go.Proofs
def GQ:List aA:=[Q 21 (.build [] []),Q 22 (.mkif 11 (V 21))]++(QN (.pan (V 22))::[])
def yv:aX:=
 ⟨1,[.tmp 2],
 (.seq (.region Bj) (.seq (.clr [(6,19)] (.region Bk)) (.seq (.seq (.clr [(19,20)] (.region wB)) (.cond (V 20) (.clr [(21,23)] (.region GQ)) .skip)) (.seq (.clr [(23,27)] (.region Bl)) (.seq (.clr [(27,28)] (.region Bm)) .ret))))),false⟩
def GR:List aA:=[M 4 0]++(Q 5 (.wc [] (.cst (.fn 338 [])) [(V 4)])::[M 3 5])
def GS:List aA:=[Q 8 (.build [] []),Q 9 (.mkif 11 (V 8))]++(QN (.pan (V 9))::[])
def yw:aX:=
 ⟨1,[.tmp 2],
 (.seq (.region Bf) (.seq (.clr [(4,6)] (.region GR)) (.seq (.seq (.clr [(6,7)] (.region vz)) (.cond (V 7) (.clr [(8,10)] (.region GS)) .skip)) (.seq (.clr [(10,12)] (.region Bg)) .ret)))),false⟩
def GT:List aA:=[M 6 0]++(Q 7 (.wc [] (.cst (.fn 338 [])) [(V 6)])::[Q 8 (.call .pur 379 [(V 7)]),M 5 8])
def yx:List aA:=[Q 18 (.build [] []),Q 19 (.mkif 11 (V 18))]++(QN (.pan (V 19))::[])
def yy:aX:=
 ⟨2,[.tmp 4],
 (.seq (.region Bh) (.seq (.clr [(6,9)] (.region GT)) (.seq (.seq (.clr [(9,17)] (.region sh)) (.cond (V 17) (.clr [(18,20)] (.region yx)) .skip)) (.seq (.clr [(20,21)] (.region Bi)) .ret)))),false⟩
def GU:List aA:=[M 24 4]++(Q 25 (.wc [] (.cst (.fn 338 [])) [(V 24)])::[M 7 25])
def yz:List aA:=[M 53 5]++(Q 54 (.wc [] (V 53) [])::[FA 55 0 10,QN (.store 1 (V 55) (V 54))])
def zA:List aA:=[M 58 5]++(Q 59 (.wc [] (V 58) [])::[M 8 59])
def zB:List aA:=[M 38 8,M 39 6]++(Q 40 (.wc [] (V 39) [(I 1099511627776)])::[Q 41 (.arith .add (V 38) (V 40)),M 8 41])
def GV:List aA:=[M 67 6]++(Q 68 (.wc [] (V 67) [(I 2305843009213693952)])::[FA 69 1 10,QN (.store 1 (V 69) (V 68))])
def sB:aS:=
 (.seq (.region vl) (.seq (.cond (V 35) .skip (.exit 0)) (.seq (.block 1 (.seq (.clr [(36,37)] (.region BC)) (.seq (.region BD) (.seq (.seq (.region BE) (.block 2 (.seq (.clr [(52,53)] (.region sV)) (.cond (V 51) (.clr [(53,56)] (.region yz)) (.seq (.clr [(57,58)] (.region sW)) (.cond (V 56) (.seq (.clr [(58,60)] (.region zA)) (.clr [(60,67)] (.region vm))) (.seq (.clr [(38,42)] (.region zB)) (.clr [(42,51)] (.region vn))))))))) (.seq (.clr [(67,70)] (.region GV)) (.seq (.seq (.clr [(70,71)] (.region sX)) (.cond (V 71) (.clr [(72,82)] (.region vp)) .skip)) (.seq (.seq (.clr [(82,92)] (.region BF)) (.cond (V 92) (.seq (.region BG) .ret) .skip)) (.clr [(93,97)] (.region BH))))))))) (.clr [(97,98)] (.region BI)))))
def pt:aX:=
 ⟨2,[],
 (.seq (.region HR) (.seq (.clr [(6,7)] (.region vQ)) (.cond (V 7) (.seq (.seq (.clr [(3,4),(8,13)] (.region zN)) (.seq (.clr [(13,14)] (.region zO)) (.cond (V 14) (.clr [(15,16)] (.region HS)) .skip))) (.region zP)) .skip))),false⟩
def km:gR:=
 ⟨1,[.cell 2 false 1,.cell 3 false 1],
 [(.region Ax)],
 ⟨some 12,.mkfn 335 [(.tmp 2),(.tmp 3)],none⟩,12,
 (.seq (.clr [(13,20)] (.region Ay)) (.seq (.clr [(20,24)] (.region Az)) (.seq (.clr [(24,26)] (.region GU)) (.seq (.seq (.clr [(26,31)] (.region sT)) (.cond (V 31) (.seq (.region sU) .ret) .skip)) (.seq (.region BA) (.seq (.seq (.clr [(32,33)] (.region BB)) (.block 0 (.loop sB))) (.seq (.seq (.clr [(98,108)] (.region BJ)) (.seq (.clr [(108,125)] (.region qE)) (.cond (V 125) (.seq (.region vr) .ret) .skip))) (.seq (.clr [(126,127)] (.region vt)) .ret)))))))),false,some (335,pt)⟩
def GW:List aA:=[M 6 0,bj 7 6,FA 8 1 7,LD 9 8,Q 10 (.build [(.int .i64 0)] [(0,1,(V 9))]),Q 11 (.mkif 3 (V 10))]++(QN (.pan (V 11))::[])
def vJ:aX:=
 ⟨2,[],
 (.seq (.clr [(4,5)] (.region vg)) (.cond (V 5) (.clr [(6,12)] (.region GW)) .skip)),false⟩
def GX:List aA:=[M 19 0,M 20 5,Q 21 (.arith .eql (V 20) (I 0))]++(Q 22 (.wc [] (.cst (.fn 160 [])) [(V 19),(V 21)])::[])
def pu:aX:=
 ⟨1,[.tmp 2],
 (.seq (.region Bb) (.seq (.clr [(6,19)] (.region Bc)) (.seq (.clr [(19,23)] (.region GX)) (.seq (.clr [(23,27)] (.region Bd)) (.seq (.clr [(27,28)] (.region Be)) .ret))))),false⟩
def GY:List aA:=[M 4 0]++(Q 5 (.wc [] (.cst (.fn 271 [])) [(V 4)])::[M 3 5])
def GZ:List aA:=[M 6 0,M 7 3,M 8 0,bj 9 8,FA 10 0 9,LD 11 10,Q 12 (.len false (V 11)),M 13 0,bj 14 13,FA 15 1 14,LD 16 15,Q 17 (.arith .sub (V 12) (V 16)),Q 18 (.arith .leq (V 7) (V 17))]++(Q 19 (.wc [] (.cst (.fn 160 [])) [(V 6),(V 18)])::[])
def pw:aX:=
 ⟨1,[.tmp 2],
 (.seq (.region Ag) (.seq (.clr [(4,6)] (.region GY)) (.seq (.clr [(6,20)] (.region GZ)) (.seq (.clr [(20,28)] (.region Ah)) (.seq (.clr [(28,43)] (.region Ai)) .ret))))),false⟩
def Ga:List aA:=[M 9 0]++(Q 10 (.wc [] (.cst (.fn 271 [])) [(V 9)])::[M 3 10])
def Gb:List aA:=[M 11 0,M 12 3,Q 13 (.arith .geq (V 12) (I 1)),M 14 13,QG (some 15) (.mov (V 3)) 14 true,QG (some 16) (.arith .leq (V 15) (I 65536)) 14 true,Q 17 (.pick (V 14) (V 16) bR)]++(Q 18 (.wc [] (.cst (.fn 160 [])) [(V 11),(V 17)])::[])
def Gc:List aA:=[M 23 0]++(Q 24 (.wc [] (.cst (.fn 162 [])) [(V 23)])::[Q 25 (.call .std 201 [(V 24)]),Q 26 (.build [.nils,(.int .i64 0),(.int .i64 0),(.int .i64 0)] [(0,1,(V 25))]),Q 7 (.alloc false [.nils,(.int .i64 0),(.int .i64 0),(.int .i64 0)]),QN (.store 4 (V 7) (V 26))])
def Gd:List aA:=[M 38 0,M 39 8,Q 40 (.arith .eql (V 39) (I 0)),M 41 40,QG (some 42) (.faddr 2 (V 7)) 41 true,QG (some 43) (.load false 1 false (V 42)) 41 true,QG (some 44) (.mov (V 5)) 41 true,QG (some 45) (.arith .gtr (V 43) (V 44)) 41 true,Q 46 (.pick (V 41) (V 45) bR),M 47 46,QG (some 48) (.faddr 1 (V 7)) 47 true,QG (some 49) (.load false 1 false (V 48)) 47 true,QG (some 50) (.arith .eql (V 49) (I 120)) 47 true,QG (some 51) (.mov (V 50)) 47 true,QG (some 52) (.mov (V 6)) 51 false,QG (some 53) (.mov (V 3)) 51 false,QG (some 54) (.arith .sub (V 53) (I 1)) 51 false,QG (some 55) (.arith .eql (V 52) (V 54)) 51 false,QG (some 56) (.pick (V 51) ck (V 55)) 47 true,Q 57 (.pick (V 47) (V 56) bR)]++(Q 58 (.wc [] (.cst (.fn 160 [])) [(V 38),(V 57)])::[])
def sC:aS:=
 (.seq (.region vi) (.seq (.cond (V 21) .skip (.exit 0)) (.seq (.block 1 (.seq (.clr [(22,23)] (.region Ao)) (.seq (.clr [(23,27)] (.region Gc)) (.seq (.region Ap) (.seq (.clr [(27,38)] (.region Aq)) (.seq (.clr [(38,59)] (.region Gd)) (.seq (.clr [(59,61)] (.region vj)) (.clr [(61,65)] (.region vk))))))))) (.clr [(65,66)] (.region sS)))))
def px:aX:=
 ⟨1,[.tmp 2],
 (.seq (.region Aj) (.seq (.clr [(9,11)] (.region Ga)) (.seq (.clr [(11,19)] (.region Gb)) (.seq (.region Ak) (.seq (.region Al) (.seq (.seq (.region Am) (.block 0 (.loop sC))) (.seq (.clr [(66,67)] (.region Ar)) .ret))))))),false⟩
def Ge:List aA:=[M 11 4,M 12 0,Q 13 (.len false (V 12)),Q 14 (.arith .geq (V 13) (I 8)),M 15 14,QG (some 16) (.mov (V 0)) 15 true,QG (some 17) (.slc 1 none (some (I 4)) (V 16)) 15 true,QG (some 18) (.toStr (V 17)) 15 true,QG (some 19) (.arith .eql (V 18) (.cst (.str [71,66,75,49]))) 15 true,Q 20 (.pick (V 15) (V 19) bR)]++(Q 21 (.wc [] (.cst (.fn 160 [])) [(V 11),(V 20)])::[])
def Gf:List aA:=[M 22 4,M 23 0,M 24 0,Q 25 (.len false (V 24)),Q 26 (.arith .sub (V 25) (I 4)),Q 27 (.slc 1 (some (V 26)) none (V 23)),Q 28 (.toStr (V 27)),M 29 0,M 30 0,Q 31 (.len false (V 30)),Q 32 (.arith .sub (V 31) (I 4)),Q 33 (.slc 1 none (some (V 32)) (V 29)),Q 34 (.call .std 161 [(V 33)]),Q 35 (.toStr (V 34)),Q 36 (.arith .eql (V 28) (V 35))]++(Q 37 (.wc [] (.cst (.fn 160 [])) [(V 22),(V 36)])::[])
def Gg:List aA:=[M 50 4]++(Q 51 (.wc [] (.cst (.fn 162 [])) [(V 50)])::[Q 52 (.call .std 133 [(V 51)]),M 49 52,EX 53 0 49,EX 54 1 49,M 5 53,M 6 54])
def zC:List aA:=[M 55 4,M 56 6,Q 57 (.arith .eql (V 56) (I 0))]++(Q 58 (.wc [] (.cst (.fn 160 [])) [(V 55),(V 57)])::[])
def Gi:List aA:=[Q 66 (.loadb 2 false 1 (V 2)),Q 67 (.loadb 2 false 1 (V 2)),bj 68 67,FA 69 1 68,Q 70 (.loadb 61 false 1 (V 69)),M 71 4]++(Q 72 (.wc [2,61] (.cst (.fn 163 [])) [(V 71)])::[Q 73 (.bsl false .nils 1 [(0,(V 72))]),Q 74 (.app 1 24 (V 70) (V 73)),bj 75 66,FA 76 1 75,QN (.store 1 (V 76) (V 74))])
def Gj:List aA:=[M 78 4,M 79 4,bj 80 79,FA 81 1 80,LD 82 81,M 83 4,bj 84 83,FA 85 0 84,LD 86 85,Q 87 (.len false (V 86)),Q 88 (.arith .eql (V 82) (V 87)),M 89 88,QG (some 90) (.load false 1 false (V 2)) 89 true,QG (some 91) (.call .std 164 [(V 90)]) 89 true,QG (some 92) (.arith .leq (V 91) (I 65536)) 89 true,Q 93 (.pick (V 89) (V 92) bR),M 94 93,QG (some 95) (.mov (V 4)) 94 true,QG (some 96) (.load false 1 false (V 2)) 94 true,QG (some 97) (.call .std 165 [(V 95),(V 96)]) 94 true,Q 98 (.pick (V 94) (V 97) bR)]++(Q 99 (.wc [] (.cst (.fn 160 [])) [(V 78),(V 98)])::[])
def sD:aS:=
 (.seq (.region va) (.seq (.cond (V 65) .skip (.exit 0)) (.seq (.block 1 (.clr [(66,77)] (.region Gi))) (.clr [(77,78)] (.region zs)))))
def vK:aX:=
 ⟨2,[],
 (.seq (.region HP) (.seq (.seq (.clr [(7,8)] (.region vP)) (.cond (V 8) .ret .skip)) (.seq (.region zJ) (.seq (.seq (.clr [(9,14)] (.region zK)) (.seq (.clr [(14,19)] (.region zL)) (.cond (V 19) (.seq (.region zM) .ret) .skip))) (.clr [(20,21)] (.region HQ)))))),false⟩
def oI:gR:=
 ⟨1,[.cell 2 false 1,.cell 3 false 1],
 [(.region zn)],
 ⟨some 7,.mkfn 158 [(.tmp 2),(.tmp 3)],none⟩,7,
 (.seq (.clr [(8,11)] (.region zo)) (.seq (.clr [(11,22)] (.region Ge)) (.seq (.clr [(22,38)] (.region Gf)) (.seq (.clr [(38,49)] (.region zp)) (.seq (.clr [(49,55)] (.region Gg)) (.seq (.clr [(55,59)] (.region zC)) (.seq (.clr [(59,61)] (.region zq)) (.seq (.seq (.clr [(62,63)] (.region zr)) (.block 0 (.loop sD))) (.seq (.clr [(78,100)] (.region Gj)) (.seq (.clr [(100,101)] (.region zt)) .ret)))))))))),false,some (158,vK)⟩
end Ps
