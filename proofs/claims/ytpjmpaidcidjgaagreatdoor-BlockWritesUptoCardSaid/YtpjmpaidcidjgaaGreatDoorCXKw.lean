/- Functions that may panic, as W code: printed by program, checked by the kernel. -/
import Derived.Test.YtpjmpaidcidjgaaGreatDoorAbbKw
import Derived.Test.YtpjmpaidcidjgaaGreatDoorCodeKw
import Derived.Test.YtpjmpaidcidjgaaGreatDoorExtMKw
import Derived.Test.YtpjmpaidcidjgaaGreatDoorChecked
import Derived.Test.YtpjmpaidcidjgaaGreatDoorShelfMKw
set_option linter.defProp false
namespace Ps
open Go Go.Proofs
set_option maxRecDepth 10000
def AZ:List (Nat×Nat):=[(0,0),(1,1),(2,2),(459,3),(456,4),(458,5),(457,6),(460,7),(155,8),(63,9),(64,10),(151,11),(170,12),(65,13),(66,14),(171,15),(157,16),(177,17),(51,18),(153,19),(261,20),(107,21),(262,22),(134,23),(263,24),(264,25),(161,26),(152,27),(154,28),(169,29),(52,30),(174,31),(257,32),(26,33),(156,34),(158,35),(159,36),(160,37),(133,38),(162,39),(136,40),(163,41),(164,42),(165,43),(176,44),(265,45),(40,46),(28,47),(130,48),(218,49),(234,50),(108,51),(333,52),(334,53),(270,54),(135,55),(219,56),(258,57),(259,58),(260,59),(98,60),(102,61),(329,62),(266,63),(267,64),(268,65),(269,66),(232,67),(233,68),(271,69),(201,70),(272,71),(55,72),(335,73),(336,74),(337,75),(338,76),(121,77),(103,78),(104,79),(105,80),(106,81),(199,82),(314,83),(377,84),(378,85),(342,86),(235,87),(220,88),(236,89),(330,90),(331,91),(332,92),(126,93),(216,94),(339,95),(340,96),(341,97),(110,98),(111,99),(379,100),(380,101),(217,102),(293,103),(239,104),(362,105),(404,106),(405,107),(373,108),(139,109),(238,110),(375,111),(376,112),(406,113),(347,114),(316,115),(317,116),(413,117),(414,118),(415,119),(401,120),(402,121),(403,122),(363,123),(364,124),(365,125),(366,126),(367,127),(368,128),(369,129),(370,130),(371,131),(372,132),(412,133),(394,134),(395,135),(396,136),(397,137),(398,138),(411,139),(417,140),(418,141),(419,142),(420,143),(421,144),(422,145),(423,146),(424,147),(425,148),(426,149),(427,150),(428,151),(429,152),(430,153),(431,154),(432,155),(433,156),(434,157),(436,158),(437,159),(438,160),(441,161),(442,162),(443,163),(444,164),(445,165),(446,166),(447,167),(448,168),(449,169),(450,170),(451,171),(455,172),(494,176)]
def Sh:List (Nat×Nat):=[(0,9),(3,72),(1,74),(2,77),(11,144),(6,174),(7,177),(8,179),(13,249)]
def Si:List (Nat×String):=[(0, "gauge/regex.ends"),(1, "Kind"),(2, "Elem"),(3, "Implements"),(4, "AssignableTo"),(5, "As"),(6, "Unwrap")]
def Sj:List (Nat×Nat×Nat):=[]
def Sk:List (Nat×qk):=[(459,.code z9),(460,.code kK),(155,.code z53),(63,.code z46),(64,.code z35),(151,.code lA),(170,.code qD),(171,.code xH),(157,.code z7),(177,.code qE),(51,.code mR),(153,.code oA),(261,.code qF),(107,.code oB),(262,.code z27),(263,.code lB),(264,.code mS),(161,.code qH),(152,.code mT),(154,.code qI),(169,.code mU),(52,.code z44),(174,.code oC),(257,.code qJ),(26,.code qK),(156,.code xp),(133,.code xq),(136,.code xr),(164,.code xw),(165,.code z1),(176,.code z6),(40,.code z36),(28,.code qL),(130,.code z4),(218,.code qN),(108,.code z24),(333,.code qO),(334,.code z2),(270,.code qP),(135,.code mV),(219,.code oD),(258,.code mW),(259,.code qQ),(260,.code qS),(98,.code qT),(102,.code qU),(329,.code qV),(232,.code yO),(233,.code z8),(201,.code yP),(272,.code yQ),(55,.code z3),(121,.code z57),(103,.code z0),(104,.code qW),(105,.code z63),(106,.code z5),(199,.exs (oH 362)),(314,.code z29),(377,.code qX),(378,.code qY),(342,.code qZ),(235,.code mX),(220,.code qb),(236,.code qc),(330,.code oE),(331,.code oF),(332,.code z33),(126,.code qf),(216,.code qh),(110,.code z23),(111,.code z26),(379,.code yU),(380,.code yW),(217,.code qi),(404,.code z64),(405,.code z41),(373,.code qj),(139,.code mY),(238,.code kz),(375,.code z32),(376,.code pt),(406,.code wb),(413,.code pu),(414,.code z28),(415,.code px),(401,.code py),(402,.code nz),(403,.code pz),(412,.code qB)]
def T:aQ:=⟨iL Sk,tg Sj⟩
noncomputable def tie:Tie:=⟨Tryz.prog,T,yf AZ 100000,qu Sh,PX Si,[(0,.iface 169 (.agg #[.pointer (some ⟨1,74,none⟩)]))]⟩
def aDG:ap tie Tryz.f3 z9=true:=by kernel_rfl
def aDH:aj tie 459 (.code z9):=⟨Tryz.f3,Tryz.func3,aDG⟩
def aDI:ap tie Tryz.f7 kK=true:=by kernel_rfl
def aDJ:aj tie 460 (.code kK):=⟨Tryz.f7,Tryz.func7,aDI⟩
def aDK:ap tie Tryz.f8 z53=true:=by kernel_rfl
def aDL:aj tie 155 (.code z53):=⟨Tryz.f8,Tryz.func8,aDK⟩
def aDM:ap tie Tryz.f9 z46=true:=by kernel_rfl
def aDN:aj tie 63 (.code z46):=⟨Tryz.f9,Tryz.func9,aDM⟩
def aDO:ap tie Tryz.f10 z35=true:=by kernel_rfl
def aDP:aj tie 64 (.code z35):=⟨Tryz.f10,Tryz.func10,aDO⟩
def aDQ:ap tie Tryz.f11 lA=true:=by kernel_rfl
def aDR:aj tie 151 (.code lA):=⟨Tryz.f11,Tryz.func11,aDQ⟩
def aDS:ap tie Tryz.f12 qD=true:=by kernel_rfl
def aDT:aj tie 170 (.code qD):=⟨Tryz.f12,Tryz.func12,aDS⟩
def aDU:ap tie Tryz.f15 xH=true:=by kernel_rfl
def aDV:aj tie 171 (.code xH):=⟨Tryz.f15,Tryz.func15,aDU⟩
def aDW:ap tie Tryz.f16 z7=true:=by kernel_rfl
def aDX:aj tie 157 (.code z7):=⟨Tryz.f16,Tryz.func16,aDW⟩
def aDY:ap tie Tryz.f17 qE=true:=by kernel_rfl
def aDZ:aj tie 177 (.code qE):=⟨Tryz.f17,Tryz.func17,aDY⟩
def aD0:ap tie Tryz.f18 mR=true:=by kernel_rfl
def aD1:aj tie 51 (.code mR):=⟨Tryz.f18,Tryz.func18,aD0⟩
def aD2:ap tie Tryz.f19 oA=true:=by kernel_rfl
def aD3:aj tie 153 (.code oA):=⟨Tryz.f19,Tryz.func19,aD2⟩
def aD4:ap tie Tryz.f20 qF=true:=by kernel_rfl
def aD5:aj tie 261 (.code qF):=⟨Tryz.f20,Tryz.func20,aD4⟩
def aD6:ap tie Tryz.f21 oB=true:=by kernel_rfl
def aD7:aj tie 107 (.code oB):=⟨Tryz.f21,Tryz.func21,aD6⟩
def aD8:ap tie Tryz.f22 z27=true:=by kernel_rfl
def aD9:aj tie 262 (.code z27):=⟨Tryz.f22,Tryz.func22,aD8⟩
def aEa:ap tie Tryz.f24 lB=true:=by kernel_rfl
def aEb:aj tie 263 (.code lB):=⟨Tryz.f24,Tryz.func24,aEa⟩
def aEc:ap tie Tryz.f25 mS=true:=by kernel_rfl
def aEd:aj tie 264 (.code mS):=⟨Tryz.f25,Tryz.func25,aEc⟩
def aEe:ap tie Tryz.f26 qH=true:=by kernel_rfl
def aEf:aj tie 161 (.code qH):=⟨Tryz.f26,Tryz.func26,aEe⟩
def aEg:ap tie Tryz.f27 mT=true:=by kernel_rfl
def aEh:aj tie 152 (.code mT):=⟨Tryz.f27,Tryz.func27,aEg⟩
def aEi:ap tie Tryz.f28 qI=true:=by kernel_rfl
def aEj:aj tie 154 (.code qI):=⟨Tryz.f28,Tryz.func28,aEi⟩
def aEk:ap tie Tryz.f29 mU=true:=by kernel_rfl
def aEl:aj tie 169 (.code mU):=⟨Tryz.f29,Tryz.func29,aEk⟩
def aEm:ap tie Tryz.f30 z44=true:=by kernel_rfl
def aEn:aj tie 52 (.code z44):=⟨Tryz.f30,Tryz.func30,aEm⟩
def aEo:ap tie Tryz.f31 oC=true:=by kernel_rfl
def aEp:aj tie 174 (.code oC):=⟨Tryz.f31,Tryz.func31,aEo⟩
def aEq:ap tie Tryz.f32 qJ=true:=by kernel_rfl
def aEr:aj tie 257 (.code qJ):=⟨Tryz.f32,Tryz.func32,aEq⟩
def aEs:ap tie Tryz.f33 qK=true:=by kernel_rfl
def aEt:aj tie 26 (.code qK):=⟨Tryz.f33,Tryz.func33,aEs⟩
def aEu:ap tie Tryz.f34 xp=true:=by kernel_rfl
def aEv:aj tie 156 (.code xp):=⟨Tryz.f34,Tryz.func34,aEu⟩
def aEw:ap tie Tryz.f38 xq=true:=by kernel_rfl
def aEx:aj tie 133 (.code xq):=⟨Tryz.f38,Tryz.func38,aEw⟩
def aEy:ap tie Tryz.f40 xr=true:=by kernel_rfl
def aEz:aj tie 136 (.code xr):=⟨Tryz.f40,Tryz.func40,aEy⟩
def aEA:ap tie Tryz.f42 xw=true:=by kernel_rfl
def aEB:aj tie 164 (.code xw):=⟨Tryz.f42,Tryz.func42,aEA⟩
def aEC:ap tie Tryz.f43 z1=true:=by kernel_rfl
def aED:aj tie 165 (.code z1):=⟨Tryz.f43,Tryz.func43,aEC⟩
def aEE:ap tie Tryz.f44 z6=true:=by kernel_rfl
def aEF:aj tie 176 (.code z6):=⟨Tryz.f44,Tryz.func44,aEE⟩
def aEG:ap tie Tryz.f46 z36=true:=by kernel_rfl
def aEH:aj tie 40 (.code z36):=⟨Tryz.f46,Tryz.func46,aEG⟩
def aEI:ap tie Tryz.f47 qL=true:=by kernel_rfl
def aEJ:aj tie 28 (.code qL):=⟨Tryz.f47,Tryz.func47,aEI⟩
def aEK:ap tie Tryz.f48 z4=true:=by kernel_rfl
def aEL:aj tie 130 (.code z4):=⟨Tryz.f48,Tryz.func48,aEK⟩
def aEM:ap tie Tryz.f49 qN=true:=by kernel_rfl
def aEN:aj tie 218 (.code qN):=⟨Tryz.f49,Tryz.func49,aEM⟩
def aEO:ap tie Tryz.f51 z24=true:=by kernel_rfl
def aEP:aj tie 108 (.code z24):=⟨Tryz.f51,Tryz.func51,aEO⟩
def aEQ:ap tie Tryz.f52 qO=true:=by kernel_rfl
def aER:aj tie 333 (.code qO):=⟨Tryz.f52,Tryz.func52,aEQ⟩
def aES:ap tie Tryz.f53 z2=true:=by kernel_rfl
def aET:aj tie 334 (.code z2):=⟨Tryz.f53,Tryz.func53,aES⟩
def aEU:ap tie Tryz.f54 qP=true:=by kernel_rfl
def aEV:aj tie 270 (.code qP):=⟨Tryz.f54,Tryz.func54,aEU⟩
def aEW:ap tie Tryz.f55 mV=true:=by kernel_rfl
def aEX:aj tie 135 (.code mV):=⟨Tryz.f55,Tryz.func55,aEW⟩
def aEY:ap tie Tryz.f56 oD=true:=by kernel_rfl
def aEZ:aj tie 219 (.code oD):=⟨Tryz.f56,Tryz.func56,aEY⟩
def aE0:ap tie Tryz.f57 mW=true:=by kernel_rfl
def aE1:aj tie 258 (.code mW):=⟨Tryz.f57,Tryz.func57,aE0⟩
def aE2:ap tie Tryz.f58 qQ=true:=by kernel_rfl
def aE3:aj tie 259 (.code qQ):=⟨Tryz.f58,Tryz.func58,aE2⟩
def aE4:ap tie Tryz.f59 qS=true:=by kernel_rfl
def aE5:aj tie 260 (.code qS):=⟨Tryz.f59,Tryz.func59,aE4⟩
def aE6:ap tie Tryz.f60 qT=true:=by kernel_rfl
def aE7:aj tie 98 (.code qT):=⟨Tryz.f60,Tryz.func60,aE6⟩
def aE8:ap tie Tryz.f61 qU=true:=by kernel_rfl
def aE9:aj tie 102 (.code qU):=⟨Tryz.f61,Tryz.func61,aE8⟩
def aFa:ap tie Tryz.f62 qV=true:=by kernel_rfl
def aFb:aj tie 329 (.code qV):=⟨Tryz.f62,Tryz.func62,aFa⟩
def aFc:ap tie Tryz.f67 yO=true:=by kernel_rfl
def aFd:aj tie 232 (.code yO):=⟨Tryz.f67,Tryz.func67,aFc⟩
def aFe:ap tie Tryz.f68 z8=true:=by kernel_rfl
def aFf:aj tie 233 (.code z8):=⟨Tryz.f68,Tryz.func68,aFe⟩
def aFg:ap tie Tryz.f70 yP=true:=by kernel_rfl
def aFh:aj tie 201 (.code yP):=⟨Tryz.f70,Tryz.func70,aFg⟩
def aFi:ap tie Tryz.f71 yQ=true:=by kernel_rfl
def aFj:aj tie 272 (.code yQ):=⟨Tryz.f71,Tryz.func71,aFi⟩
def aFk:ap tie Tryz.f72 z3=true:=by kernel_rfl
def aFl:aj tie 55 (.code z3):=⟨Tryz.f72,Tryz.func72,aFk⟩
def aFm:ap tie Tryz.f77 z57=true:=by kernel_rfl
def aFn:aj tie 121 (.code z57):=⟨Tryz.f77,Tryz.func77,aFm⟩
def aFo:ap tie Tryz.f78 z0=true:=by kernel_rfl
def aFp:aj tie 103 (.code z0):=⟨Tryz.f78,Tryz.func78,aFo⟩
def aFq:ap tie Tryz.f79 qW=true:=by kernel_rfl
def aFr:aj tie 104 (.code qW):=⟨Tryz.f79,Tryz.func79,aFq⟩
def aFs:ap tie Tryz.f80 z63=true:=by kernel_rfl
def aFt:aj tie 105 (.code z63):=⟨Tryz.f80,Tryz.func80,aFs⟩
def aFu:ap tie Tryz.f81 z5=true:=by kernel_rfl
def aFv:aj tie 106 (.code z5):=⟨Tryz.f81,Tryz.func81,aFu⟩
def aFw:ap tie Tryz.f83 z29=true:=by kernel_rfl
def aFx:aj tie 314 (.code z29):=⟨Tryz.f83,Tryz.func83,aFw⟩
def aFy:ap tie Tryz.f84 qX=true:=by kernel_rfl
def aFz:aj tie 377 (.code qX):=⟨Tryz.f84,Tryz.func84,aFy⟩
def aFA:ap tie Tryz.f85 qY=true:=by kernel_rfl
def aFB:aj tie 378 (.code qY):=⟨Tryz.f85,Tryz.func85,aFA⟩
def aFC:ap tie Tryz.f86 qZ=true:=by kernel_rfl
def aFD:aj tie 342 (.code qZ):=⟨Tryz.f86,Tryz.func86,aFC⟩
def aFE:ap tie Tryz.f87 mX=true:=by kernel_rfl
def aFF:aj tie 235 (.code mX):=⟨Tryz.f87,Tryz.func87,aFE⟩
def aFG:ap tie Tryz.f88 qb=true:=by kernel_rfl
def aFH:aj tie 220 (.code qb):=⟨Tryz.f88,Tryz.func88,aFG⟩
def aFI:ap tie Tryz.f89 qc=true:=by kernel_rfl
def aFJ:aj tie 236 (.code qc):=⟨Tryz.f89,Tryz.func89,aFI⟩
def aFK:ap tie Tryz.f90 oE=true:=by kernel_rfl
def aFL:aj tie 330 (.code oE):=⟨Tryz.f90,Tryz.func90,aFK⟩
def aFM:ap tie Tryz.f91 oF=true:=by kernel_rfl
def aFN:aj tie 331 (.code oF):=⟨Tryz.f91,Tryz.func91,aFM⟩
def aFO:ap tie Tryz.f92 z33=true:=by kernel_rfl
def aFP:aj tie 332 (.code z33):=⟨Tryz.f92,Tryz.func92,aFO⟩
def aFQ:ap tie Tryz.f93 qf=true:=by kernel_rfl
def aFR:aj tie 126 (.code qf):=⟨Tryz.f93,Tryz.func93,aFQ⟩
def aFS:ap tie Tryz.f94 qh=true:=by kernel_rfl
def aFT:aj tie 216 (.code qh):=⟨Tryz.f94,Tryz.func94,aFS⟩
def aFU:ap tie Tryz.f98 z23=true:=by kernel_rfl
def aFV:aj tie 110 (.code z23):=⟨Tryz.f98,Tryz.func98,aFU⟩
def aFW:ap tie Tryz.f99 z26=true:=by kernel_rfl
def aFX:aj tie 111 (.code z26):=⟨Tryz.f99,Tryz.func99,aFW⟩
def aFY:ap tie Tryz.f100 yU=true:=by kernel_rfl
def aFZ:aj tie 379 (.code yU):=⟨Tryz.f100,Tryz.func100,aFY⟩
def aF0:ap tie Tryz.f101 yW=true:=by kernel_rfl
def aF1:aj tie 380 (.code yW):=⟨Tryz.f101,Tryz.func101,aF0⟩
def aF2:ap tie Tryz.f102 qi=true:=by kernel_rfl
def aF3:aj tie 217 (.code qi):=⟨Tryz.f102,Tryz.func102,aF2⟩
def aF4:ap tie Tryz.f106 z64=true:=by kernel_rfl
def aF5:aj tie 404 (.code z64):=⟨Tryz.f106,Tryz.func106,aF4⟩
def aF6:ap tie Tryz.f107 z41=true:=by kernel_rfl
def aF7:aj tie 405 (.code z41):=⟨Tryz.f107,Tryz.func107,aF6⟩
def aF8:ap tie Tryz.f108 qj=true:=by kernel_rfl
def aF9:aj tie 373 (.code qj):=⟨Tryz.f108,Tryz.func108,aF8⟩
def aGa:ap tie Tryz.f109 mY=true:=by kernel_rfl
def aGb:aj tie 139 (.code mY):=⟨Tryz.f109,Tryz.func109,aGa⟩
def aGc:ap tie Tryz.f110 kz=true:=by kernel_rfl
def aGd:aj tie 238 (.code kz):=⟨Tryz.f110,Tryz.func110,aGc⟩
def aGe:ap tie Tryz.f111 z32=true:=by kernel_rfl
def aGf:aj tie 375 (.code z32):=⟨Tryz.f111,Tryz.func111,aGe⟩
def aGg:ap tie Tryz.f112 pt=true:=by kernel_rfl
def aGh:aj tie 376 (.code pt):=⟨Tryz.f112,Tryz.func112,aGg⟩
def aGi:ap tie Tryz.f113 wb=true:=by kernel_rfl
def aGj:aj tie 406 (.code wb):=⟨Tryz.f113,Tryz.func113,aGi⟩
def aGk:ap tie Tryz.f117 pu=true:=by kernel_rfl
def aGl:aj tie 413 (.code pu):=⟨Tryz.f117,Tryz.func117,aGk⟩
def aGm:ap tie Tryz.f118 z28=true:=by kernel_rfl
def aGn:aj tie 414 (.code z28):=⟨Tryz.f118,Tryz.func118,aGm⟩
def aGo:ap tie Tryz.f119 px=true:=by kernel_rfl
def aGp:aj tie 415 (.code px):=⟨Tryz.f119,Tryz.func119,aGo⟩
def aGq:ap tie Tryz.f120 py=true:=by kernel_rfl
def aGr:aj tie 401 (.code py):=⟨Tryz.f120,Tryz.func120,aGq⟩
def aGs:ap tie Tryz.f121 nz=true:=by kernel_rfl
def aGt:aj tie 402 (.code nz):=⟨Tryz.f121,Tryz.func121,aGs⟩
def aGu:ap tie Tryz.f122 pz=true:=by kernel_rfl
def aGv:aj tie 403 (.code pz):=⟨Tryz.f122,Tryz.func122,aGu⟩
def aGw:ap tie Tryz.f133 qB=true:=by kernel_rfl
def aGx:aj tie 412 (.code qB):=⟨Tryz.f133,Tryz.func133,aGw⟩
def aGy:aj tie 199 (.exs (oH 362)):=by
 have hf:Tryz.prog.funcs[yf AZ 100000 199]?=some Tryz.f82:=Tryz.func82;exact YJ (X:=tie) (f:=199) (gk:=362) (fn:=Tryz.f82) (k:=9) Tryz.underlying9 hf (by decide +kernel) (by kernel_rfl) (fun bx b nn D0 w h1 h2 h3 h4=>Go.Proofs.Tryz.sorted_keys me bx b nn D0 w h1 h2 h3 h4)
def tieOk:cR tie where
 ty:=YU (by decide)
 meth:=fun t m f h u w=>YV (PZ (P:=Tryz.prog) (ty:=qu Sh) (mn:=PX Si) (fnOf:=yf AZ 100000) (l:=Sj) (by kernel_rfl) t m f h) _ u w
 mixed:=by kernel_rfl
 fns:=fun f pf h=>by
  have:∀q∈Sk,aj tie q.1 q.2:=by
   exact ay.2 ⟨aDH,ay.2 ⟨aDJ,ay.2 ⟨aDL,ay.2 ⟨aDN,ay.2 ⟨aDP,ay.2 ⟨aDR,ay.2 ⟨aDT,ay.2 ⟨aDV,ay.2 ⟨aDX,ay.2 ⟨aDZ,ay.2 ⟨aD1,ay.2 ⟨aD3,ay.2 ⟨aD5,ay.2 ⟨aD7,ay.2 ⟨aD9,ay.2 ⟨aEb,ay.2 ⟨aEd,ay.2 ⟨aEf,ay.2 ⟨aEh,ay.2 ⟨aEj,ay.2 ⟨aEl,ay.2 ⟨aEn,ay.2 ⟨aEp,ay.2 ⟨aEr,ay.2 ⟨aEt,ay.2 ⟨aEv,ay.2 ⟨aEx,ay.2 ⟨aEz,ay.2 ⟨aEB,ay.2 ⟨aED,ay.2 ⟨aEF,ay.2 ⟨aEH,ay.2 ⟨aEJ,ay.2 ⟨aEL,ay.2 ⟨aEN,ay.2 ⟨aEP,ay.2 ⟨aER,ay.2 ⟨aET,ay.2 ⟨aEV,ay.2 ⟨aEX,ay.2 ⟨aEZ,ay.2 ⟨aE1,ay.2 ⟨aE3,ay.2 ⟨aE5,ay.2 ⟨aE7,ay.2 ⟨aE9,ay.2 ⟨aFb,ay.2 ⟨aFd,ay.2 ⟨aFf,ay.2 ⟨aFh,ay.2 ⟨aFj,ay.2 ⟨aFl,ay.2 ⟨aFn,ay.2 ⟨aFp,ay.2 ⟨aFr,ay.2 ⟨aFt,ay.2 ⟨aFv,ay.2 ⟨aGy,ay.2 ⟨aFx,ay.2 ⟨aFz,ay.2 ⟨aFB,ay.2 ⟨aFD,ay.2 ⟨aFF,ay.2 ⟨aFH,ay.2 ⟨aFJ,ay.2 ⟨aFL,ay.2 ⟨aFN,ay.2 ⟨aFP,ay.2 ⟨aFR,ay.2 ⟨aFT,ay.2 ⟨aFV,ay.2 ⟨aFX,ay.2 ⟨aFZ,ay.2 ⟨aF1,ay.2 ⟨aF3,ay.2 ⟨aF5,ay.2 ⟨aF7,ay.2 ⟨aF9,ay.2 ⟨aGb,ay.2 ⟨aGd,ay.2 ⟨aGf,ay.2 ⟨aGh,ay.2 ⟨aGj,ay.2 ⟨aGl,ay.2 ⟨aGn,ay.2 ⟨aGp,ay.2 ⟨aGr,ay.2 ⟨aGt,ay.2 ⟨aGv,ay.2 ⟨aGx,fun _ h=>absurd h pO⟩⟩⟩⟩⟩⟩⟩⟩⟩⟩⟩⟩⟩⟩⟩⟩⟩⟩⟩⟩⟩⟩⟩⟩⟩⟩⟩⟩⟩⟩⟩⟩⟩⟩⟩⟩⟩⟩⟩⟩⟩⟩⟩⟩⟩⟩⟩⟩⟩⟩⟩⟩⟩⟩⟩⟩⟩⟩⟩⟩⟩⟩⟩⟩⟩⟩⟩⟩⟩⟩⟩⟩⟩⟩⟩⟩⟩⟩⟩⟩⟩⟩⟩⟩⟩⟩⟩⟩⟩⟩
  exact this _ (oJ h)
end Ps
namespace Ps
open Go Go.Proofs
def Wv:List aB:=[Q 21 (.build [] []),Q 22 (.mkif 11 (V 21))]++(QN (.pan (V 22))::[])
def Cj:aU:=
 ⟨1,[.tmp 2],
 (.seq (.region MV) (.seq (.clr [(6,19)] (.region MW)) (.seq (.seq (.clr [(19,20)] (.region MX)) (.cond (V 20) (.clr [(21,23)] (.region Wv)) .skip)) (.seq (.clr [(23,27)] (.region MY)) (.seq (.clr [(27,28)] (.region MZ)) .ret))))),false⟩
def Ww:List aB:=[M 4 0]++(Q 5 (.wc [] (.cst (.fn 338 [])) [(V 4)])::[M 3 5])
def Wy:List aB:=[Q 8 (.build [] []),Q 9 (.mkif 11 (V 8))]++(QN (.pan (V 9))::[])
def Ck:aU:=
 ⟨1,[.tmp 2],
 (.seq (.region MO) (.seq (.clr [(4,6)] (.region Ww)) (.seq (.seq (.clr [(6,7)] (.region MP)) (.cond (V 7) (.clr [(8,10)] (.region Wy)) .skip)) (.seq (.clr [(10,12)] (.region MQ)) .ret)))),false⟩
def Wz:List aB:=[M 6 0]++(Q 7 (.wc [] (.cst (.fn 338 [])) [(V 6)])::[Q 8 (.call .pur 379 [(V 7)]),M 5 8])
def XA:List aB:=[Q 18 (.build [] []),Q 19 (.mkif 11 (V 18))]++(QN (.pan (V 19))::[])
def Cl:aU:=
 ⟨2,[.tmp 4],
 (.seq (.region MS) (.seq (.clr [(6,9)] (.region Wz)) (.seq (.seq (.clr [(9,17)] (.region MT)) (.cond (V 17) (.clr [(18,20)] (.region XA)) .skip)) (.seq (.clr [(20,21)] (.region MU)) .ret)))),false⟩
def XB:List aB:=[M 24 4]++(Q 25 (.wc [] (.cst (.fn 338 [])) [(V 24)])::[M 7 25])
def XC:List aB:=[M 53 5]++(Q 54 (.wc [] (V 53) [])::[FA 55 0 10,QN (.store 1 (V 55) (V 54))])
def XD:List aB:=[M 58 5]++(Q 59 (.wc [] (V 58) [])::[M 8 59])
def XE:List aB:=[M 38 8,M 39 6]++(Q 40 (.wc [] (V 39) [(I 1099511627776)])::[Q 41 (.arith .add (V 38) (V 40)),M 8 41])
def XF:List aB:=[M 67 6]++(Q 68 (.wc [] (V 67) [(I 2305843009213693952)])::[FA 69 1 10,QN (.store 1 (V 69) (V 68))])
def XG:aL:=
 (.seq (.region Jk) (.seq (.cond (V 35) .skip (.exit 0)) (.seq (.block 1 (.seq (.clr [(36,37)] (.region Jl)) (.seq (.region Jm) (.seq (.seq (.region Jn) (.block 2 (.seq (.clr [(52,53)] (.region Jo)) (.cond (V 51) (.clr [(53,56)] (.region XC)) (.seq (.clr [(57,58)] (.region Jp)) (.cond (V 56) (.seq (.clr [(58,60)] (.region XD)) (.clr [(60,67)] (.region Jq))) (.seq (.clr [(38,42)] (.region XE)) (.clr [(42,51)] (.region Jr))))))))) (.seq (.clr [(67,70)] (.region XF)) (.seq (.seq (.clr [(70,71)] (.region Js)) (.cond (V 71) (.clr [(72,82)] (.region Jt)) .skip)) (.seq (.seq (.clr [(82,92)] (.region Ju)) (.cond (V 92) (.seq (.region Jv) .ret) .skip)) (.clr [(93,97)] (.region Jw))))))))) (.clr [(97,98)] (.region Jx)))))
def XH:aU:=
 ⟨2,[],
 (.seq (.region EU) (.seq (.clr [(6,7)] (.region EV)) (.cond (V 7) (.seq (.seq (.clr [(3,4),(8,13)] (.region EW)) (.seq (.clr [(13,14)] (.region EY)) (.cond (V 14) (.clr [(15,16)] (.region EZ)) .skip))) (.region Ea)) .skip))),false⟩
def Cm:eN:=
 ⟨1,[.cell 2 false 1,.cell 3 false 1],
 [(.region Jd)],
 ⟨some 12,.mkfn 335 [(.tmp 2),(.tmp 3)],none⟩,12,
 (.seq (.clr [(13,20)] (.region Je)) (.seq (.clr [(20,24)] (.region Jf)) (.seq (.clr [(24,26)] (.region XB)) (.seq (.seq (.clr [(26,31)] (.region Jg)) (.cond (V 31) (.seq (.region Jh) .ret) .skip)) (.seq (.region Ji) (.seq (.seq (.clr [(32,33)] (.region Jj)) (.block 0 (.loop XG))) (.seq (.seq (.clr [(98,108)] (.region Jy)) (.seq (.clr [(108,125)] (.region Jz)) (.cond (V 125) (.seq (.region KA) .ret) .skip))) (.seq (.clr [(126,127)] (.region KB)) .ret)))))))),false,some (335,XH)⟩
def XI:List aB:=[M 6 0,ba 7 6,FA 8 1 7,LD 9 8,Q 10 (.build [(.int .i64 0)] [(0,1,(V 9))]),Q 11 (.mkif 3 (V 10))]++(QN (.pan (V 11))::[])
def Cn:aU:=
 ⟨2,[],
 (.seq (.clr [(4,5)] (.region Ib)) (.cond (V 5) (.clr [(6,12)] (.region XI)) .skip)),false⟩
def XJ:List aB:=[M 19 0,M 20 5,Q 21 (.arith .eql (V 20) (I 0))]++(Q 22 (.wc [] (.cst (.fn 160 [])) [(V 19),(V 21)])::[])
def Co:aU:=
 ⟨1,[.tmp 2],
 (.seq (.region MA) (.seq (.clr [(6,19)] (.region MB)) (.seq (.clr [(19,23)] (.region XJ)) (.seq (.clr [(23,27)] (.region MC)) (.seq (.clr [(27,28)] (.region MD)) .ret))))),false⟩
def XK:List aB:=[M 4 0]++(Q 5 (.wc [] (.cst (.fn 271 [])) [(V 4)])::[M 3 5])
def XL:List aB:=[M 6 0,M 7 3,M 8 0,ba 9 8,FA 10 0 9,LD 11 10,Q 12 (.len false (V 11)),M 13 0,ba 14 13,FA 15 1 14,LD 16 15,Q 17 (.arith .sub (V 12) (V 16)),Q 18 (.arith .leq (V 7) (V 17))]++(Q 19 (.wc [] (.cst (.fn 160 [])) [(V 6),(V 18)])::[])
def Cp:aU:=
 ⟨1,[.tmp 2],
 (.seq (.region Ix) (.seq (.clr [(4,6)] (.region XK)) (.seq (.clr [(6,20)] (.region XL)) (.seq (.clr [(20,28)] (.region Iy)) (.seq (.clr [(28,43)] (.region Iz)) .ret))))),false⟩
def XM:List aB:=[M 9 0]++(Q 10 (.wc [] (.cst (.fn 271 [])) [(V 9)])::[M 3 10])
def XN:List aB:=[M 11 0,M 12 3,Q 13 (.arith .geq (V 12) (I 1)),M 14 13,QG (some 15) (.mov (V 3)) 14 true,QG (some 16) (.arith .leq (V 15) (I 65536)) 14 true,Q 17 (.pick (V 14) (V 16) bG)]++(Q 18 (.wc [] (.cst (.fn 160 [])) [(V 11),(V 17)])::[])
def XO:List aB:=[M 23 0]++(Q 24 (.wc [] (.cst (.fn 162 [])) [(V 23)])::[Q 25 (.call .std 201 [(V 24)]),Q 26 (.build [.nils,(.int .i64 0),(.int .i64 0),(.int .i64 0)] [(0,1,(V 25))]),Q 7 (.alloc false [.nils,(.int .i64 0),(.int .i64 0),(.int .i64 0)]),QN (.store 4 (V 7) (V 26))])
def XP:List aB:=[M 38 0,M 39 8,Q 40 (.arith .eql (V 39) (I 0)),M 41 40,QG (some 42) (.faddr 2 (V 7)) 41 true,QG (some 43) (.load false 1 false (V 42)) 41 true,QG (some 44) (.mov (V 5)) 41 true,QG (some 45) (.arith .gtr (V 43) (V 44)) 41 true,Q 46 (.pick (V 41) (V 45) bG),M 47 46,QG (some 48) (.faddr 1 (V 7)) 47 true,QG (some 49) (.load false 1 false (V 48)) 47 true,QG (some 50) (.arith .eql (V 49) (I 120)) 47 true,QG (some 51) (.mov (V 50)) 47 true,QG (some 52) (.mov (V 6)) 51 false,QG (some 53) (.mov (V 3)) 51 false,QG (some 54) (.arith .sub (V 53) (I 1)) 51 false,QG (some 55) (.arith .eql (V 52) (V 54)) 51 false,QG (some 56) (.pick (V 51) cN (V 55)) 47 true,Q 57 (.pick (V 47) (V 56) bG)]++(Q 58 (.wc [] (.cst (.fn 160 [])) [(V 38),(V 57)])::[])
def XQ:aL:=
 (.seq (.region JG) (.seq (.cond (V 21) .skip (.exit 0)) (.seq (.block 1 (.seq (.clr [(22,23)] (.region JH)) (.seq (.clr [(23,27)] (.region XO)) (.seq (.region JI) (.seq (.clr [(27,38)] (.region JJ)) (.seq (.clr [(38,59)] (.region XP)) (.seq (.clr [(59,61)] (.region JK)) (.clr [(61,65)] (.region JL))))))))) (.clr [(65,66)] (.region JM)))))
def Cq:aU:=
 ⟨1,[.tmp 2],
 (.seq (.region JC) (.seq (.clr [(9,11)] (.region XM)) (.seq (.clr [(11,19)] (.region XN)) (.seq (.region JD) (.seq (.region JE) (.seq (.seq (.region JF) (.block 0 (.loop XQ))) (.seq (.clr [(66,67)] (.region JN)) .ret))))))),false⟩
def XR:List aB:=[M 11 4,M 12 0,Q 13 (.len false (V 12)),Q 14 (.arith .geq (V 13) (I 8)),M 15 14,QG (some 16) (.mov (V 0)) 15 true,QG (some 17) (.slc 1 none (some (I 4)) (V 16)) 15 true,QG (some 18) (.toStr (V 17)) 15 true,QG (some 19) (.arith .eql (V 18) (.cst (.str [71,66,75,49]))) 15 true,Q 20 (.pick (V 15) (V 19) bG)]++(Q 21 (.wc [] (.cst (.fn 160 [])) [(V 11),(V 20)])::[])
def XS:List aB:=[M 22 4,M 23 0,M 24 0,Q 25 (.len false (V 24)),Q 26 (.arith .sub (V 25) (I 4)),Q 27 (.slc 1 (some (V 26)) none (V 23)),Q 28 (.toStr (V 27)),M 29 0,M 30 0,Q 31 (.len false (V 30)),Q 32 (.arith .sub (V 31) (I 4)),Q 33 (.slc 1 none (some (V 32)) (V 29)),Q 34 (.call .std 161 [(V 33)]),Q 35 (.toStr (V 34)),Q 36 (.arith .eql (V 28) (V 35))]++(Q 37 (.wc [] (.cst (.fn 160 [])) [(V 22),(V 36)])::[])
def XT:List aB:=[M 50 4]++(Q 51 (.wc [] (.cst (.fn 162 [])) [(V 50)])::[Q 52 (.call .std 133 [(V 51)]),M 49 52,EX 53 0 49,EX 54 1 49,M 5 53,M 6 54])
def XU:List aB:=[M 55 4,M 56 6,Q 57 (.arith .eql (V 56) (I 0))]++(Q 58 (.wc [] (.cst (.fn 160 [])) [(V 55),(V 57)])::[])
def XV:List aB:=[Q 66 (.loadb 2 false 1 (V 2)),Q 67 (.loadb 2 false 1 (V 2)),ba 68 67,FA 69 1 68,Q 70 (.loadb 61 false 1 (V 69)),M 71 4]++(Q 72 (.wc [2,61] (.cst (.fn 163 [])) [(V 71)])::[Q 73 (.bsl false .nils 1 [(0,(V 72))]),Q 74 (.app 1 24 (V 70) (V 73)),ba 75 66,FA 76 1 75,QN (.store 1 (V 76) (V 74))])
def XW:List aB:=[M 78 4,M 79 4,ba 80 79,FA 81 1 80,LD 82 81,M 83 4,ba 84 83,FA 85 0 84,LD 86 85,Q 87 (.len false (V 86)),Q 88 (.arith .eql (V 82) (V 87)),M 89 88,QG (some 90) (.load false 1 false (V 2)) 89 true,QG (some 91) (.call .std 164 [(V 90)]) 89 true,QG (some 92) (.arith .leq (V 91) (I 65536)) 89 true,Q 93 (.pick (V 89) (V 92) bG),M 94 93,QG (some 95) (.mov (V 4)) 94 true,QG (some 96) (.load false 1 false (V 2)) 94 true,QG (some 97) (.call .std 165 [(V 95),(V 96)]) 94 true,Q 98 (.pick (V 94) (V 97) bG)]++(Q 99 (.wc [] (.cst (.fn 160 [])) [(V 78),(V 98)])::[])
def XX:aL:=
 (.seq (.region Fs) (.seq (.cond (V 65) .skip (.exit 0)) (.seq (.block 1 (.clr [(66,77)] (.region XV))) (.clr [(77,78)] (.region Ft)))))
def XY:aU:=
 ⟨2,[],
 (.seq (.region EN) (.seq (.seq (.clr [(7,8)] (.region EO)) (.cond (V 8) .ret .skip)) (.seq (.region EP) (.seq (.seq (.clr [(9,14)] (.region EQ)) (.seq (.clr [(14,19)] (.region ER)) (.cond (V 19) (.seq (.region ES) .ret) .skip))) (.clr [(20,21)] (.region ET)))))),false⟩
def Cr:eN:=
 ⟨1,[.cell 2 false 1,.cell 3 false 1],
 [(.region Fm)],
 ⟨some 7,.mkfn 158 [(.tmp 2),(.tmp 3)],none⟩,7,
 (.seq (.clr [(8,11)] (.region Fn)) (.seq (.clr [(11,22)] (.region XR)) (.seq (.clr [(22,38)] (.region XS)) (.seq (.clr [(38,49)] (.region Fo)) (.seq (.clr [(49,55)] (.region XT)) (.seq (.clr [(55,59)] (.region XU)) (.seq (.clr [(59,61)] (.region Fp)) (.seq (.seq (.clr [(62,63)] (.region Fq)) (.block 0 (.loop XX))) (.seq (.clr [(78,100)] (.region XW)) (.seq (.clr [(100,101)] (.region Fu)) .ret)))))))))),false,some (158,XY)⟩
end Ps
