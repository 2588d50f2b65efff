/- The program's functions are the pure ones: printed by program, checked by the kernel. -/
import Derived.Test.YtbjefjhmnojdoaaGreatDefs
import Derived.Test.YtbjefjhmnojdoaaGreatCode
import Derived.Test.YtbjefjhmnojdoaaGreatExtM
import Derived.Test.YtbjefjhmnojdoaaGreatChecked
import Derived.Test.YtbjefjhmnojdoaaGreatShelfM
set_option linter.defProp false
namespace Ps
open Go Go.Proofs
set_option maxRecDepth 10000
def AE:List (Nat×Nat):=[(0,0),(1,1),(2,2),(13,3),(16,4),(17,5),(57,6),(58,7),(59,8),(60,9),(61,10),(62,11),(142,12),(143,13),(144,14),(145,15),(146,16),(89,17),(80,18),(85,19),(88,20),(86,21),(78,22),(147,23),(148,24),(149,25),(150,26),(90,27),(92,28),(93,29),(81,30),(87,31),(179,32),(107,33),(240,34),(29,35),(241,36),(242,37),(243,38),(31,39),(244,40),(245,41),(246,42),(247,43),(248,44),(77,45),(79,46),(249,47),(250,48),(251,49),(252,50),(205,51),(204,52),(253,53),(207,54),(198,55),(199,56),(200,57),(197,58),(203,59),(206,60),(194,61),(196,62),(254,63),(255,64),(256,65),(84,66),(201,67),(40,68),(275,69),(276,70),(218,71),(108,72),(318,73),(110,74),(111,75),(195,76),(319,77),(118,78),(83,79),(320,80),(321,81),(322,82),(323,83),(82,84),(324,85),(325,86),(175,87),(26,88),(295,89),(296,90),(293,91),(239,92),(294,93),(292,94),(202,95),(183,96),(219,97),(109,98),(326,99),(327,100),(259,101),(328,102),(121,103),(154,104),(221,105),(374,106),(102,107),(347,108),(316,109),(317,110),(98,111),(281,112),(282,113),(220,114),(270,115),(260,116),(399,117),(32,118),(400,119),(216,120),(363,121),(364,122),(365,123),(366,124),(367,125),(368,126),(369,127),(370,128),(371,129),(372,130),(373,131),(126,132),(329,133),(342,134),(112,135),(113,136),(394,137),(395,138),(396,139),(397,140),(398,141),(217,142),(411,143),(417,144),(418,145),(419,146),(420,147),(421,148),(422,149),(423,150),(424,151),(425,152),(426,153),(427,154),(428,155),(429,156),(432,157),(433,158),(438,159)]
def Yd:List (Nat×Nat):=[(0,9),(4,55)]
def Ye:List (Nat×String):=[(0, "gauge/regex.ends"),(1, "Kind"),(2, "Elem"),(3, "Implements"),(4, "AssignableTo"),(5, "As"),(6, "Unwrap")]
def Yf:List (Nat×Nat×Nat):=[]
def Yg:List (Nat×yN):=[(13,.code qj),(16,.code oy),(17,.code oz),(57,.code BJ),(58,.code z3),(59,.code kB),(60,.code tN),(61,.code tP),(62,.code tQ),(142,.code ka),(143,.code qk),(144,.code kc),(145,.code jB),(146,.code tT),(89,.code tU),(80,.code mM),(85,.code qn),(88,.code pC),(86,.code z41),(78,.code z9),(147,.code z44),(148,.code pD),(149,.code qr),(150,.code tV),(90,.code z23),(92,.code tW),(93,.code tX),(81,.code nJ),(87,.code nK),(179,.code nL),(107,.code z35),(240,.code qs),(29,.code qt),(241,.code qu),(242,.code qv),(243,.code mN),(31,.code qw),(244,.code qx),(245,.code qy),(246,.code z6),(247,.code tY),(248,.code tZ),(77,.code lG),(79,.code z4),(249,.code qz),(250,.code pG),(251,.code z64),(252,.code rB),(205,.code tc),(204,.code td),(253,.code te),(207,.code tg),(198,.code nM),(199,.exs (rL 294)),(200,.code z20),(197,.exs pQ),(203,.code th),(206,.code nN),(194,.code z24),(196,.code nO),(254,.code mO),(255,.code z63),(256,.code ti),(84,.code nP),(201,.code z5),(40,.code tj),(275,.code z29),(276,.code pH),(218,.code tk),(108,.code z28),(318,.code z36),(110,.code tl),(111,.code z33),(195,.code pI),(319,.code nQ),(118,.code z0),(83,.code z8),(320,.code tp),(321,.code tq),(322,.code tr),(323,.code tu),(82,.code z7),(324,.code nR),(325,.code mP),(175,.code tv),(26,.code tx),(295,.code uD),(296,.code z26),(202,.code uE),(183,.code z46),(219,.code rC),(109,.code qW),(326,.code qX),(327,.code qY),(259,.code tA),(328,.code qZ),(121,.code tB),(154,.code z57),(221,.code z2),(374,.code qf),(102,.code tC),(98,.code z53),(281,.code ox),(282,.code qh),(220,.code tE),(270,.code tG),(260,.code tH),(399,.code z32),(32,.code qi),(400,.code nH),(216,.code tI),(126,.code tJ),(329,.code tK),(342,.code tL),(112,.code z27),(113,.code tM)]
def T:bH:=⟨je Yg,yi Yf⟩
noncomputable def tie:bF:=⟨Tryz.prog,T,yh AE 100000,uX Yd,Vn Ye⟩
def aHq:ap tie Tryz.f3 qj=true:=by kernel_rfl
def aHr:am tie 13 (.code qj):=⟨Tryz.f3,Tryz.func3,aHq⟩
def aHs:ap tie Tryz.f4 oy=true:=by kernel_rfl
def aHt:am tie 16 (.code oy):=⟨Tryz.f4,Tryz.func4,aHs⟩
def aHu:ap tie Tryz.f5 oz=true:=by kernel_rfl
def aHv:am tie 17 (.code oz):=⟨Tryz.f5,Tryz.func5,aHu⟩
def aHw:ap tie Tryz.f6 BJ=true:=by kernel_rfl
def aHx:am tie 57 (.code BJ):=⟨Tryz.f6,Tryz.func6,aHw⟩
def aHy:ap tie Tryz.f7 z3=true:=by kernel_rfl
def aHz:am tie 58 (.code z3):=⟨Tryz.f7,Tryz.func7,aHy⟩
def aHA:ap tie Tryz.f8 kB=true:=by kernel_rfl
def aHB:am tie 59 (.code kB):=⟨Tryz.f8,Tryz.func8,aHA⟩
def aHC:ap tie Tryz.f9 tN=true:=by kernel_rfl
def aHD:am tie 60 (.code tN):=⟨Tryz.f9,Tryz.func9,aHC⟩
def aHE:ap tie Tryz.f10 tP=true:=by kernel_rfl
def aHF:am tie 61 (.code tP):=⟨Tryz.f10,Tryz.func10,aHE⟩
def aHG:ap tie Tryz.f11 tQ=true:=by kernel_rfl
def aHH:am tie 62 (.code tQ):=⟨Tryz.f11,Tryz.func11,aHG⟩
def aHI:ap tie Tryz.f12 ka=true:=by kernel_rfl
def aHJ:am tie 142 (.code ka):=⟨Tryz.f12,Tryz.func12,aHI⟩
def aHK:ap tie Tryz.f13 qk=true:=by kernel_rfl
def aHL:am tie 143 (.code qk):=⟨Tryz.f13,Tryz.func13,aHK⟩
def aHM:ap tie Tryz.f14 kc=true:=by kernel_rfl
def aHN:am tie 144 (.code kc):=⟨Tryz.f14,Tryz.func14,aHM⟩
def aHO:ap tie Tryz.f15 jB=true:=by kernel_rfl
def aHP:am tie 145 (.code jB):=⟨Tryz.f15,Tryz.func15,aHO⟩
def aHQ:ap tie Tryz.f16 tT=true:=by kernel_rfl
def aHR:am tie 146 (.code tT):=⟨Tryz.f16,Tryz.func16,aHQ⟩
def aHS:ap tie Tryz.f17 tU=true:=by kernel_rfl
def aHT:am tie 89 (.code tU):=⟨Tryz.f17,Tryz.func17,aHS⟩
def aHU:ap tie Tryz.f18 mM=true:=by kernel_rfl
def aHV:am tie 80 (.code mM):=⟨Tryz.f18,Tryz.func18,aHU⟩
def aHW:ap tie Tryz.f19 qn=true:=by kernel_rfl
def aHX:am tie 85 (.code qn):=⟨Tryz.f19,Tryz.func19,aHW⟩
def aHY:ap tie Tryz.f20 pC=true:=by kernel_rfl
def aHZ:am tie 88 (.code pC):=⟨Tryz.f20,Tryz.func20,aHY⟩
def aH0:ap tie Tryz.f21 z41=true:=by kernel_rfl
def aH1:am tie 86 (.code z41):=⟨Tryz.f21,Tryz.func21,aH0⟩
def aH2:ap tie Tryz.f22 z9=true:=by kernel_rfl
def aH3:am tie 78 (.code z9):=⟨Tryz.f22,Tryz.func22,aH2⟩
def aH4:ap tie Tryz.f23 z44=true:=by kernel_rfl
def aH5:am tie 147 (.code z44):=⟨Tryz.f23,Tryz.func23,aH4⟩
def aH6:ap tie Tryz.f24 pD=true:=by kernel_rfl
def aH7:am tie 148 (.code pD):=⟨Tryz.f24,Tryz.func24,aH6⟩
def aH8:ap tie Tryz.f25 qr=true:=by kernel_rfl
def aH9:am tie 149 (.code qr):=⟨Tryz.f25,Tryz.func25,aH8⟩
def aIa:ap tie Tryz.f26 tV=true:=by kernel_rfl
def aIb:am tie 150 (.code tV):=⟨Tryz.f26,Tryz.func26,aIa⟩
def aIc:ap tie Tryz.f27 z23=true:=by kernel_rfl
def aId:am tie 90 (.code z23):=⟨Tryz.f27,Tryz.func27,aIc⟩
def aIe:ap tie Tryz.f28 tW=true:=by kernel_rfl
def aIf:am tie 92 (.code tW):=⟨Tryz.f28,Tryz.func28,aIe⟩
def aIg:ap tie Tryz.f29 tX=true:=by kernel_rfl
def aIh:am tie 93 (.code tX):=⟨Tryz.f29,Tryz.func29,aIg⟩
def aIi:ap tie Tryz.f30 nJ=true:=by kernel_rfl
def aIj:am tie 81 (.code nJ):=⟨Tryz.f30,Tryz.func30,aIi⟩
def aIk:ap tie Tryz.f31 nK=true:=by kernel_rfl
def aIl:am tie 87 (.code nK):=⟨Tryz.f31,Tryz.func31,aIk⟩
def aIm:ap tie Tryz.f32 nL=true:=by kernel_rfl
def aIn:am tie 179 (.code nL):=⟨Tryz.f32,Tryz.func32,aIm⟩
def aIo:ap tie Tryz.f33 z35=true:=by kernel_rfl
def aIp:am tie 107 (.code z35):=⟨Tryz.f33,Tryz.func33,aIo⟩
def aIq:ap tie Tryz.f34 qs=true:=by kernel_rfl
def aIr:am tie 240 (.code qs):=⟨Tryz.f34,Tryz.func34,aIq⟩
def aIs:ap tie Tryz.f35 qt=true:=by kernel_rfl
def aIt:am tie 29 (.code qt):=⟨Tryz.f35,Tryz.func35,aIs⟩
def aIu:ap tie Tryz.f36 qu=true:=by kernel_rfl
def aIv:am tie 241 (.code qu):=⟨Tryz.f36,Tryz.func36,aIu⟩
def aIw:ap tie Tryz.f37 qv=true:=by kernel_rfl
def aIx:am tie 242 (.code qv):=⟨Tryz.f37,Tryz.func37,aIw⟩
def aIy:ap tie Tryz.f38 mN=true:=by kernel_rfl
def aIz:am tie 243 (.code mN):=⟨Tryz.f38,Tryz.func38,aIy⟩
def aIA:ap tie Tryz.f39 qw=true:=by kernel_rfl
def aIB:am tie 31 (.code qw):=⟨Tryz.f39,Tryz.func39,aIA⟩
def aIC:ap tie Tryz.f40 qx=true:=by kernel_rfl
def aID:am tie 244 (.code qx):=⟨Tryz.f40,Tryz.func40,aIC⟩
def aIE:ap tie Tryz.f41 qy=true:=by kernel_rfl
def aIF:am tie 245 (.code qy):=⟨Tryz.f41,Tryz.func41,aIE⟩
def aIG:ap tie Tryz.f42 z6=true:=by kernel_rfl
def aIH:am tie 246 (.code z6):=⟨Tryz.f42,Tryz.func42,aIG⟩
def aII:ap tie Tryz.f43 tY=true:=by kernel_rfl
def aIJ:am tie 247 (.code tY):=⟨Tryz.f43,Tryz.func43,aII⟩
def aIK:ap tie Tryz.f44 tZ=true:=by kernel_rfl
def aIL:am tie 248 (.code tZ):=⟨Tryz.f44,Tryz.func44,aIK⟩
def aIM:ap tie Tryz.f45 lG=true:=by kernel_rfl
def aIN:am tie 77 (.code lG):=⟨Tryz.f45,Tryz.func45,aIM⟩
def aIO:ap tie Tryz.f46 z4=true:=by kernel_rfl
def aIP:am tie 79 (.code z4):=⟨Tryz.f46,Tryz.func46,aIO⟩
def aIQ:ap tie Tryz.f47 qz=true:=by kernel_rfl
def aIR:am tie 249 (.code qz):=⟨Tryz.f47,Tryz.func47,aIQ⟩
def aIS:ap tie Tryz.f48 pG=true:=by kernel_rfl
def aIT:am tie 250 (.code pG):=⟨Tryz.f48,Tryz.func48,aIS⟩
def aIU:ap tie Tryz.f49 z64=true:=by kernel_rfl
def aIV:am tie 251 (.code z64):=⟨Tryz.f49,Tryz.func49,aIU⟩
def aIW:ap tie Tryz.f50 rB=true:=by kernel_rfl
def aIX:am tie 252 (.code rB):=⟨Tryz.f50,Tryz.func50,aIW⟩
def aIY:ap tie Tryz.f51 tc=true:=by kernel_rfl
def aIZ:am tie 205 (.code tc):=⟨Tryz.f51,Tryz.func51,aIY⟩
def aI0:ap tie Tryz.f52 td=true:=by kernel_rfl
def aI1:am tie 204 (.code td):=⟨Tryz.f52,Tryz.func52,aI0⟩
def aI2:ap tie Tryz.f53 te=true:=by kernel_rfl
def aI3:am tie 253 (.code te):=⟨Tryz.f53,Tryz.func53,aI2⟩
def aI4:ap tie Tryz.f54 tg=true:=by kernel_rfl
def aI5:am tie 207 (.code tg):=⟨Tryz.f54,Tryz.func54,aI4⟩
def aI6:ap tie Tryz.f55 nM=true:=by kernel_rfl
def aI7:am tie 198 (.code nM):=⟨Tryz.f55,Tryz.func55,aI6⟩
def aI8:ap tie Tryz.f57 z20=true:=by kernel_rfl
def aI9:am tie 200 (.code z20):=⟨Tryz.f57,Tryz.func57,aI8⟩
def aJa:ap tie Tryz.f59 th=true:=by kernel_rfl
def aJb:am tie 203 (.code th):=⟨Tryz.f59,Tryz.func59,aJa⟩
def aJc:ap tie Tryz.f60 nN=true:=by kernel_rfl
def aJd:am tie 206 (.code nN):=⟨Tryz.f60,Tryz.func60,aJc⟩
def aJe:ap tie Tryz.f61 z24=true:=by kernel_rfl
def aJf:am tie 194 (.code z24):=⟨Tryz.f61,Tryz.func61,aJe⟩
def aJg:ap tie Tryz.f62 nO=true:=by kernel_rfl
def aJh:am tie 196 (.code nO):=⟨Tryz.f62,Tryz.func62,aJg⟩
def aJi:ap tie Tryz.f63 mO=true:=by kernel_rfl
def aJj:am tie 254 (.code mO):=⟨Tryz.f63,Tryz.func63,aJi⟩
def aJk:ap tie Tryz.f64 z63=true:=by kernel_rfl
def aJl:am tie 255 (.code z63):=⟨Tryz.f64,Tryz.func64,aJk⟩
def aJm:ap tie Tryz.f65 ti=true:=by kernel_rfl
def aJn:am tie 256 (.code ti):=⟨Tryz.f65,Tryz.func65,aJm⟩
def aJo:ap tie Tryz.f66 nP=true:=by kernel_rfl
def aJp:am tie 84 (.code nP):=⟨Tryz.f66,Tryz.func66,aJo⟩
def aJq:ap tie Tryz.f67 z5=true:=by kernel_rfl
def aJr:am tie 201 (.code z5):=⟨Tryz.f67,Tryz.func67,aJq⟩
def aJs:ap tie Tryz.f68 tj=true:=by kernel_rfl
def aJt:am tie 40 (.code tj):=⟨Tryz.f68,Tryz.func68,aJs⟩
def aJu:ap tie Tryz.f69 z29=true:=by kernel_rfl
def aJv:am tie 275 (.code z29):=⟨Tryz.f69,Tryz.func69,aJu⟩
def aJw:ap tie Tryz.f70 pH=true:=by kernel_rfl
def aJx:am tie 276 (.code pH):=⟨Tryz.f70,Tryz.func70,aJw⟩
def aJy:ap tie Tryz.f71 tk=true:=by kernel_rfl
def aJz:am tie 218 (.code tk):=⟨Tryz.f71,Tryz.func71,aJy⟩
def aJA:ap tie Tryz.f72 z28=true:=by kernel_rfl
def aJB:am tie 108 (.code z28):=⟨Tryz.f72,Tryz.func72,aJA⟩
def aJC:ap tie Tryz.f73 z36=true:=by kernel_rfl
def aJD:am tie 318 (.code z36):=⟨Tryz.f73,Tryz.func73,aJC⟩
def aJE:ap tie Tryz.f74 tl=true:=by kernel_rfl
def aJF:am tie 110 (.code tl):=⟨Tryz.f74,Tryz.func74,aJE⟩
def aJG:ap tie Tryz.f75 z33=true:=by kernel_rfl
def aJH:am tie 111 (.code z33):=⟨Tryz.f75,Tryz.func75,aJG⟩
def aJI:ap tie Tryz.f76 pI=true:=by kernel_rfl
def aJJ:am tie 195 (.code pI):=⟨Tryz.f76,Tryz.func76,aJI⟩
def aJK:ap tie Tryz.f77 nQ=true:=by kernel_rfl
def aJL:am tie 319 (.code nQ):=⟨Tryz.f77,Tryz.func77,aJK⟩
def aJM:ap tie Tryz.f78 z0=true:=by kernel_rfl
def aJN:am tie 118 (.code z0):=⟨Tryz.f78,Tryz.func78,aJM⟩
def aJO:ap tie Tryz.f79 z8=true:=by kernel_rfl
def aJP:am tie 83 (.code z8):=⟨Tryz.f79,Tryz.func79,aJO⟩
def aJQ:ap tie Tryz.f80 tp=true:=by kernel_rfl
def aJR:am tie 320 (.code tp):=⟨Tryz.f80,Tryz.func80,aJQ⟩
def aJS:ap tie Tryz.f81 tq=true:=by kernel_rfl
def aJT:am tie 321 (.code tq):=⟨Tryz.f81,Tryz.func81,aJS⟩
def aJU:ap tie Tryz.f82 tr=true:=by kernel_rfl
def aJV:am tie 322 (.code tr):=⟨Tryz.f82,Tryz.func82,aJU⟩
def aJW:ap tie Tryz.f83 tu=true:=by kernel_rfl
def aJX:am tie 323 (.code tu):=⟨Tryz.f83,Tryz.func83,aJW⟩
def aJY:ap tie Tryz.f84 z7=true:=by kernel_rfl
def aJZ:am tie 82 (.code z7):=⟨Tryz.f84,Tryz.func84,aJY⟩
def aJ0:ap tie Tryz.f85 nR=true:=by kernel_rfl
def aJ1:am tie 324 (.code nR):=⟨Tryz.f85,Tryz.func85,aJ0⟩
def aJ2:ap tie Tryz.f86 mP=true:=by kernel_rfl
def aJ3:am tie 325 (.code mP):=⟨Tryz.f86,Tryz.func86,aJ2⟩
def aJ4:ap tie Tryz.f87 tv=true:=by kernel_rfl
def aJ5:am tie 175 (.code tv):=⟨Tryz.f87,Tryz.func87,aJ4⟩
def aJ6:ap tie Tryz.f88 tx=true:=by kernel_rfl
def aJ7:am tie 26 (.code tx):=⟨Tryz.f88,Tryz.func88,aJ6⟩
def aJ8:ap tie Tryz.f89 uD=true:=by kernel_rfl
def aJ9:am tie 295 (.code uD):=⟨Tryz.f89,Tryz.func89,aJ8⟩
def aKa:ap tie Tryz.f90 z26=true:=by kernel_rfl
def aKb:am tie 296 (.code z26):=⟨Tryz.f90,Tryz.func90,aKa⟩
def aKc:ap tie Tryz.f95 uE=true:=by kernel_rfl
def aKd:am tie 202 (.code uE):=⟨Tryz.f95,Tryz.func95,aKc⟩
def aKe:ap tie Tryz.f96 z46=true:=by kernel_rfl
def aKf:am tie 183 (.code z46):=⟨Tryz.f96,Tryz.func96,aKe⟩
def aKg:ap tie Tryz.f97 rC=true:=by kernel_rfl
def aKh:am tie 219 (.code rC):=⟨Tryz.f97,Tryz.func97,aKg⟩
def aKi:ap tie Tryz.f98 qW=true:=by kernel_rfl
def aKj:am tie 109 (.code qW):=⟨Tryz.f98,Tryz.func98,aKi⟩
def aKk:ap tie Tryz.f99 qX=true:=by kernel_rfl
def aKl:am tie 326 (.code qX):=⟨Tryz.f99,Tryz.func99,aKk⟩
def aKm:ap tie Tryz.f100 qY=true:=by kernel_rfl
def aKn:am tie 327 (.code qY):=⟨Tryz.f100,Tryz.func100,aKm⟩
def aKo:ap tie Tryz.f101 tA=true:=by kernel_rfl
def aKp:am tie 259 (.code tA):=⟨Tryz.f101,Tryz.func101,aKo⟩
def aKq:ap tie Tryz.f102 qZ=true:=by kernel_rfl
def aKr:am tie 328 (.code qZ):=⟨Tryz.f102,Tryz.func102,aKq⟩
def aKs:ap tie Tryz.f103 tB=true:=by kernel_rfl
def aKt:am tie 121 (.code tB):=⟨Tryz.f103,Tryz.func103,aKs⟩
def aKu:ap tie Tryz.f104 z57=true:=by kernel_rfl
def aKv:am tie 154 (.code z57):=⟨Tryz.f104,Tryz.func104,aKu⟩
def aKw:ap tie Tryz.f105 z2=true:=by kernel_rfl
def aKx:am tie 221 (.code z2):=⟨Tryz.f105,Tryz.func105,aKw⟩
def aKy:ap tie Tryz.f106 qf=true:=by kernel_rfl
def aKz:am tie 374 (.code qf):=⟨Tryz.f106,Tryz.func106,aKy⟩
def aKA:ap tie Tryz.f107 tC=true:=by kernel_rfl
def aKB:am tie 102 (.code tC):=⟨Tryz.f107,Tryz.func107,aKA⟩
def aKC:ap tie Tryz.f111 z53=true:=by kernel_rfl
def aKD:am tie 98 (.code z53):=⟨Tryz.f111,Tryz.func111,aKC⟩
def aKE:ap tie Tryz.f112 ox=true:=by kernel_rfl
def aKF:am tie 281 (.code ox):=⟨Tryz.f112,Tryz.func112,aKE⟩
def aKG:ap tie Tryz.f113 qh=true:=by kernel_rfl
def aKH:am tie 282 (.code qh):=⟨Tryz.f113,Tryz.func113,aKG⟩
def aKI:ap tie Tryz.f114 tE=true:=by kernel_rfl
def aKJ:am tie 220 (.code tE):=⟨Tryz.f114,Tryz.func114,aKI⟩
def aKK:ap tie Tryz.f115 tG=true:=by kernel_rfl
def aKL:am tie 270 (.code tG):=⟨Tryz.f115,Tryz.func115,aKK⟩
def aKM:ap tie Tryz.f116 tH=true:=by kernel_rfl
def aKN:am tie 260 (.code tH):=⟨Tryz.f116,Tryz.func116,aKM⟩
def aKO:ap tie Tryz.f117 z32=true:=by kernel_rfl
def aKP:am tie 399 (.code z32):=⟨Tryz.f117,Tryz.func117,aKO⟩
def aKQ:ap tie Tryz.f118 qi=true:=by kernel_rfl
def aKR:am tie 32 (.code qi):=⟨Tryz.f118,Tryz.func118,aKQ⟩
def aKS:ap tie Tryz.f119 nH=true:=by kernel_rfl
def aKT:am tie 400 (.code nH):=⟨Tryz.f119,Tryz.func119,aKS⟩
def aKU:ap tie Tryz.f120 tI=true:=by kernel_rfl
def aKV:am tie 216 (.code tI):=⟨Tryz.f120,Tryz.func120,aKU⟩
def aKW:ap tie Tryz.f132 tJ=true:=by kernel_rfl
def aKX:am tie 126 (.code tJ):=⟨Tryz.f132,Tryz.func132,aKW⟩
def aKY:ap tie Tryz.f133 tK=true:=by kernel_rfl
def aKZ:am tie 329 (.code tK):=⟨Tryz.f133,Tryz.func133,aKY⟩
def aK0:ap tie Tryz.f134 tL=true:=by kernel_rfl
def aK1:am tie 342 (.code tL):=⟨Tryz.f134,Tryz.func134,aK0⟩
def aK2:ap tie Tryz.f135 z27=true:=by kernel_rfl
def aK3:am tie 112 (.code z27):=⟨Tryz.f135,Tryz.func135,aK2⟩
def aK4:ap tie Tryz.f136 tM=true:=by kernel_rfl
def aK5:am tie 113 (.code tM):=⟨Tryz.f136,Tryz.func136,aK4⟩
def aK6:am tie 199 (.exs (rL 294)):=by
 have hf:Tryz.prog.funcs[yh AE 100000 199]?=some Tryz.f56:=Tryz.func56;exact aBn (X:=tie) (f:=199) (gk:=294) (fn:=Tryz.f56) (k:=9) Tryz.underlying9 hf (by decide +kernel) (by kernel_rfl) (fun bx b nn D0 w h1 h2 h3 h4=>Go.Proofs.Tryz.sorted_keys pS bx b nn D0 w h1 h2 h3 h4)
def aK7:am tie 197 (.exs pQ):=by
 have hf:Tryz.prog.funcs[yh AE 100000 197]?=some Tryz.f58:=Tryz.func58;exact aBk (X:=tie) (f:=197) (fn:=Tryz.f58) hf (by decide +kernel) (by kernel_rfl) Go.Proofs.Tryz.maps_clone
def tieOk:oU tie where
 ty:=aCq (by decide)
 meth:=fun t m f h u w=>aCr (Vp (P:=Tryz.prog) (ty:=uX Yd) (mn:=Vn Ye) (fnOf:=yh AE 100000) (l:=Yf) (by kernel_rfl) t m f h) _ u w
 mixed:=by kernel_rfl
 fns:=fun f pf h=>by
  have:∀q∈Yg,am tie q.1 q.2:=by
   exact aq.2 ⟨aHr,aq.2 ⟨aHt,aq.2 ⟨aHv,aq.2 ⟨aHx,aq.2 ⟨aHz,aq.2 ⟨aHB,aq.2 ⟨aHD,aq.2 ⟨aHF,aq.2 ⟨aHH,aq.2 ⟨aHJ,aq.2 ⟨aHL,aq.2 ⟨aHN,aq.2 ⟨aHP,aq.2 ⟨aHR,aq.2 ⟨aHT,aq.2 ⟨aHV,aq.2 ⟨aHX,aq.2 ⟨aHZ,aq.2 ⟨aH1,aq.2 ⟨aH3,aq.2 ⟨aH5,aq.2 ⟨aH7,aq.2 ⟨aH9,aq.2 ⟨aIb,aq.2 ⟨aId,aq.2 ⟨aIf,aq.2 ⟨aIh,aq.2 ⟨aIj,aq.2 ⟨aIl,aq.2 ⟨aIn,aq.2 ⟨aIp,aq.2 ⟨aIr,aq.2 ⟨aIt,aq.2 ⟨aIv,aq.2 ⟨aIx,aq.2 ⟨aIz,aq.2 ⟨aIB,aq.2 ⟨aID,aq.2 ⟨aIF,aq.2 ⟨aIH,aq.2 ⟨aIJ,aq.2 ⟨aIL,aq.2 ⟨aIN,aq.2 ⟨aIP,aq.2 ⟨aIR,aq.2 ⟨aIT,aq.2 ⟨aIV,aq.2 ⟨aIX,aq.2 ⟨aIZ,aq.2 ⟨aI1,aq.2 ⟨aI3,aq.2 ⟨aI5,aq.2 ⟨aI7,aq.2 ⟨aK6,aq.2 ⟨aI9,aq.2 ⟨aK7,aq.2 ⟨aJb,aq.2 ⟨aJd,aq.2 ⟨aJf,aq.2 ⟨aJh,aq.2 ⟨aJj,aq.2 ⟨aJl,aq.2 ⟨aJn,aq.2 ⟨aJp,aq.2 ⟨aJr,aq.2 ⟨aJt,aq.2 ⟨aJv,aq.2 ⟨aJx,aq.2 ⟨aJz,aq.2 ⟨aJB,aq.2 ⟨aJD,aq.2 ⟨aJF,aq.2 ⟨aJH,aq.2 ⟨aJJ,aq.2 ⟨aJL,aq.2 ⟨aJN,aq.2 ⟨aJP,aq.2 ⟨aJR,aq.2 ⟨aJT,aq.2 ⟨aJV,aq.2 ⟨aJX,aq.2 ⟨aJZ,aq.2 ⟨aJ1,aq.2 ⟨aJ3,aq.2 ⟨aJ5,aq.2 ⟨aJ7,aq.2 ⟨aJ9,aq.2 ⟨aKb,aq.2 ⟨aKd,aq.2 ⟨aKf,aq.2 ⟨aKh,aq.2 ⟨aKj,aq.2 ⟨aKl,aq.2 ⟨aKn,aq.2 ⟨aKp,aq.2 ⟨aKr,aq.2 ⟨aKt,aq.2 ⟨aKv,aq.2 ⟨aKx,aq.2 ⟨aKz,aq.2 ⟨aKB,aq.2 ⟨aKD,aq.2 ⟨aKF,aq.2 ⟨aKH,aq.2 ⟨aKJ,aq.2 ⟨aKL,aq.2 ⟨aKN,aq.2 ⟨aKP,aq.2 ⟨aKR,aq.2 ⟨aKT,aq.2 ⟨aKV,aq.2 ⟨aKX,aq.2 ⟨aKZ,aq.2 ⟨aK1,aq.2 ⟨aK3,aq.2 ⟨aK5,fun _ h=>absurd h kY⟩⟩⟩⟩⟩⟩⟩⟩⟩⟩⟩⟩⟩⟩⟩⟩⟩⟩⟩⟩⟩⟩⟩⟩⟩⟩⟩⟩⟩⟩⟩⟩⟩⟩⟩⟩⟩⟩⟩⟩⟩⟩⟩⟩⟩⟩⟩⟩⟩⟩⟩⟩⟩⟩⟩⟩⟩⟩⟩⟩⟩⟩⟩⟩⟩⟩⟩⟩⟩⟩⟩⟩⟩⟩⟩⟩⟩⟩⟩⟩⟩⟩⟩⟩⟩⟩⟩⟩⟩⟩⟩⟩⟩⟩⟩⟩⟩⟩⟩⟩⟩⟩⟩⟩⟩⟩⟩⟩⟩⟩⟩⟩⟩⟩⟩⟩
  exact this _ (rR h)
end Ps
