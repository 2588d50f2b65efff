/- New arrays; append. -/
import Derived.Test.YtpjmpaidcidjgaaGreatDoorAbbKt
import Derived.Test.YtpjmpaidcidjgaaGreatDoorSimHKt
import Derived.Laws.AppendOwn
set_option linter.defProp false
namespace Ps
open Go
section
variable {X : Tie} {g : Gh} {w : World} {n : Dn} {fr : Fr} {a : Act} {S : St}
def fi(hS:SR X g S w):∀i b,g.obj i=some b→b<w.heap.size:=fun i b h=>by
 obtain⟨_,_,_,_,⟨_,h2,_⟩,_⟩:=hS.obj i b h;exact(bc.1 h2).1
def yC(hS:SR X g S w):g.asz S.tips.length=none:=by
 cases h:g.asz S.tips.length with
 |none=>rfl
 |some sz=>
  obtain⟨tip,h1⟩:=hS.asz _ _ h;rw[cr (aR _)]at h1;cases h1
def OL(hS:SR X g S w){w':World}{es:List PV}{us:Array Value}{t:TypeId}{lo hi sz cap id e:Nat}{S':St}
  (hh:w'.heap=w.heap.push (.cells us t (lo,hi)))(hos:w'.os=w.os)(htape:w'.tape=w.tape)(hout:w'.output=w.output)
  (hpos:0<sz)(hsz:∀x∈es,x.cells.length=sz)(hone:∀x∈es,x.cells.all PV.one=true)(hcap:es.length≤cap)(hus:cap*sz≤us.size)(hfz:hi≤lo∨us.size≤lo)
  (hv:∀(j:Nat)(c:PV),(es.flatMap PV.cells)[j]?=some c→∃u,us[j]?=some u∧VR X g w c u)
  (hobjs:S'.objs=S.objs)(he:es.length≤e)(htip:S'.tips[id]?=some (e,sz))
  (holds:(S.tips.length=id∧(∀i,i<S.tips.length→S'.tips[i]?=S.tips[i]?)) ∨
   (g.asz id=some sz∧(∃e0,S.tips[id]?=some (e0,sz)∧e0≤e)∧∀i,i≠id→S'.tips[i]?=S.tips[i]?)) :
  bu X g w S' (.sl (some (id,e)) es []) (.slice (some ⟨w.heap.size,0,none⟩) es.length cap) w':=by
 let g':Gh:={g with
  arr:=fun b=>if b=w.heap.size then some (id,(e-es.length)*sz)else g.arr b
  asz:=fun i=>if i=id then some sz else g.asz i
  pub:=fun b=>if b=w.heap.size then es.length*sz else g.pub b}
 have hidasz:∀i m,g.asz i=some m→g'.asz i=some m:=by
  intro i m h;simp only[g'];split
  ·rename_i ei;subst ei;rcases holds with⟨h1,_⟩|⟨h1,_⟩
   ·have:=yC hS;rw[h1]at this;rw[this]at h;cases h
   ·rw[h1]at h;exact h
  ·exact h
 have hle:Le g w g' w':=lB hh hos htape hout hS.lt (fun _ _ h=>h) (fun _ _ h=>.inl h)
  (fun b x h=>by
   simp only[g'];rw[if_neg (fun eb=>by have:=(hS.lt b (by omega)).2;rw[this]at h;cases h)];exact h)
  (fun b x h=>by
   simp only[g']at h;split at h
   ·exact .inr (by assumption)
   ·exact .inl h) hidasz (fun b hb=>by simp[g',hb]) (fun _ _ h=>h) (fun _ _ h=>.inl h)
 have hbl:=fi hS;have hblock:w'.heap[w.heap.size]?=some (.cells us t (lo,hi)):=by rw[hh,cj,if_pos rfl]
 have hmul:(e-es.length)*sz+es.length*sz=e*sz:=by rw[←cu];congr 1;omega
 have hlive:∀i,bt S' i→bt S i:=by
  rintro i ⟨c,l,q⟩;rw[hobjs]at q;exact⟨c,l,q⟩
 refine⟨g',hle,⟨fun i b h=>?_,fun i j b h1 h2 h3=>hS.inj i j b h1 h2 (hlive j h3),fun i b h=>?_,fun b i base h=>?_,fun i m h=>?_,fun b hb=>?_,yA hS hh (fun c u r=>r.mono hle) rfl rfl hobjs (fun b hb=>by simp[g',hb]) (fun b hb=>by simp[g',hb]),hS.gl.le hle⟩,?_⟩
 ·obtain⟨cs',us',t',h1,h2,h3,h4⟩:=hS.obj i b h;have:=hbl i b h;exact⟨cs',us',t',by rw[hobjs];exact h1,by rw[hh,cj,if_neg (by omega)];exact h2,h3,fun j c u e1 e2=>(h4 j c u e1 e2).mono hle⟩
 ·have:=hbl i b h;have h2:=hS.objpub i b h;exact⟨fun hl=>by simp only[g'];rw[if_neg (by omega)];exact h2.1 (hlive i hl),by simp only[g'];rw[if_neg (by omega)];exact h2.2⟩
 ·simp only[g']at h;split at h
  ·rename_i eb;cases h;exact⟨sz,e,by simp[g'],hpos,htip,by simp only[g'];rw[if_pos eb,hmul];exact aR _⟩
  ·rename_i eb;obtain⟨sz',tip,h1,h2,h3,h4⟩:=hS.arr b i base h;by_cases hi:i=id
   ·subst hi;rcases holds with⟨k1,_⟩|⟨k1,⟨e0,k2,k3⟩,_⟩
    ·have:=yC hS;rw[k1]at this;rw[this]at h1;cases h1
    ·rw[k1]at h1;cases h1;rw[k2]at h3;cases h3;refine⟨sz,e,by simp[g'],h2,htip,?_⟩;simp only[g'];rw[if_neg eb];exact Nat.le_trans h4 (gM _ k3)
   ·refine⟨sz',tip,by simp only[g'];rw[if_neg hi];exact h1,h2,?_,by simp only[g'];rw[if_neg eb];exact h4⟩;rcases holds with⟨k1,k2⟩|⟨_,_,k2⟩
    ·rw[k2 i (aL.1 h3).1];exact h3
    ·rw[k2 i hi];exact h3
 ·simp only[g']at h;split at h
  ·rename_i hi;cases h;subst hi;exact⟨e,htip⟩
  ·rename_i hi;obtain⟨tip,h3⟩:=hS.asz i m h;refine⟨tip,?_⟩;rcases holds with⟨k1,k2⟩|⟨_,_,k2⟩
   ·rw[k2 i (aL.1 h3).1];exact h3
   ·rw[k2 i hi];exact h3
 ·rw[hh]at hb;simp only[Array.size_push]at hb;have:=hS.lt b (by omega);exact⟨by simp only[g'];rw[if_neg (by omega)];exact this.1,by simp only[g'];rw[if_neg (by omega)];exact this.2⟩
 ·refine .sl (some (id,e)) es [] w.heap.size 0 cap sz (fun j=>us.getD j undef) (by simpa using hcap) hpos (by simpa using hsz) (by simp[g']) ?_ ?_ ?_ (by simpa using hone)
  ·intro j hj;simp only[cP,eo]at hj
   have hj':j<us.size:=by
    have:es.length*sz≤cap*sz:=gM _ hcap;omega
   simp[World.cell?,hblock,hj',Array.getD]
  ·intro j c hc;rw[dn]at hc;obtain⟨u,h1,h2⟩:=hv j c hc;have:us.getD j undef=u:=by simp[eG,h1]
   rw[this];exact h2.mono hle
  ·intro i e' ht _;cases ht;refine⟨he,by simp[g'],.inr ⟨(e-es.length)*sz,by simp[g'],by rw[eo];exact hmul,⟨us,t,lo,hi,hblock,by omega,hfz⟩⟩⟩
def nj(hS:SR X g S w){w':World}{es:List PV}{us:Array Value}{t:TypeId}{lo hi sz cap:Nat}
  (hh:w'.heap=w.heap.push (.cells us t (lo,hi)))(hos:w'.os=w.os)(htape:w'.tape=w.tape)(hout:w'.output=w.output)
  (hpos:0<sz)(hsz:∀x∈es,x.cells.length=sz)(hone:∀x∈es,x.cells.all PV.one=true)(hcap:es.length≤cap)(hus:cap*sz≤us.size)(hfz:hi≤lo∨us.size≤lo)
  (hv:∀(j:Nat)(c:PV),(es.flatMap PV.cells)[j]?=some c→∃u,us[j]?=some u∧VR X g w c u) :
  bu X g w (dF S sz es).2 (dF S sz es).1 (.slice (some ⟨w.heap.size,0,none⟩) es.length cap) w':=
 OL hS hh hos htape hout hpos hsz hone hcap hus hfz hv rfl (aR _) (by simp[dF])
  (.inl ⟨rfl,fun i hi=>by simp only[dF];rw[aw hi]⟩)
def OM(hS:SR X g S w){w':World}{es:List PV}{us:Array Value}{t:TypeId}{lo hi sz cap:Nat}
  (hh:w'.heap=w.heap.push (.cells us t (lo,hi)))(hos:w'.os=w.os)(htape:w'.tape=w.tape)(hout:w'.output=w.output)
  (hpos:0<sz)(hsz:∀x∈es,x.cells.length=sz)(hone:∀x∈es,x.cells.all PV.one=true)(hcap:es.length≤cap)(hus:cap*sz≤us.size)
  (hv:∀(j:Nat)(c:PV),(es.flatMap PV.cells)[j]?=some c→∃u,us[j]?=some u∧VR X g w c u) :
  bu X g w S (.sl none es []) (.slice (some ⟨w.heap.size,0,none⟩) es.length cap) w':=by
 let g':Gh:={g with pub:=fun b=>if b=w.heap.size then es.length*sz else g.pub b};have hle:Le g w g' w':=lB hh hos htape hout hS.lt (fun _ _ h=>h) (fun _ _ h=>.inl h) (fun _ _ h=>h) (fun _ _ h=>.inl h) (fun _ _ h=>h) (fun b hb=>by simp[g',hb]) (fun _ _ h=>h) (fun _ _ h=>.inl h);have hbl:=fi hS;have hblock:w'.heap[w.heap.size]?=some (.cells us t (lo,hi)):=by rw[hh,cj,if_pos rfl]
 refine⟨g',hle,⟨fun i b h=>?_,hS.inj,fun i b h=>?_,fun b id base h=>?_,hS.asz,fun b hb=>?_,yA hS hh (fun c u r=>r.mono hle) rfl rfl rfl (fun b hb=>by simp[g',hb]) (fun b hb=>rfl),hS.gl.le hle⟩,?_⟩
 ·obtain⟨cs',us',t',h1,h2,h3,h4⟩:=hS.obj i b h;have:=hbl i b h;exact⟨cs',us',t',h1,by rw[hh,cj,if_neg (by omega)];exact h2,h3,fun j c u e1 e2=>(h4 j c u e1 e2).mono hle⟩
 ·have:=hbl i b h;have h2:=hS.objpub i b h;exact⟨fun hl=>by simp only[g'];rw[if_neg (by omega)];exact h2.1 hl,h2.2⟩
 ·have hne:b≠w.heap.size:=fun e=>by
   have:=(hS.lt b (by omega)).2;rw[show g.arr b=some (id,base)from h]at this;cases this
  obtain⟨sz',tip,h1,h2,h3,h4⟩:=hS.arr b id base h;exact⟨sz',tip,h1,h2,h3,by simp only[g'];rw[if_neg hne];exact h4⟩
 ·rw[hh]at hb;simp only[Array.size_push]at hb;have:=hS.lt b (by omega);exact⟨by simp only[g'];rw[if_neg (by omega)];exact this.1,this.2⟩
 ·refine .sl none es [] w.heap.size 0 cap sz (fun j=>us.getD j undef) (by simpa using hcap) hpos (by simpa using hsz) (by simp[g']) ?_ ?_ ?_ (by simpa using hone)
  ·intro j hj;simp only[cP,eo]at hj
   have hj':j<us.size:=by
    have:es.length*sz≤cap*sz:=gM _ hcap;omega
   simp[World.cell?,hblock,hj',Array.getD]
  ·intro j c hc;rw[dn]at hc;obtain⟨u,h1,h2⟩:=hv j c hc;have:us.getD j undef=u:=by simp[eG,h1]
   rw[this];exact h2.mono hle
  ·intro i e' ht _;cases ht
theorem lC{sz:Nat}:∀(n:Nat) (cs:List PV),(dA sz n cs).length=n
 |0,_=>rfl
 |n+1,cs=>by simp[dA,lC n]
def ON{sz:Nat}{cs:List PV}(h:cs.all PV.one=true):(nM sz cs).cells=cs:=by
 unfold nM;split
 ·rename_i c;split
  ·have:c.one=true:=by simpa using h
   cases c<;>first|rfl|(simp[PV.one]at this)
  ·rfl
 ·rfl
theorem yD{sz:Nat}:∀(n:Nat) (cs:List PV),n*sz≤cs.length→(cs.take (n*sz)).all PV.one=true→(dA sz n cs).flatMap PV.cells=cs.take (n*sz)
 |0,cs,_,_=>by simp[dA]
 |n+1,cs,h,ho=>by
  have hmul:(n+1)*sz=sz+n*sz:=by rw[cu];omega
  rw[hmul]at h ho ⊢;rw[tm,zI,aI]at ho;rw[dA,dB,ON ho.1,yD n (cs.drop sz) (by simp;omega) ho.2,tm]
theorem sR{sz:Nat}:∀(n:Nat) (cs:List PV),n*sz≤cs.length→(cs.take (n*sz)).all PV.one=true→∀x∈dA sz n cs,x.cells.length=sz∧x.cells.all PV.one=true
 |0,cs,_,_,x,hx=>by simp[dA]at hx
 |n+1,cs,h,ho,x,hx=>by
  have hmul:(n+1)*sz=sz+n*sz:=by rw[cu];omega
  rw[hmul]at h ho;rw[tm,zI,aI]at ho;rw[dA,cY]at hx;rcases hx with rfl|hx
  ·rw[ON ho.1];exact⟨by simp;omega,ho.1⟩
  ·exact sR n (cs.drop sz) (by simp;omega) ho.2 x hx
def OO{S:St}(hS:SR X g S w){sz:Nat}{v:PV}{u:Value}{new:List PV}(h:dS S sz v=some new)(r:VR X g w v u) :
  (∀w',(Builtin.lenOf u).run X.P w'=.ok new.length w') ∧
  (∃news:List Value,news.length=new.length*sz∧(∀w',w'.cell?=w.cell?→(Builtin.firstCells sz new.length u).run X.P w'=.ok news.toArray w') ∧
   (∀(j:Nat) (c:PV),(new.flatMap PV.cells)[j]?=some c→∃x,news[j]?=some x∧VR X g w c x))∧(∀x∈new,x.cells.length=sz)∧(∀x∈new,x.cells.all PV.one=true):=by
 unfold dS at h;split at h
 ·rename_i id off len sz';split at h
  ·rename_i cs hcs;split at h
   ·rename_i hq;obtain⟨rfl,hpos,hle,hone⟩:=hq;cases h
    cases r with
    |osl _ _ _ _ cap b hid hl hr=>
     obtain⟨us,hus⟩:=(mN hS hid hcs).drop off;rw[cd]at hus;have hll:len*sz'≤(cs.drop off).length:=by simp;omega
     refine⟨fun w'=>by simp[Builtin.lenOf,lC],⟨(List.range (len*sz')).map us,by simp[lC],fun w' hw'=>?_,fun j c hcj=>?_⟩,fun x hx=>(sR len _ hll hone x hx).1,fun x hx=>(sR len _ hll hone x hx).2⟩
     ·simp only[Builtin.firstCells,lC]
      rw[run_loadCells w' ⟨b,off,none⟩ (len*sz') us (fun j hj=>by
       rw[eV,hw'];exact(hus j _ (bK (by omega))).1)]
     ·rw[yD len _ hll hone]at hcj
      have hj:j<len*sz':=by
       have:=(aL.1 hcj).1;simp at this;omega
      rw[cT hj]at hcj;exact⟨us j,by simp[hj],(hus j c hcj).2⟩
   ·cases h
  ·cases h
 rename_i hno;clear hno;unfold jl at h;split at h
 ·cases h;cases r;exact⟨fun w'=>by simp[Builtin.lenOf],⟨[],by simp,fun w' _=>by simp[Builtin.firstCells],fun j c hc=>by simp at hc⟩,by simp,by simp⟩
 ·rename_i s;split at h
  ·rename_i h1;subst h1;cases h;cases r
   have hone:∀x∈aJ s,x.cells=[x]∧x.one=true:=by
    intro x hx;simp only[aJ,List.mem_map]at hx;obtain⟨b,_,rfl⟩:=hx;exact⟨rfl,rfl⟩
   refine⟨fun w'=>by simp[Builtin.lenOf,aJ,ByteArray.size],⟨s.map (fun b=>Value.int .u8 b.toNat),by simp[aJ],fun w' _=>?_,fun j c hc=>?_⟩,fun x hx=>by rw[(hone x hx).1];rfl,
    fun x hx=>by rw[(hone x hx).1];simp[(hone x hx).2]⟩
   ·simp only[Builtin.firstCells,Sem.run_pure,aJ,dN]
    congr 1
    rw[ByteArray.extract_mk];simp
   ·rw[sP (fun x hx=>(hone x hx).1)]at hc;simp only[aJ,fk]at hc ⊢
    cases hj:s[j]? with
    |none=>rw[hj]at hc;cases hc
    |some b=>rw[hj]at hc;cases hc;exact⟨_,rfl,.int _ _⟩
  ·cases h
 ·rename_i tip es sp;split at h
  ·rename_i hok;cases h
   cases r with
   |slz aa=>exact⟨fun w'=>by simp[Builtin.lenOf],⟨[],by simp,fun w' _=>by simp[Builtin.firstCells,loadCells,loadCellsFrom],fun j c hc=>by simp at hc⟩,by simp,by simp⟩
   |sl _ _ _ b o cap sz' us hcap hpos hszs hpub hc hvs hlink hone=>
    have hall:∀x∈new,x.cells.length=sz:=by
     cases new with
     |nil=>simp
     |cons y ys=>
      simp only[gS,beq_iff_eq]at hok;intro x hx;rw[hszs x (oR _ hx),←hok,hszs y (by simp)]
    have hsz:new=[]∨sz'=sz:=by
     cases new with
     |nil=>exact .inl rfl
     |cons y ys=>right;rw[←hszs y (by simp),hall y (by simp)]
    refine⟨fun w'=>by simp[Builtin.lenOf],⟨(List.range (new.length*sz)).map us,by simp,fun w' hw'=>?_,fun j c hcj=>?_⟩,hall,fun x hx=>hone x (oR _ hx)⟩
    ·simp only[Builtin.firstCells]
     rw[run_loadCells w' ⟨b,o,none⟩ (new.length*sz) us (fun j hj=>by
      rcases hsz with rfl|rfl
      ·simp at hj
      ·rw[eV,hw'];refine hc j ?_;have:=gM sz' (Nat.le_add_right new.length sp.length);omega)]
    ·have hj:j<new.length*sz:=by
      have:=(aL.1 hcj).1;rw[gV hall]at this;exact this
     refine⟨us j,by simp[hj],hvs j c ?_⟩;rw[lQ,aw (by rw[gV hall];exact hj)];exact hcj
  ·cases h
 ·cases h
  cases r with
  |emp aa=>exact⟨fun w'=>by simp[Builtin.lenOf],⟨[],by simp,fun w' _=>by simp[Builtin.firstCells,loadCells,loadCellsFrom],fun j c hc=>by simp at hc⟩,by simp,by simp⟩
 ·cases h
def OP{es new:List PV}{j:Nat}{c:PV}(h:((es++new).flatMap PV.cells)[j]?=some c) :
  (j<(es.flatMap PV.cells).length∧(es.flatMap PV.cells)[j]?=some c) ∨
  ((es.flatMap PV.cells).length≤j∧(new.flatMap PV.cells)[j-(es.flatMap PV.cells).length]?=some c):=by
 rw[lQ]at h;by_cases hj:j<(es.flatMap PV.cells).length
 ·rw[aw hj]at h;exact .inl ⟨hj,h⟩
 ·rw[eH (by omega)]at h;exact .inr ⟨by omega,h⟩
def po{P:Program}{w:World}{t u e:TypeId}{ie:TypeInfo}{z:Value}(ht:P.underlying t=some (.slice e))(hie:P.info? e=some ie)(hz:ie.zero=some z)
  (hu:(∃e',P.underlying u=some (.slice e'))∨P.underlying u=some .string)
  (base:Option Addr)(sLen sCap m:Nat)(ux:Value)(olds news:List Value)(hlen:(Builtin.lenOf ux).run P w=.ok m w)
  (hnews:(Builtin.firstCells ie.size m ux).run P w.drew=.ok news.toArray w.drew)
  (holds:(Builtin.firstCells ie.size sLen (.slice base sLen sCap)).run P w.drew=.ok olds.toArray w.drew)
  (hg:sCap<sLen+m)(hfit:(sLen+m)*ie.bytes≤140737488355328)(hi64:0<ie.bytes)(ty:TypeId) :
  (Builtin.append_ #[t,u] ty #[.slice base sLen sCap,ux]).run P w =
   .ok (.slice (some ⟨w.heap.size,0,none⟩) (sLen+m) (grownCap w (sLen+m) sCap e))
    (w.drew.alloc (.cells (olds.toArray++news.toArray++Builtin.zeroCells z.cells (grownCap w (sLen+m) sCap e-(sLen+m))) e)):=by
 have hn:¬(sLen+m≤sCap):=by omega
 have h48:=growslice_fits hg hfit;have h48':¬(281474976710656<Builtin.nextslicecap (sLen+m) sCap*ie.bytes):=by omega
 have h63':¬(9223372036854775807<((sLen:Int)+(m:Int))∧ie.bytes=0):=by
  omega
 rcases hu with⟨e',hu⟩|hu
 ·simp[Builtin.append_,run_underlying ht,run_underlying hu,Go.sizeOf,typeInfo,zeroValue,hie,hz,hlen,hn,h63',h48',Question.forced,hnews,holds,newRow,grownCap]
  congr 2
  apply Array.ext';simp[eh]
 ·simp[Builtin.append_,run_underlying ht,run_underlying hu,Go.sizeOf,typeInfo,zeroValue,hie,hz,hlen,hn,h63',h48',Question.forced,hnews,holds,newRow,grownCap]
  congr 2
  apply Array.ext';simp[eh]
def OQ(w:World)(o:Obj):(w.drew.alloc o).heap=w.heap.push o:=rfl
def YA(hS:SR X g S w){t u:TypeId}{ie:TypeInfo}{e:TypeId}{z:Value}(ht:X.P.underlying t=some (.slice e))(hie:X.P.info? e=some ie)(hz:ie.zero=some z)(hzs:z.cells.size=ie.size)
  (hu:(∃e',X.P.underlying u=some (.slice e'))∨X.P.underlying u=some .string)(hby:0<ie.bytes)
  {vs vx v:PV}{us ux:Value}{new:List PV}{S':St}(hp:0<ie.size)(rs:VR X g w vs us)(rx:VR X g w vx ux)(hnew:dS S ie.size vx=some new)(ty:TypeId)
  (h:dT ie.size ie.bytes S vs new=some (v,S')) :
  ∃q w',(Builtin.append_ #[t,u] ty #[us,ux]).run X.P w=.ok q w'∧bu X g w S' v q w':=by
 obtain⟨hlen,⟨news,hnl,hfirst,hnv⟩,hnsz,hnone⟩:=OO hS hnew rx;unfold dT at h;split at h
 ·
  generalize hq:us=q at rs;cases rs;split at h
  ·rename_i hemp;cases h;have hn0:new.length=0:=by simpa using hemp
   refine⟨.slice none 0 0,w,?_,g,Le.refl g w,hS,.nils⟩;rcases hu with⟨e',hu⟩|hu
   ·simp[Builtin.append_,run_underlying ht,run_underlying hu,Go.sizeOf,typeInfo,hie,hlen,hn0];have:=hfirst w rfl;rw[hn0]at this;simp[this]
   ·simp[Builtin.append_,run_underlying ht,run_underlying hu,Go.sizeOf,typeInfo,hie,hlen,hn0];have:=hfirst w rfl;rw[hn0]at this;simp[this]
  ·rename_i hemp;split at h
   ·rename_i hfit;cases h
    have hn0:0<new.length:=by
     cases new with
     |nil=>simp at hemp
     |cons _ _=>simp
    have hrun:=po (P:=X.P) (w:=w) ht hie hz hu none 0 0 new.length ux [] news (hlen w) (hfirst _ rfl) (by simp[Builtin.firstCells]) (by omega) (by simpa using hfit) hby ty;refine⟨_,_,hrun,?_⟩;have hcap:=grownCap_ge w (0+new.length) 0 e
    have hst:=nj hS (es:=new) (us:=[].toArray++news.toArray++Builtin.zeroCells z.cells (grownCap w (0+new.length) 0 e-(0+new.length))) (t:=e) (lo:=0) (hi:=0) (sz:=ie.size)
     (cap:=grownCap w (0+new.length) 0 e) (w':=w.drew.alloc (.cells ([].toArray++news.toArray++Builtin.zeroCells z.cells (grownCap w (0+new.length) 0 e-(0+new.length))) e)) rfl rfl rfl rfl hp hnsz hnone (by omega)
     (by
      simp only[qZ,qm,cP,size_zeroCells,hzs,hnl];rw[cd,cd,←cu];exact gM _ (by omega)) (.inl (aR _))
     (fun j c hc=>by
      obtain⟨x,hx,hr⟩:=hnv j c hc;refine⟨x,?_,hr⟩;have hj:=(aL.1 hx).1;rw[gc (by simp;omega)];simpa using hx)
    simpa[dF]using hst
   ·cases h
 ·
  rename_i tip es sp;split at h
  ·rename_i hemp;cases h;have hn0:new.length=0:=by simpa using hemp
   have hrs:=rs;generalize hq:us=q at rs hrs
   cases rs with
   |slz aa=>
    refine⟨_,w,?_,g,Le.refl g w,hS,hrs⟩;have hf:=hfirst w rfl;rw[hn0]at hf
    have hnews:news=[]:=by
     rw[hn0]at hnl;simpa using hnl
    subst hnews
    rcases hu with⟨e',hu⟩|hu <;>
     simp[Builtin.append_,run_underlying ht,run_underlying hu,Go.sizeOf,typeInfo,hie,hlen,hn0,hf,storeCells]
   |sl _ _ _ b o cap sz' us hcap hpos hszs hpub hc hvs hlink hone=>
    refine⟨_,w,?_,g,Le.refl g w,hS,hrs⟩;have hfit:es.length≤cap:=by omega
    have hf:=hfirst w rfl;rw[hn0]at hf
    have hnews:news=[]:=by
     rw[hn0]at hnl;simpa using hnl
    subst hnews
    rcases hu with⟨e',hu⟩|hu <;>
     simp[Builtin.append_,run_underlying ht,run_underlying hu,Go.sizeOf,typeInfo,hie,hlen,hn0,hf,hfit,storeCells]
  ·rename_i hemp
   have hn0:0<new.length:=by
    cases new with
    |nil=>simp at hemp
    |cons _ _=>simp
   split at h
   ·rename_i id e0;split at h
    ·rename_i hcond;obtain⟨htip,hfit⟩:=hcond;cases h;generalize hq:us=q at rs
     cases rs with
     |sl _ _ _ b o cap sz' us0 hcap hpos hszs hpub hc hvs hlink hone=>
      simp only[cP,eo,dn]at hcap hszs hpub hc hvs hone;obtain⟨k1,k2,k3⟩:=hlink id e0 rfl rfl;obtain⟨tip',ht'⟩:=hS.asz _ _ k2;rw[htip]at ht';cases ht';have hidlt:id<S.tips.length:=(aL.1 htip).1
      have hallsz:∀x∈es++new,x.cells.length=ie.size:=fun x hx=>by
       rcases bn.1 hx with hx|hx
       ·exact hszs x hx
       ·exact hnsz x hx
      have hallone:∀x∈es++new,x.cells.all PV.one=true:=fun x hx=>by
       rcases bn.1 hx with hx|hx
       ·exact hone x hx
       ·exact hnone x hx
      have hflat:=gV hszs
      have hfits:∀w',w'.cell?=w.cell?→(Builtin.firstCells ie.size es.length (.slice (some ⟨b,o,none⟩) es.length cap)).run X.P w'=.ok ((List.range (es.length*ie.size)).map us0).toArray w':=by
       intro w' hw';simp only[Builtin.firstCells];exact run_loadCells w' ⟨b,o,none⟩ (es.length*ie.size) us0 (fun j hj=>by rw[eV,hw'];exact hc j hj)
      by_cases hroom:es.length+new.length≤cap
      ·
       have hcap0:cap≠es.length:=by omega
       obtain⟨base,h4,h5,us1,t1,lo,hi,h6,h7,h8⟩:=k3.resolve_left (fun q=>hcap0 q.1);obtain⟨sz2,tip2,m1,m2,m3,m4⟩:=hS.arr b id base h4;rw[k2]at m1;cases m1;rw[htip]at m3;cases m3;have hpubeq:g.pub b=o+es.length*ie.size:=by omega
       have hnewone:∀x∈news,x.oneCell'=true:=by
        intro x hx;obtain⟨j,hj⟩:=fm hx;have hjl:j<new.length*ie.size:=by rw[←hnl];exact(aL.1 hj).1
        obtain⟨c,hcj⟩:∃c,(new.flatMap PV.cells)[j]?=some c:=⟨_,bK (by rw[gV hnsz];exact hjl)⟩;obtain⟨x',hx',hr⟩:=hnv j c hcj;rw[hj]at hx';cases hx';refine hr.one ?_;have hcm:=ct hcj;obtain⟨y,hy,hcy⟩:=List.mem_flatMap.1 hcm;exact(List.all_eq_true.1 (hnone y hy)) c hcy
       have hsz63:o+(es.length+new.length)*ie.size≤us1.size:=by
        have:=gM ie.size hroom;omega
       have hmul:(es.length+new.length)*ie.size=es.length*ie.size+new.length*ie.size:=cu _ _ _;obtain⟨w',us',s1,s2⟩:=pn X.P b (o+es.length*ie.size) t1 lo hi news 0 w us1 h6 h8 (by omega) hnewone;rw[eo]at s2;let g':Gh:={g with pub:=fun b'=>if b'=b then o+(es.length+new.length)*ie.size else g.pub b'}
       have hle:Le g w g' w':=s2.le (g':=g') h6 rfl rfl rfl (fun b'=>by
        simp only[g'];split
        ·rename_i eb;subst eb;omega
        ·exact aR _) (fun b' hb'=>by simp only[g'];rw[if_neg hb']) (.inr (by rw[h4];simp)) (by omega) rfl
       have hnobj:∀i b',g.obj i=some b'→b'≠b:=fun i b' hib eb=>by
        have:=(hS.objpub i b' hib).2;rw[eb,h4]at this;cases this
       refine⟨.slice (some ⟨b,o,none⟩) (es.length+new.length) cap,w',?_,g',hle,⟨fun i b' hi'=>?_,hS.inj,fun i b' hi'=>?_,fun b' i base' hb'=>?_,fun i m hi'=>?_,fun b' hb'=>?_,
        hS.maps.of (fun _ _ h=>h) (fun _ _ _=>rfl) (fun i b' hi'=>s2.other b' (fun e=>by
         obtain⟨_,_,_,_,q,_⟩:=hS.maps.ent i b' hi';subst e;rw[h6]at q;cases q)) (fun c u r=>r.mono hle) (fun i b' hi'=>⟨by
         simp only[g']
         rw[if_neg (fun e=>by
          obtain⟨_,_,_,_,q,_⟩:=hS.maps.ent i b' hi';subst e;rw[h6]at q;cases q)],rfl⟩) (fun _ _ _ _ h=>h),hS.gl.le hle⟩,?_⟩
       ·have hf:=hfirst w rfl
        rcases hu with⟨e',hu⟩|hu <;>
         simp[Builtin.append_,run_underlying ht,run_underlying hu,Go.sizeOf,typeInfo,hie,hlen,hf,hroom,eV,s1]
       ·obtain⟨cs',us2,t',q1,q2,q3,q4⟩:=hS.obj i b' hi';exact⟨cs',us2,t',q1,by rw[s2.other b' (hnobj i b' hi')];exact q2,q3,fun j c u e1 e2=>(q4 j c u e1 e2).mono hle⟩
       ·have q:=hS.objpub i b' hi';exact⟨fun hl=>by simp only[g'];rw[if_neg (hnobj i b' hi')];exact q.1 hl,q.2⟩
       ·obtain⟨sz',tip',q1,q2,q3,q4⟩:=hS.arr b' i base' hb';by_cases hii:i=id
        ·subst hii;rw[k2]at q1;cases q1;rw[htip]at q3;cases q3;refine⟨ie.size,e0+new.length,k2,q2,by simp[hidlt],?_⟩;have hmul2:(e0+new.length)*ie.size=e0*ie.size+new.length*ie.size:=cu _ _ _;simp only[g'];split
         ·rename_i eb;subst eb;rw[h4]at hb';cases hb';omega
         ·omega
        ·refine⟨sz',tip',q1,q2,by rw[bq (Ne.symm hii)];exact q3,?_⟩;simp only[g'];split
         ·rename_i eb;subst eb;rw[h4]at hb';cases hb';exact(hii rfl).elim
         ·exact q4
       ·obtain⟨tip',q3⟩:=hS.asz i m hi';by_cases hii:i=id
        ·subst hii;rw[htip]at q3;cases q3;exact⟨e0+new.length,by simp[hidlt]⟩
        ·exact⟨tip',by rw[bq (Ne.symm hii)];exact q3⟩
       ·rw[s2.size]at hb';have hbl:b<w.heap.size:=(bc.1 h6).1;have:=hS.lt b' hb';exact⟨by simp only[g'];rw[if_neg (by omega)];exact this.1,this.2⟩
       ·have:=VR.sl (X:=X) (g:=g') (w:=w') (some (id,e0+new.length)) (es++new) [] b o cap ie.size (fun j=>if j<es.length*ie.size then us0 j else(news.getD (j-es.length*ie.size) undef))
         (by simpa using hroom) hp (by simpa using hallsz) (by simp[g']) ?_ ?_ ?_ (by simpa using hallone)
        ·rw[ak]at this;exact this
        ·intro j hj;simp only[ak,cP,eo]at hj;by_cases hjl:j<es.length*ie.size
         ·rw[if_pos hjl,s2.cell h6 (.inr (by omega))];exact hc j hjl
         ·rw[if_neg hjl];have hg2:=s2.get (o+j);rw[if_pos (by omega)]at hg2;simp only[World.cell?,s2.block];have hlt:o+j-(o+es.length*ie.size)<news.length:=by omega
          have:us'[o+j]?=some (news.getD (j-es.length*ie.size) undef):=by
           rw[hg2,show o+j-(o+es.length*ie.size)=j-es.length*ie.size by omega];rw[cH,bK (by omega)];rfl
          simpa using this
        ·intro j c hcj;rw[dn]at hcj;rcases OP hcj with⟨q1,q2⟩|⟨q1,q2⟩
         ·rw[hflat]at q1;rw[if_pos q1];exact(hvs j c q2).mono hle
         ·rw[hflat]at q1 q2;rw[if_neg (by omega)];obtain⟨x,hx,hr⟩:=hnv _ c q2;rw[cH,hx];exact hr.mono hle
        ·intro i' e' hte _;cases hte;refine⟨by simp;omega,k2,.inr ⟨base,h4,?_,us',t1,lo,hi,s2.block,by rw[s2.len];exact h7,by rw[s2.len];exact h8⟩⟩;rw[ak,hmul,cu e0];omega
      ·
       have hrun:=po (P:=X.P) (w:=w) ht hie hz hu (some ⟨b,o,none⟩) es.length cap new.length ux ((List.range (es.length*ie.size)).map us0) news (hlen w) (hfirst _ rfl) (hfits _ rfl) (by omega) hfit hby ty;refine⟨_,_,hrun,?_⟩;have hgc:=grownCap_ge w (es.length+new.length) cap e
       have hst:=OL hS (es:=es++new) (id:=id) (e:=e0+new.length) (S':={S with tips:=S.tips.set id (e0+new.length,ie.size)})
        (us:=((List.range (es.length*ie.size)).map us0).toArray++news.toArray++Builtin.zeroCells z.cells (grownCap w (es.length+new.length) cap e-(es.length+new.length))) (t:=e) (lo:=0) (hi:=0) (sz:=ie.size)
        (cap:=grownCap w (es.length+new.length) cap e) (w':=w.drew.alloc (.cells (((List.range (es.length*ie.size)).map us0).toArray++news.toArray++Builtin.zeroCells z.cells (grownCap w (es.length+new.length) cap e-(es.length+new.length))) e))
        rfl rfl rfl rfl hp hallsz hallone (by simpa using hgc)
        (by
         simp only[qZ,qm,dN,List.length_range,size_zeroCells,hzs,hnl];rw[←cu,←cu];exact gM _ (by omega)) (.inl (aR _))
        (fun j c hcj=>by
         rcases OP hcj with⟨q1,q2⟩|⟨q1,q2⟩
         ·rw[hflat]at q1;refine⟨us0 j,?_,hvs j c q2⟩;rw[gc (by simp;omega),gc (by simpa using q1)];simp[q1]
         ·rw[hflat]at q1 q2;obtain⟨x,hx,hr⟩:=hnv _ c q2;refine⟨x,?_,hr⟩;have hjl:=(aL.1 hx).1;rw[gc (by simp;omega),zC (by simpa using q1)];simpa using hx) rfl (by simp;omega) (by simp[hidlt])
        (.inr ⟨k2,⟨e0,htip,by omega⟩,fun i hi=>by simp[bq (Ne.symm hi)]⟩)
       rw[ak]at hst;exact hst
    ·cases h
   ·cases h
 ·
  generalize hq:us=q at rs
  cases rs with
  |emp aa=>
  split at h
  ·rename_i hemp;cases h;have hn0:new.length=0:=by simpa using hemp
   refine⟨_,w,?_,g,Le.refl g w,hS,.emp aa⟩;have hf:=hfirst w rfl;rw[hn0]at hf
   have hnews:news=[]:=by
    rw[hn0]at hnl;simpa using hnl
   subst hnews
   rcases hu with⟨e',hu⟩|hu <;>
    simp[Builtin.append_,run_underlying ht,run_underlying hu,Go.sizeOf,typeInfo,hie,hlen,hn0,hf,storeCells]
  ·rename_i hemp;split at h
   ·rename_i hfit;cases h
    have hn0:0<new.length:=by
     cases new with
     |nil=>simp at hemp
     |cons _ _=>simp
    have hrun:=po (P:=X.P) (w:=w) ht hie hz hu (some aa) 0 0 new.length ux [] news (hlen w) (hfirst _ rfl) (by simp[Builtin.firstCells,loadCells,loadCellsFrom]) (by omega) (by simpa using hfit) hby ty;refine⟨_,_,hrun,?_⟩;have hcap:=grownCap_ge w (0+new.length) 0 e
    have hst:=nj hS (es:=new) (us:=[].toArray++news.toArray++Builtin.zeroCells z.cells (grownCap w (0+new.length) 0 e-(0+new.length))) (t:=e) (lo:=0) (hi:=0) (sz:=ie.size)
     (cap:=grownCap w (0+new.length) 0 e) (w':=w.drew.alloc (.cells ([].toArray++news.toArray++Builtin.zeroCells z.cells (grownCap w (0+new.length) 0 e-(0+new.length))) e)) rfl rfl rfl rfl hp hnsz hnone (by omega)
     (by
      simp only[qZ,qm,cP,size_zeroCells,hzs,hnl];rw[cd,cd,←cu];exact gM _ (by omega)) (.inl (aR _))
     (fun j c hc=>by
      obtain⟨x,hx,hr⟩:=hnv j c hc;refine⟨x,?_,hr⟩;have hj:=(aL.1 hx).1;rw[gc (by simp;omega)];simpa using hx)
    simpa[dF]using hst
   ·cases h
 ·cases h
end
end Ps
