/- An entry of a map, laid down in two steps: x[k] = append(x[k], ..). -/
import Derived.Test.YtpjmpaidcidjgaaGreatDoorAbbKw
import Derived.Test.YtpjmpaidcidjgaaGreatDoorSimPrKw
import Derived.Test.YtpjmpaidcidjgaaGreatDoorSimNqKw
set_option linter.defProp false
namespace Ps
set_option linter.unusedVariables false
set_option linter.unusedSimpArgs false
open Go
section
variable {X : Tie} {g : Gh} {w w' : World} {n : Dn} {fr : Fr} {a : Act} {S : St}
def dm (id:Nat) (cs:List PV) (S:St):St:={S with objs:=S.objs.set id cs}
def VR.mfz (f:Nat→Bool) {v:PV} {u:Value} (r:VR X g w v u):VR X {g with mfz:=f} w v u:=by
 induction r with
 |und u=>exact .und u
 |int k n=>exact .int k n
 |bool b=>exact .bool b
 |str s=>exact .str s
 |nilp=>exact .nilp
 |nils=>exact .nils
 |nili=>exact .nili
 |nilf=>exact .nilf
 |ptr id off b e=>exact .ptr id off b e
 |ref cs b o us hpub hc _ ih=>exact .ref cs b o us hpub hc ih
 |sl tip es sp b o cap sz us hcap hpos hsz hpub hc _ hlink hone ih=>exact .sl tip es sp b o cap sz us hcap hpos hsz hpub hc ih hlink hone
 |slz a=>exact .slz a
 |osl id off len sz cap b e hl hr=>exact .osl id off len sz cap b e hl hr
 |emp a=>exact .emp a
 |iface t v u _ ih=>exact .iface t v u ih
 |agg cs us hl _ ih=>exact .agg cs us hl ih
 |tup cs us hl _ ih=>exact .tup cs us hl ih
 |fn f cs us hl _ ih=>exact .fn f cs us hl ih
 |nilm=>exact .nilm
 |map id b e=>exact .map id b e
 |hnd b=>exact .hnd b
 |bfn f cs us hl _ ih=>exact .bfn f cs us hl ih
def MR.mark'{cs:List PV}{es:List MapEntry}(h:MR X g w cs es):cs.length%2=0→MR X g w (cs++[.und]) es:=by
 induction h with
 |nil=>intro _;exact .mark
 |mark=>intro h;simp at h
 |cons k v cs e es hk hkk hv _ ih=>
  intro h;exact .cons k v _ e es hk hkk hv (ih (by simp only[bE]at h;omega))
def RS(hS:SR X g S w){id bm:Nat}{cs:List PV}(hid:g.mp id=some bm)(hcs:S.objs[id]?=some cs)(hev:cs.length%2=0) :
  Le g w {g with mfz:=fun b=>b==bm||g.mfz b} w∧SR X {g with mfz:=fun b=>b==bm||g.mfz b} (dm id (cs++[.und]) S) w:=by
 have hle:Le g w {g with mfz:=fun b=>b==bm||g.mfz b} w:=⟨rfl,rfl,rfl,aX _,fun _ _ h=>h,fun _ _ h=>h,fun _ _ h=>h,fun _=>aX _,fun _ _ _=>rfl,fun _ us _ _ h=>⟨us,h,rfl⟩,
  fun id _ h=>.inl ⟨id,h⟩,fun _ _ h=>.inl h,fun _ _ _ _ _=>rfl,fun _ _ _ _ _=>rfl,fun _ _ h=>h,fun _ _ h=>.inl h,fun b _ _ h e=>⟨by simp[h],e⟩⟩
 have hlt:=(aO.1 hcs).1;have hoth:∀i,i≠id→(dm id (cs++[.und]) S).objs[i]?=S.objs[i]?:=fun i hne=>by simp only[dm];rw[bn (Ne.symm hne)]
 obtain⟨hij,hop⟩:=uw hS (S':=dm id (cs++[.und]) S) (fun i b' h=>hoth i (fun e=>by subst e;exact hS.maps.dis _ _ _ hid h));refine⟨hle,⟨fun i b' h=>?_,hij,hop,hS.arr,hS.asz,hS.lt,⟨fun i b' h=>?_,hS.maps.inj,hS.maps.pub,hS.maps.dis,fun b' h=>?_⟩,hS.gl.le hle⟩⟩
 ·obtain⟨cs',us,t,h1,h2,h3,h4⟩:=hS.obj i b' h;exact⟨cs',us,t,by rw[hoth i (fun e=>by subst e;exact hS.maps.dis _ _ _ hid h)];exact h1,h2,h3,fun j c u e1 e2=>(h4 j c u e1 e2).mono hle⟩
 ·obtain⟨cs',es,cl,h1,h2,h3,h4⟩:=hS.maps.ent i b' h;by_cases hi:i=id
  ·subst hi;rw[hcs]at h1;cases h1;exact⟨cs++[.und],es,cl,by simp[dm,hlt],h2,h3,(h4.imp (fun c u r=>r.mono hle)).mark' hev⟩
  ·exact⟨cs',es,cl,by rw[hoth i hi];exact h1,h2,h3,h4.imp (fun c u r=>r.mono hle)⟩
 ·simp only[gW,beq_iff_eq]at h;by_cases e:b'=bm
  ·subst e;exact⟨id,cs++[.und],hid,by simp[dm,hlt],by simp;omega⟩
  ·obtain⟨i,cs',h1,h2,h3⟩:=hS.maps.fz b' (h.resolve_left e);exact⟨i,cs',h1,by rw[hoth i (fun q=>by subst q;rw[hid]at h1;cases h1;exact e rfl)];exact h2,h3⟩
def RT(hS:SR X g S w){id bm:Nat}{cs:List PV}{es:Array MapEntry}{clock:Nat}(hid:g.mp id=some bm)(hb:w.heap[bm]?=some (.map es clock))(hmr:MR X g w cs es.toList) :
  SR X {g with mfz:=fun b=>b != bm&&g.mfz b} (dm id cs S) w:=by
 have hlt:id<S.objs.length:=by
  obtain⟨_,_,_,h1,_⟩:=hS.maps.ent id bm hid;exact(aO.1 h1).1
 have hoth:∀i,i≠id→(dm id cs S).objs[i]?=S.objs[i]?:=fun i hne=>by simp only[dm];rw[bn (Ne.symm hne)]
 obtain⟨hij,hop⟩:=uw hS (S':=dm id cs S) (fun i b' h=>hoth i (fun e=>by subst e;exact hS.maps.dis _ _ _ hid h));refine⟨fun i b' h=>?_,hij,hop,hS.arr,hS.asz,hS.lt,⟨fun i b' h=>?_,hS.maps.inj,hS.maps.pub,hS.maps.dis,fun b' h=>?_⟩,hS.gl.sub (fun i _ h=>⟨i,h⟩) (fun _ h=>h) (fun i _ h=>⟨i,h⟩)⟩
 ·obtain⟨cs',us,t,h1,h2,h3,h4⟩:=hS.obj i b' h;exact⟨cs',us,t,by rw[hoth i (fun e=>by subst e;exact hS.maps.dis _ _ _ hid h)];exact h1,h2,h3,fun j c u e1 e2=>(h4 j c u e1 e2).mfz _⟩
 ·obtain⟨cs',es',cl,h1,h2,h3,h4⟩:=hS.maps.ent i b' h;by_cases hi:i=id
  ·subst hi
   have:b'=bm:=by
    have h:g.mp i=some b':=h;rw[hid]at h;cases h;rfl
   subst this;rw[hb]at h2;cases h2;exact⟨cs,_,_,by simp[dm,hlt],hb,h3,hmr.imp (fun c u r=>r.mfz _)⟩
  ·exact⟨cs',es',cl,by rw[hoth i hi];exact h1,h2,h3,h4.imp (fun c u r=>r.mfz _)⟩
 ·simp only[aJ,bne_iff_ne,ne_eq]at h;obtain⟨i,cs',h1,h2,h3⟩:=hS.maps.fz b' h.2;exact⟨i,cs',h1,by rw[hoth i (fun q=>by subst q;rw[hid]at h1;cases h1;exact h.1 rfl)];exact h2,h3⟩
def aB9 {g2:Gh} {w2:World} {b:Nat} (hq:Le g w g2 w2) (hnf:g.mfz b=false):Le g w {g2 with mfz:=fun b'=>b' != b&&g2.mfz b'} w2:=
 ⟨hq.os,hq.tape,hq.output,hq.size,hq.obj,hq.arr,hq.asz,hq.pub,hq.cell,hq.shape,hq.objN,hq.arrN,hq.keep,hq.pubN,hq.mp,hq.mpN,fun b' es' c' m1 m2=>by
  obtain⟨r1,r2⟩:=hq.mf b' es' c' m1 m2;refine⟨?_,r2⟩;have:b'≠b:=fun e=>by subst e;rw[hnf]at m1;cases m1
  simp[this,r1]⟩
theorem od{T:aQ}{call:af}{m:List aB}{r:Fr×St}:∀{l:List aB} {fr:Fr} {S:St},ah T call (l++m) fr S=some r→∃fr1 S1,ah T call l fr S=some (fr1,S1)∧ah T call m fr1 S1=some r
 | [],fr,S,h=>⟨fr,S,rfl,h⟩
 |p::l,fr,S,h=>by
  rw[jS,cw]at h
  cases hp:bC T call p fr S with
  |none=>rw[hp]at h;cases h
  |some q=>
   obtain⟨v,S1⟩:=q;rw[hp]at h;obtain⟨fr2,S2,h1,h2⟩:=od h;exact⟨fr2,S2,by rw[cw,hp];exact h1,h2⟩
theorem zl{T:aQ}{call:af}{m:List aB}{r:Fr×St}:∀{l:List aB} {fr fr1:Fr} {S S1:St},ah T call l fr S=some (fr1,S1)→ah T call m fr1 S1=some r→ah T call (l++m) fr S=some r
 | [],_,_,_,_,h,h2=>by cases h;exact h2
 |p::l,fr,fr1,S,S1,h,h2=>by
  rw[cw]at h;rw[jS,cw]
  cases hp:bC T call p fr S with
  |none=>rw[hp]at h;cases h
  |some q=>
   obtain⟨v,S2⟩:=q;rw[hp]at h;exact zl h h2
theorem uW{T:aQ}{call:af}{t:Nat}:∀{l:List aB} {fr fr1:Fr} {S S1:St},(∀p∈l,p.dst≠some t)→ah T call l fr S=some (fr1,S1)→fr1 t=fr t
 | [],_,_,_,_,_,h=>by cases h;rfl
 |p::l,fr,fr1,S,S1,hd,h=>by
  rw[cw]at h
  cases hp:bC T call p fr S with
  |none=>rw[hp]at h;cases h
  |some q=>
   obtain⟨v,S2⟩:=q;rw[hp]at h;rw[uW (fun p hp=>hd p (by simp[hp])) h];exact kQ (hd p (by simp))
theorem uX{T:aQ}{call:af}{d:Nat}{u:PV}:∀{l:List aB} {fr fr1:Fr} {S S1:St},(∀p∈l,d∉p.reads∧p.dst≠some d)→ah T call l fr S=some (fr1,S1)→ah T call l (aS fr (some d) u) S=some (aS fr1 (some d) u,S1)
 | [],_,_,_,_,_,h=>by cases h;rfl
 |p::l,fr,fr1,S,S1,hd,h=>by
  rw[cw]at h ⊢
  have e:bC T call p (aS fr (some d) u) S=bC T call p fr S:=rQ fun t ht=>kQ (by
   intro e;cases e;exact(hd p (by simp)).1 ht)
  rw[e]
  cases hp:bC T call p fr S with
  |none=>rw[hp]at h;cases h
  |some q=>
   obtain⟨v,S2⟩:=q;rw[hp]at h;simp only at h ⊢;rw[uS (fun t e1 e2=>by cases e1;exact(hd p (by simp)).2 e2)];exact uX (fun p hp=>hd p (by simp[hp])) h
theorem RU{n:Nat}:∀{l:List MapEntry} {j:Nat} {e:MapEntry},(l.map (·.born)).Nodup→l[j]?=some e→e.born=n→l.findIdx? (fun x=>((x.born:Nat):Int)==(n:Int))=some j
 | [],_,_,_,h,_=>by simp at h
 |x::l,0,e,_,h,hb=>by
  simp only[kf,aw]at h;subst h
  simp[List.findIdx?_cons,hb]
 |x::l,j+1,e,hn,h,hb=>by
  simp only[cV,nY]at hn;simp only[Ax]at h;have hne:x.born≠n:=fun q=>hn.1 (List.mem_map.2 ⟨e,dY h,by rw[hb,q]⟩);have hb':(((x.born:Nat):Int)==(n:Int))=false:=by rw[beq_eq_false_iff_ne];omega
  rw[List.findIdx?_cons,hb',if_neg (by simp),RU hn.2 h hb];rfl
def aCa:∀{l:List MapEntry} {i j:Nat} {e f:MapEntry},(l.map (·.key)).Nodup→l[i]?=some e→l[j]?=some f→e.key=f.key→i=j:=by
 intro l i j e f hn hi hj hk;have h1:(l.map (·.key))[i]?=some e.key:=by simp[hi]
 have h2:(l.map (·.key))[j]?=some e.key:=by simp[hj,hk]
 have hil:=(aO.1 h1).1;exact(List.getElem?_inj hil hn).1 (h1.trans h2.symm)
def RV{es:Array MapEntry}{j:Nat}{e:MapEntry}(f:MapEntry→MapEntry)(h:es[j]?=some e):(es.modify j f).toList=es.toList.set j (f e):=by
 have h':es.toList[j]?=some e:=by simpa using h
 apply ke;intro i;have hjl:j<es.toList.length:=(aO.1 h').1;simp only[ju,lw];by_cases hij:j=i
 ·subst hij;rw[if_pos rfl,h,dd hjl];rfl
 ·rw[if_neg hij,bn hij];simp
def aCb(hS:SR X g S w){t:TypeId}{z k:PV}{uk:Value}{b:Nat}{cs:List PV}{es:Array MapEntry}{clock:Nat}(ht:kx X.P true t=true)(hz:ky X.P t z=true)
  (rk:VR X g w k uk)(hb:w.heap[b]?=some (.map es clock))(hst:MapKept.Stamped es clock)(hmr:MR X g w cs es.toList)(lk:cd true S k=true)(ll:eP true S cs=true)(hev:cs.length%2=0) :
  ∃(v0:Value) (m:Nat) (es1:Array MapEntry) (clock1 j:Nat) (e:MapEntry),(Instr.mapEntry t (.map (some b)) uk).run X.P w=.ok (.tuple #[v0,goInt (m:Nat)]) {w with heap:=w.heap.setIfInBounds b (.map es1 clock1)}∧VR X g w ((ce k cs).getD z) v0∧MapKept.Stamped es1 clock1 ∧
   MR X g w (dG k ((ce k cs).getD z) cs) es1.toList∧es1[j]?=some e∧e.born=m∧e.key=uk:=by
 obtain⟨kt,et,hu,hq⟩:=ub ht;obtain⟨zu,hz1,hz2⟩:=zr hu hz;have rz:VR X g w z zu:=mu hz2;rcases Rh hS hq rk lk hmr ll 0 with⟨r1,r2,r3⟩|⟨v,m,e,r1,r2,r3,r4,r5⟩
 ·rcases ue hS hq rk lk rz hmr ll hev 0 with⟨_,_,q3⟩|⟨m,e,q1,_⟩
  rotate_left
  ·rw[r2]at q1;cases q1
  have hst':=MapKept.stamped_push hst (key:=uk) (val:=zu) r3;refine⟨zu,clock,es.push {key:=uk,val:=zu,born:=clock},clock+1,es.size,{key:=uk,val:=zu,born:=clock},?_,by rw[r1];exact rz,hst',by rw[r1];simpa using q3 clock,by simp,rfl,rfl⟩;simp[Instr.mapEntry,run_underlying hu,MapKept.run_getObj_map hb,oh hq rk lk,og hq rk lk r2,hz1,MapKept.run_setObj_map _ hb]
 ·rcases ue hS hq rk lk r4 hmr ll hev 0 with⟨q1,_⟩|⟨m',e',q1,q2,q3,q4⟩
  ·rw[r2]at q1;cases q1
  have hm:m'=m∧e'=e:=by
   rw[r2]at q1;have:m=m':=by simpa using (by injection q1 with q1;simpa using congrArg (fun x=>x.map (·.1)) q1:(some (0+m):Option Nat)=some (0+m'))
   subst this;rw[r3]at q2;cases q2;exact⟨rfl,rfl⟩
  obtain⟨rfl,rfl⟩:=hm;have hje:es[m']?=some e':=by simpa using r3
  rw[cy]at r2;have hst':=MapKept.stamped_modify hst m' (fun e=>{e with key:=uk}) (fun _ _=>rfl) (fun e'' _ h=>by rw[hje]at h;cases h;exact r5.symm);refine⟨e'.val,e'.born,es.modify m' (fun e=>{e with key:=uk}),clock,m',{e' with key:=uk},?_,by rw[r1];exact r4,hst',?_,by simp[lw,hje],rfl,rfl⟩
  ·have hstay:=Ri (X:=X) (S:=S) rk lk w;simp[Instr.mapEntry,run_underlying hu,MapKept.run_getObj_map hb,oh hq rk lk,og hq rk lk r2,MapKept.run_setObj_map _ hb,hje,r5,hstay]
  ·rw[RV _ hje,r1];exact q4
def aCc(hS:SR X g S w){t:TypeId}{k v:PV}{uk uv:Value}{b m j:Nat}{cs:List PV}{es:Array MapEntry}{clock:Nat}{e:MapEntry}{kt:TypeId}(hq:kS X.P kt true)
  (rk:VR X g w k uk)(rv:VR X g w v uv)(hb:w.heap[b]?=some (.map es clock))(hst:MapKept.Stamped es clock)(hmr:MR X g w cs es.toList)(lk:cd true S k=true)(ll:eP true S cs=true)(hev:cs.length%2=0)
  (hj:es[j]?=some e)(hm:e.born=m)(hk:e.key=uk) :
  ∃es1,(Instr.entryStore t (.map (some b)) (goInt (m:Nat)) uv).run X.P w=.ok () {w with heap:=w.heap.setIfInBounds b (.map es1 clock)}∧MapKept.Stamped es1 clock∧MR X g w (dG k v cs) es1.toList:=by
 have hj':es.toList[j]?=some e:=by simpa using hj
 have hidx:es.findIdx? (fun x=>((x.born:Nat):Int)==(m:Int))=some j:=by
  have:=RU hst.2.1 hj' hm;rw[←this];cases es;simp
 rcases ue hS hq rk lk rv hmr ll hev 0 with⟨_,q2,_⟩|⟨i,e',q1,q2,q3,q4⟩
 ·exact absurd hk (q2 e (dY hj'))
 ·have:i=j:=aCa hst.2.2 q2 hj' (q3.trans hk.symm);subst this;rw[hj']at q2;cases q2;have hst':=MapKept.stamped_modify hst i (fun e=>{e with val:=uv}) (fun _ _=>rfl) (fun _ _ _=>rfl);refine⟨es.modify i (fun e=>{e with val:=uv}),?_,hst',?_⟩
  ·simp[Instr.entryStore,MapKept.run_getObj_map hb,MapKept.run_setObj_map _ hb,goInt,asInt,asIntOf,hidx]
  ·rw[RV _ hj];have:({e with key:=uk,val:=uv}:MapEntry) = {e with val:=uv}:=by rw[←hk]
   rw[this]at q4;exact q4
def zm:bO→Bool
 |.men ..=>true
 |_=>false
def RW(X:Tie)(n:Nat)(om os:Oper)(pm:aB)(M:List aB)(ps:aB):Bool:=
  match pm.op,om.op,ps.op,os.op,om.dst with
  |.men z x k,.mapEntry t xo ko,.est x2 k2 v,.entryStore _ xo2 (.tmp ts) vo,some d=>
    pm.dst==some d&&om.guard.isNone&&os.guard.isNone&&pm.guard.isNone&&ps.guard.isNone&&os.dst==none&&ps.dst==none&&decide (d<n)&&kx X.P true t&&ky X.P t z&&aK X xo x&&aK X ko k&&aK X xo2 x2&&aK X vo v &&
    (match k,k2 with|.tmp a,.tmp b=>a==b&&a != d&&M.all (fun p=>p.dst != some a)|_,_=>false) &&
    (match x,x2 with|.tmp a,.tmp b=>a==b&&a != d&&M.all (fun p=>p.dst != some a)|_,_=>false) &&
    (match M with
     |⟨some old,.extract 0 (.tmp d1),none⟩::r=>d1==d&&old != d&&(match r.getLast? with
       |some ⟨some ts',.extract 1 (.tmp d2),none⟩=>d2==d&&ts'==ts&&ts != d&&r.dropLast.all (fun p=>!p.reads.contains d&&p.dst != some d)
       |_=>false)
     |_=>false)
  |_,_,_,_,_=>false
def uY(X:Tie)(n:Nat)(ops:Array Oper)(lo:Nat)(ps:List aB):Bool:=
 match kV X n ops (List.range' lo ps.length) ps with
 |some ql=>oo (du ops.toList []) ql
 |none=>false
def kR(ops:Array Oper)(lo hi:Nat):Bool:=
 (match ops[hi]? with|some o=>(List.range' lo (hi-lo)).all fun j=>(iO o).contains j|none=>false) &&
 (List.range' (hi+1) (ops.size-(hi+1))).all fun i=>match ops[i]? with|some o=>(iO o).contains hi|none=>true
def zn(X:Tie)(n:Nat)(ops:Array Oper)(ps:List aB):Bool:=
 let i:=(ps.takeWhile fun p=>!zm p.op).length
 fi ops.toList 0&&uY X n ops 0 (ps.take i)&&kR ops 0 i&&kR ops (i+1) (ops.size-1)&&decide (ps.length=ops.size)&&(match ops[i]?,ps.drop i with
  |some om,pm::q=>(match ops[ops.size-1]?,q.getLast? with
   |some os,some pl=>uY X n ops (i+1) q.dropLast&&RW X n om os pm q.dropLast pl
   |_,_=>false)
  |_,_=>false)
theorem RX{k v:PV}:∀{cs:List PV},cs.length%2=0→(dG k v cs).length%2=0
 | [],_=>by simp[dG]
 | [_],h=>by simp at h
 |q::u::r,h=>by
  have hr:r.length%2=0:=by simp only[bE]at h;omega
  have:=RX (k:=k) (v:=v) hr;simp only[dG];split<;>simp only[bE]<;>omega
def aCd{cs:List PV}{es:List MapEntry}(h:MR X g w cs es):cs.length%2=1→MR X g w cs.dropLast es:=by
 induction h with
 |nil=>intro h;simp at h
 |mark=>intro _;exact .nil
 |cons k v cs e es hk hkk hv _ ih=>
  intro h;have hc:cs.length%2=1:=by simp only[bE]at h;omega
  cases cs with
  |nil=>simp at hc
  |cons c r=>exact .cons k v _ e es hk hkk hv (ih hc)
def RY{S':St}{k:PV}(h:cd true S k=true):cd true S' k=true:=by
 obtain⟨s,t,rfl⟩:=rU h;rfl
theorem RZ{S':St}:∀{cs:List PV},eP true S cs=true→eP true S' cs=true
 | [],_=>rfl
 | [_],_=>rfl
 |k::v::r,h=>by
  simp only[eP,aJ]at h ⊢;exact⟨RY h.1,RZ h.2⟩
def jp{fr:Fr}{t:Nat}:ev fr (.tmp t)=fr t:=rfl
def aCe{v:PV}{m:Int}{u:Value}(h:VR X g w (.tup [v,.int .i64 m]) u):VR X g w (.tup [v,.und]) u:=by
 cases h with
 |tup cs us hl hv=>
  refine .tup _ us (by simpa using hl) (fun j c u e1 e2=>?_)
  match j with
  |0=>exact hv 0 c u (by simpa using e1) e2
  |1=>simp at e1;subst e1;exact .und _
  |j+2=>simp at e1
def lY(ops:Array Oper)(listed:Array Bool)(k:Nat):Prop:=listed.size=ops.size∧(∀j,j<k→listed.getD j true=true)∧∀j,k≤j→j<ops.size→listed.getD j true=false
def jI{l:Array Bool}{i j:Nat}{d:Bool}(h:j≠i):(l.setIfInBounds i true).getD j d=l.getD j d:=by
 simp only[eh];rw[fk (Ne.symm h)]
def uZ{l:Array Bool}{i:Nat}{d:Bool}(h:i<l.size):(l.setIfInBounds i true).getD i d=true:=by
 simp[Array.getD,h]
def jq{l:Array Bool}{i:Nat}(h:i<l.size):l.getD i true=l.getD i false:=by
 simp[Array.getD,h]
def lY.step{ops:Array Oper}{listed:Array Bool}{k:Nat}(h:lY ops listed k)(hk:k<ops.size):lY ops (listed.setIfInBounds k true) (k+1):=by
 obtain⟨h1,h2,h3⟩:=h;refine⟨by simpa using h1,fun j hj=>?_,fun j hj hl=>?_⟩
 ·by_cases e:j=k
  ·subst e;exact uZ (by omega)
  ·rw[jI e];exact h2 j (by omega)
 ·rw[jI (by omega)];exact h3 j (by omega) hl
def nF{ops:Array Oper}{lo hi:Nat}(h:kR ops lo hi=true):hi<ops.size∧(∀o,ops[hi]?=some o→∀j,lo≤j→j<hi→j∈iO o)∧∀i o,hi<i→ops[i]?=some o→hi∈iO o:=by
 unfold kR at h;rw[aJ]at h;obtain⟨h1,h2⟩:=h;split at h1
 rotate_left
 ·cases h1
 rename_i o ho;refine⟨(cD.1 ho).1,fun o' ho' j hj1 hj2=>?_,fun i o' hi ho'=>?_⟩
 ·rw[ho]at ho';cases ho';have:=List.all_eq_true.1 h1 j (by simp[List.mem_range'_1];omega);simpa using this
 ·have hl:=(cD.1 ho').1;have:=List.all_eq_true.1 h2 i (by simp[List.mem_range'_1];omega);rw[ho']at this;simpa using this
def zo{ops:Array Oper}{listed:Array Bool}{lo hi:Nat}(hback:fi ops.toList 0=true)(hb:kR ops lo hi=true)(hu:lY ops listed hi):∀i,i∈Region.ready .any ops listed↔i=hi:=by
 obtain⟨b1,b2,b3⟩:=nF hb;obtain⟨u1,u2,u3⟩:=hu;intro i;constructor
 ·intro h;obtain⟨h1,h2,o,ho,h3⟩:=eT.1 h;by_cases e:i=hi
  ·exact e
  ·exfalso;rcases Nat.lt_or_gt_of_ne e with e|e
   ·rw[u2 i e]at h2;cases h2
   ·have:=h3 hi (b3 i o e ho);rw[←jq (by omega),u3 hi (aX _) b1]at this;cases this
 ·rintro rfl;refine eT.2 ⟨b1,u3 i (aX _) b1,ops[i],by simp[b1],fun d hd=>?_⟩;have:=kT hback i ops[i] (by simp[b1]) d hd;rw[←jq (by omega)];exact u2 d (by omega)
set_option maxHeartbeats 1000000 in
def aCf{call:af}(hty:eS X)(hM:eZ X)(hC:cu X call){ops:Array Oper}{ql:List (Nat×aB)}{lo hi fuel0:Nat}{Q:Exit→Act→World→Prop}{fr':Fr}{S':St}
  (hget:∀x∈ql,lo≤x.1∧x.1<hi∧∃o,ops[x.1]?=some o∧dl X n ops o x.2=true)(hcov:∀i,lo≤i→i<hi→∃p,(i,p)∈ql)(hnd:(ql.map (·.1)).Nodup)(hback:fi ops.toList 0=true)(hbar:kR ops lo hi=true)
  (hpw:ql.Pairwise fun x y=>((du ops.toList []).getD y.1 0).testBit x.1=true∨fh x.2 y.2=true):∀(r:Nat) (listed:Array Bool) (g:Gh) (w:World) (fr:Fr) (S:St) (a:Act),
  SR X g S w→FR X n g w fr a→listed.size=ops.size→lZ ops listed→(∀j,j<lo→listed.getD j true=true)→(∀j,hi≤j→j<ops.size→listed.getD j true=false)→(bj ql listed).length=r→ah X.T call ((bj ql listed).map (·.2)) fr S=some (fr',S') →
  (∀g' w' a' listed',Le g w g' w'→SR X g' S' w'→FR X n g' w' fr' a'→lY ops listed' hi→wpAny X.P .any ops Q fuel0 listed' a' w')→wpAny X.P .any ops Q (r+fuel0) listed a w:=by
 have hmr:=nJ ops.toList ops.toList [] (by simp) (fun i m h=>by simp at h);obtain⟨b1,b2,b3⟩:=nF hbar;intro r
 induction r with
 |zero=>
  intro listed g w fr S a hS hF hsz hdn hlo hhi hr h hQ;have hnil:bj ql listed=[]:=List.length_eq_zero_iff.1 hr;rw[hnil]at h;simp only[lz,ah,aw,bo]at h;obtain⟨rfl,rfl⟩:=h;rw[cy];refine hQ g w a listed (Le.refl g w) hS hF ⟨hsz,fun j hj=>?_,hhi⟩;by_cases e:j<lo
  ·exact hlo j e
  ·obtain⟨p,hp⟩:=hcov j (by omega) hj;have:=pJ.1 hnil (j,p) hp
   simpa using this
 |succ r ih=>
  intro listed g w fr S a hS hF hsz hdn hlo hhi hr h hQ;rw[Nat.add_right_comm]
  have hin:∀i,i∈Region.ready .any ops listed→lo≤i∧i<hi:=by
   intro i hi';obtain⟨h1,h2,o,ho,h3⟩:=eT.1 hi'
   have e1:lo≤i:=by
    by_cases e:lo≤i
    ·exact e
    ·rw[hlo i (by omega)]at h2;cases h2
   refine⟨e1,?_⟩;by_cases e:i<hi
   ·exact e
   ·exfalso;by_cases e2:i=hi
    ·subst e2
     obtain⟨x,hx⟩:∃x,x∈bj ql listed:=by
      cases hq:bj ql listed with
      |nil=>rw[hq]at hr;simp at hr
      |cons x l=>exact⟨x,by simp⟩
     obtain⟨hx1,hx2⟩:=jw.1 hx;obtain⟨q1,q2,_⟩:=hget x hx1;have:=h3 x.1 (b2 o ho x.1 q1 q2);rw[←jq (by omega)]at this;simp[this]at hx2
    ·have:=h3 hi (b3 i o (by omega) ho);rw[←jq (by omega),hhi hi (aX _) b1]at this;cases this
  refine⟨fun hrd=>?_,fun i hi'=>?_⟩
  ·exfalso
   have hall:∀k,k<ops.size→listed.getD k true=true:=by
    intro k
    induction k using Nat.strongRecOn with
    |_ k ih=>
     intro hk
     cases hl:listed.getD k true with
     |true=>rfl
     |false=>
      have:k∈Region.ready .any ops listed:=eT.2 ⟨hk,hl,ops[k],by simp[hk],fun d hd=>by
       have hdk:d<k:=by
        have:=kT hback k ops[k] (by simp[hk]) d hd;omega
       rw[←jq (by omega)];exact ih d hdk (by omega)⟩
      rw[hrd]at this;cases this
   have:=hall hi b1;rw[hhi hi (aX _) b1]at this;cases this
  ·obtain⟨z1,z2⟩:=hin i hi';obtain⟨h1,h2,o,ho,h3⟩:=eT.1 hi';obtain⟨q,hq⟩:=hcov i z1 z2;obtain⟨_,_,o',ho',hcq⟩:=hget _ hq;simp only at ho';rw[ho]at ho';cases ho';obtain⟨pre,post,e1,e2,e3⟩:=la hnd hpw hq h2 (by omega)
   have hind:∀p∈pre,fh p.2 q=true:=by
    intro p hp;obtain⟨hb|hb,hj3⟩:=e3 p hp
    ·exfalso
     have hil:i<(du ops.toList []).length:=by
      by_cases hil:i<(du ops.toList []).length
      ·exact hil
      ·rw[ci,dI (by omega)]at hb;simp at hb
     have hr:=hmr i _ (bX hil) p.1 (by rw[ci,bX hil]at hb;exact hb);have hjl:=ol hdn hsz hr (fun o' ho' d hd=>by rw[ho]at ho';cases ho';exact h3 d hd)
     have hjs:p.1<listed.size:=by
      by_cases hjs:p.1<listed.size
      ·exact hjs
      ·simp[Array.getD,hjs]at hj3
     simp[Array.getD,hjs]at hjl hj3;rw[hjl]at hj3;cases hj3
    ·exact hb
   rw[e1,dS,cV]at h
   have hsw:=rS (by
    intro p hp;obtain⟨x,hx,rfl⟩:=List.mem_map.1 hp;exact hind x hx) h
   unfold wpOp;simp only[ho]
   have:=kU hty hM hC (Q:=Q) (K:=wpAny X.P .any ops Q (r+fuel0) (listed.setIfInBounds i true)) hcq hS hF hsw (fun g1 w1 a1 fr1 S1 hle1 hS1 hF1 h1'=>by
    refine ih _ g1 w1 fr1 S1 a1 hS1 hF1 (by simpa using hsz) ?_ (fun j hj=>?_) (fun j hj hl=>?_) ?_ (by rw[e2,dS];exact h1') (fun g2 w2 a2 l2 hle2 hS2 hF2=>hQ g2 w2 a2 l2 (hle1.trans hle2) hS2 hF2)
    ·intro k o' ho' hk d hd
     have hdl:listed.getD d false=true:=by
      by_cases hki:k=i
      ·subst hki;rw[ho]at ho';cases ho';exact h3 d hd
      ·refine hdn k o' ho' ?_ d hd;rw[jI hki]at hk;exact hk
     by_cases hdi:d=i
     ·subst hdi;exact uZ (by omega)
     ·rw[jI hdi];exact hdl
    ·rw[jI (by omega)];exact hlo j hj
    ·rw[jI (by omega)];exact hhi j hj hl
    ·rw[e2];rw[e1]at hr;simp at hr ⊢;omega)
   split
   ·rename_i hw;rw[if_pos hw]at this;exact .inl this
   ·rename_i hw;rw[if_neg hw]at this;exact this
def Ra{call:af}(hty:eS X)(hM:eZ X)(hC:cu X call){ops:Array Oper}{ps:List aB}{lo hi fuel0:Nat}{Q:Exit→Act→World→Prop}{fr':Fr}{S':St}
  (hc:uY X n ops lo ps=true)(hhi:hi=lo+ps.length)(hback:fi ops.toList 0=true)(hbar:kR ops lo hi=true){listed:Array Bool}(hu:lY ops listed lo)
  (hS:SR X g S w)(hF:FR X n g w fr a)(h:ah X.T call ps fr S=some (fr',S'))
  (hQ:∀g' w' a' listed',Le g w g' w'→SR X g' S' w'→FR X n g' w' fr' a'→lY ops listed' hi→wpAny X.P .any ops Q fuel0 listed' a' w'):wpAny X.P .any ops Q (ps.length+fuel0) listed a w:=by
 unfold uY at hc;split at hc
 rotate_left
 ·cases hc
 rename_i ql hql;obtain⟨e1,e2,e3⟩:=rY (List.nodup_range' (step:=1)) hql;have hnd:(ql.map (·.1)).Nodup:=e2.nodup_iff.2 (List.nodup_range' (step:=1))
 have hmem:∀i,i∈ql.map (·.1)↔lo≤i∧i<hi:=fun i=>by
  rw[e2.mem_iff,List.mem_range'_1,hhi]
 obtain⟨b1,_,_⟩:=nF hbar;obtain⟨u1,u2,u3⟩:=hu
 have hrest:bj ql listed=ql:=by
  unfold bj;refine jv.2 (fun x hx=>?_);have:=(hmem x.1).1 (List.mem_map.2 ⟨x,hx,rfl⟩);rw[u3 x.1 this.1 (by omega)];rfl
 refine aCf hty hM hC (fun x hx=>?_) (fun i h1 h2=>?_) hnd hback hbar (ug hc) ps.length listed g w fr S a hS hF u1 ?_ u2 (fun j h1 h2=>u3 j (by omega) h2) ?_ (by rw[hrest,e1];exact h) hQ
 ·have:=(hmem x.1).1 (List.mem_map.2 ⟨x,hx,rfl⟩);exact⟨this.1,this.2,e3 x hx⟩
 ·obtain⟨x,hx,rfl⟩:=List.mem_map.1 ((hmem i).2 ⟨h1,h2⟩);exact⟨x.2,hx⟩
 ·intro i o ho hi d hd;have hi2:=(cD.1 ho).1
  have hlt:i<lo:=by
   by_cases e:i<lo
   ·exact e
   ·rw[u3 i (by omega) hi2]at hi;cases hi
  have:=kT hback i o (by simpa using ho) d hd;rw[←jq (by omega)];exact u2 d (by omega)
 ·rw[hrest,←e1];simp
def aCg{T:aQ}{call:af}{d ka xa ts old:Nat}{v:aG}{z:PV}{B:List aB}{fr fr':Fr}{S S':St}(hold:old≠d)(htd:ts≠d)(hkd:ka≠d)(hBd:∀p∈B,d∉p.reads∧p.dst≠some d)
  (hkM:old≠ka∧ts≠ka∧∀p∈B,p.dst≠some ka)(hxd:xa≠d)(hxM:old≠xa∧ts≠xa∧∀p∈B,p.dst≠some xa)
  (h:ah T call (⟨some d,.men z (.tmp xa) (.tmp ka),none⟩::((⟨some old,.extract 0 (.tmp d),none⟩::(B++[⟨some ts,.extract 1 (.tmp d),none⟩]))++[⟨none,.est (.tmp xa) (.tmp ka) v,none⟩])) fr S=some (fr',S')) :
  ∃id cs cs2 S2,fr xa=.map id∧S.objs[id]?=some cs∧cd true S (fr ka)=true∧eP true S cs=true∧cs.length%2=0 ∧
   (∀m:Int,∃frR,ah T call (⟨some old,.extract 0 (.tmp d),none⟩::(B++[⟨some ts,.extract 1 (.tmp d),none⟩])) (upd fr d (.tup [(ce (fr ka) cs).getD z,.int .i64 m])) {S with objs:=S.objs.set id (dG (fr ka) ((ce (fr ka) cs).getD z) cs++[.und])}=some (frR,S2) ∧
    frR ts=.int .i64 m∧frR ka=fr ka∧frR d=.tup [(ce (fr ka) cs).getD z,.int .i64 m]∧fr' d=.tup [(ce (fr ka) cs).getD z,.und]∧fr' ts=.und∧∀t,t≠d→t≠ts→fr' t=frR t) ∧
   fr' xa=.map id∧S2.objs[id]?=some cs2∧cd true S2 (fr ka)=true∧eP true S2 cs2.dropLast=true∧cs2.length%2=1∧S' = {S2 with objs:=S2.objs.set id (dG (fr ka) (ev fr' v) cs2.dropLast)}:=by
 rw[cw]at h;simp only[bC,bq,aH]at h;split at h
 rotate_left
 ·cases h
 rename_i vq Sq hmen;split at hmen
 rotate_left
 ·cases hmen
 rename_i id hid;split at hmen
 rotate_left
 ·cases hmen
 rename_i cs hcs;by_cases hlive:cd true S (ev fr (.tmp ka))=true∧eP true S cs=true∧cs.length%2=0
 rotate_left
 ·rw[if_neg hlive]at hmen;cases hmen
 rw[if_pos hlive]at hmen;obtain⟨lk,ll,hev⟩:=hlive;simp only[jp]at hid lk;simp only[jp,aw,bo]at hmen;obtain⟨rfl,rfl⟩:=hmen;obtain⟨fr3,S3,hp3,hpl3⟩:=od h;rw[cw]at hp3;simp only[bC,bq,aH,aW,jp,dL,aS,dE,if_true,kf]at hp3;obtain⟨fr2,S2,hB,hl⟩:=od hp3
 have hd2:fr2 d=.tup [(ce (fr ka) cs).getD z,.und]:=by
  rw[uW (fun p hp=>(hBd p hp).2) hB];simp[dE,Ne.symm hold]
 have hk2:fr2 ka=fr ka:=by
  rw[uW (fun p hp=>hkM.2.2 p hp) hB];simp[dE,Ne.symm hkM.1,hkd]
 have hx2:fr2 xa=.map id:=by
  rw[uW (fun p hp=>hxM.2.2 p hp) hB];simp[dE,Ne.symm hxM.1,hxd,hid]
 rw[cw]at hl;simp only[bC,bq,aH,aW,jp,dL,hd2,Ax,kf,ah,aw,bo,aS]at hl;obtain⟨rfl,rfl⟩:=hl;rw[cw]at hpl3;have hka3:upd fr2 ts .und ka=fr ka:=by rw[dE,if_neg (Ne.symm hkM.2.1)];exact hk2
 have hxa3:upd fr2 ts .und xa=.map id:=by rw[dE,if_neg (Ne.symm hxM.2.1)];exact hx2
 have hka4:ev (upd fr2 ts .und) (.tmp ka)=fr ka:=hka3;have hxa4:ev (upd fr2 ts .und) (.tmp xa)=.map id:=hxa3;simp only[bC,bq,aH,hka4,hxa4]at hpl3;split at hpl3
 rotate_left
 ·cases hpl3
 rename_i v4 S4 hest;simp only[ah,aS,aw,bo]at hpl3;obtain⟨rfl,rfl⟩:=hpl3;split at hest
 rotate_left
 ·cases hest
 rename_i cs2 hcs2;by_cases hl2:cd true S2 (fr ka)=true∧eP true S2 cs2.dropLast=true∧cs2.length%2=1
 rotate_left
 ·rw[if_neg hl2]at hest;cases hest
 rw[if_pos hl2]at hest;obtain⟨lk2,ll2,hev2⟩:=hl2;simp only[aw,bo]at hest;obtain⟨_,rfl⟩:=hest;refine⟨id,cs,cs2,S2,hid,hcs,lk,ll,hev,fun m=>?_,hxa3,hcs2,lk2,ll2,hev2,rfl⟩;have hB':=uX (u:=.tup [(ce (fr ka) cs).getD z,.int .i64 m]) hBd hB
 have e0:aS (upd (upd fr d (.tup [(ce (fr ka) cs).getD z,.und])) old ((ce (fr ka) cs).getD z)) (some d) (.tup [(ce (fr ka) cs).getD z,.int .i64 m]) =
   upd (upd fr d (.tup [(ce (fr ka) cs).getD z,.int .i64 m])) old ((ce (fr ka) cs).getD z):=by
  funext t;simp only[aS,dE];by_cases e1:t=d
  ·subst e1;simp[Ne.symm hold]
  ·simp[e1]
 rw[e0]at hB';refine⟨upd (aS fr2 (some d) (.tup [(ce (fr ka) cs).getD z,.int .i64 m])) ts (.int .i64 m),?_,by simp[dE],?_,?_,?_,by simp[dE],fun t h1 h2=>?_⟩
 ·rw[cw];simp only[bC,bq,aH,aW,jp,dL,aS,dE,if_true,kf];refine zl hB' ?_;rw[cw];simp[bC,bq,aH,aW,ev,dL,aS,dE,ah]
 ·simp only[dE,aS,if_neg (Ne.symm hkM.2.1),if_neg hkd];exact hk2
 ·simp[dE,aS,Ne.symm htd]
 ·simp only[dE,if_neg (Ne.symm htd)];exact hd2
 ·simp[dE,aS,h1,h2]
def zp{P:Program}{ops:Array Oper}{Q:Exit→Act→World→Prop}{f:Nat}{listed:Array Bool}{a:Act}{w:World}(h1:Region.ready .any ops listed=[]→Q .normal a w)
  (h2:∀i∈Region.ready .any ops listed,wpOp P ops Q i (wpAny P .any ops Q f (listed.setIfInBounds i true)) a w):wpAny P .any ops Q (1+f) listed a w:=by
 rw[jT];exact⟨h1,h2⟩
set_option maxHeartbeats 1000000 in
def aCh{call:af}(hty:eS X)(hM:eZ X)(hC:cu X call)(hmix:X.P.follows .mixedOrders=true){ops:Array Oper}{ps:List aB}(hc:zn X n ops ps=true)(hS:SR X g S w)(hF:FR X n g w fr a){fr':Fr}{S':St}(hp:ah X.T call ps fr S=some (fr',S'))
  {Q:Exit→Act→World→Prop}(hQ:∀g' w' a',Le g w g' w'→SR X g' S' w'→FR X n g' w' fr' a'→Q .normal a' w')(id:Nat):(Code.region id ops true).wp X.P Q a w:=by
 unfold zn at hc;simp only[aJ,decide_eq_true_eq]at hc;obtain⟨⟨⟨⟨⟨hback,hcA⟩,hb1⟩,hb2⟩,hlen⟩,hc⟩:=hc;have hile:(ps.takeWhile fun p=>!zm p.op).length≤ps.length:=(List.takeWhile_sublist _).length_le;generalize (ps.takeWhile fun p=>!zm p.op).length=i at hcA hb1 hb2 hc hile;split at hc
 rotate_left
 ·cases hc
 rename_i om pm q hom hq;split at hc
 rotate_left
 ·cases hc
 rename_i os pl hos hpl;simp only[aJ]at hc;obtain⟨hcM,hc⟩:=hc
 have hq2:q=q.dropLast++[pl]:=by
  obtain⟨ys,hys⟩:=va.1 hpl;rw[hys];simp
 generalize q.dropLast=qM at hq2 hcM hc;subst hq2;have hps:ps=ps.take i++pm::(qM++[pl]):=by rw[←hq,jx]
 have hAl:(ps.take i).length=i:=List.length_take_of_le hile;generalize ps.take i=qA at hps hcA hAl;subst hps;simp only[aZ,bE,cO,hAl]at hlen;unfold RW at hc;split at hc
 rotate_left
 ·cases hc
 rename_i z x k t xo ko x2 k2 v ut xo2 ts vo d e1 e2 e3 e4 e5;simp only[aJ,pQ,beq_iff_eq,decide_eq_true_eq]at hc;obtain⟨⟨⟨⟨⟨⟨⟨⟨⟨⟨⟨⟨⟨⟨⟨⟨c1,c2⟩,c3⟩,c4⟩,c5⟩,c6⟩,c7⟩,c8⟩,c9⟩,c10⟩,c11⟩,c12⟩,c13⟩,c14⟩,c15⟩,c16⟩,hc⟩:=hc;split at c15
 rotate_left
 ·cases c15
 rename_i ka kb;simp only[aJ,beq_iff_eq,bne_iff_ne,ne_eq]at c15;obtain⟨⟨rfl,hkd⟩,hkM⟩:=c15;split at c16
 rotate_left
 ·cases c16
 rename_i xa xb;simp only[aJ,beq_iff_eq,bne_iff_ne,ne_eq]at c16;obtain⟨⟨rfl,hxd⟩,hxM⟩:=c16;split at hc
 rotate_left
 ·cases hc
 rename_i old d1 rr;simp only[aJ,beq_iff_eq,bne_iff_ne,ne_eq]at hc;obtain⟨⟨rfl,hold⟩,hc⟩:=hc;split at hc
 rotate_left
 ·cases hc
 rename_i ts' d2 hlast;simp only[aJ,beq_iff_eq,bne_iff_ne,ne_eq]at hc;obtain⟨⟨⟨rfl,rfl⟩,htd⟩,hB⟩:=hc
 have hrr:rr=rr.dropLast++[⟨some ts',.extract 1 (.tmp d2),none⟩]:=by
  obtain⟨ys,hys⟩:=va.1 hlast;rw[hys];simp
 generalize rr.dropLast=B at hrr hB;subst hrr
 have hBd:∀p∈B,d2∉p.reads∧p.dst≠some d2:=fun p hp=>by
  have:=List.all_eq_true.1 hB p hp;simpa using this
 have hkM':old≠ka∧ts'≠ka∧∀p∈B,p.dst≠some ka:=by
  have h0:=List.all_eq_true.1 hkM;exact⟨by simpa using h0 ⟨some old,.extract 0 (.tmp d2),none⟩ (by simp),by simpa using h0 ⟨some ts',.extract 1 (.tmp d2),none⟩ (by simp),fun p hp=>by simpa using h0 p (by simp[hp])⟩
 have hxM':old≠xa∧ts'≠xa∧∀p∈B,p.dst≠some xa:=by
  have h0:=List.all_eq_true.1 hxM;exact⟨by simpa using h0 ⟨some old,.extract 0 (.tmp d2),none⟩ (by simp),by simpa using h0 ⟨some ts',.extract 1 (.tmp d2),none⟩ (by simp),fun p hp=>by simpa using h0 p (by simp[hp])⟩
 obtain⟨fr0,S0,hpA,hp⟩:=od hp;have hpm:pm=⟨some d2,.men z (.tmp xa) (.tmp ka),none⟩:=by cases pm;simp only at c1 c4 e1;subst c1 c4 e1;rfl
 have hpl':pl=⟨none,.est (.tmp xa) (.tmp ka) v,none⟩:=by cases pl;simp only at c5 c7 e3;subst c5 c7 e3;rfl
 subst hpm hpl';obtain⟨id1,cs,cs2,S2,t1,t2,t3,t4,t5,t6,t7,t8,t9,t10,t11,t12⟩:=aCg hold htd hkd hBd hkM' hxd hxM' hp;refine wp_region_any hmix ?_;have hw:∀{g':Gh} {w':World},Le g {w with drawn:=w.drawn+1} g' w'→Le g w g' w':=fun h=>⟨h.os,h.tape,h.output,h.size,h.obj,h.arr,h.asz,h.pub,h.cell,h.shape,h.objN,h.arrN,h.keep,h.pubN,h.mp,h.mpN,h.mf⟩
 have hle:Le g w g {w with drawn:=w.drawn+1}:=⟨rfl,rfl,rfl,aX _,fun _ _ h=>h,fun _ _ h=>h,fun _ _ h=>h,fun _=>aX _,fun _ _ _=>rfl,fun _ us _ _ h=>⟨us,h,rfl⟩,
  fun id _ h=>.inl ⟨id,h⟩,fun _ _ h=>.inl h,fun _ _ _ _ _=>rfl,fun _ _ _ _ _=>rfl,fun _ _ h=>h,fun _ _ h=>.inl h,fun _ _ _ h e=>⟨h,e⟩⟩
 have hS':SR X g S {w with drawn:=w.drawn+1}:=⟨fun id b hb=>by
  obtain⟨cs,us,t,h1,h2,h3,h4⟩:=hS.obj id b hb;exact⟨cs,us,t,h1,h2,h3,fun j c u e1 e2=>(h4 j c u e1 e2).mono hle⟩,hS.inj,hS.objpub,hS.arr,hS.asz,hS.lt,hS.maps.of (fun _ _ h=>h) (fun _ _ _=>rfl) (fun _ _ _=>rfl) (fun c u r=>r.mono hle) (fun _ _ _=>⟨rfl,rfl⟩) (fun _ _ _ _ h=>h),hS.gl.le hle⟩
 generalize ({w with drawn:=w.drawn+1}:World)=wd at hw hle hS';have hsz:ops.size=qA.length+(1+((⟨some old,.extract 0 (.tmp d2),none⟩::(B++[⟨some ts',.extract 1 (.tmp d2),none⟩]):List aB).length+(1+0))):=by rw[←hlen,hAl];simp only[bE,aZ,cO];omega
 refine(congrArg (fun N=>wpAny X.P .any ops Q N (Array.replicate ops.size false) a wd) hsz).mpr ?_;refine Ra hty hM hC (hi:=i) hcA (by omega) hback hb1 ⟨by simp,fun j hj=>absurd hj (Nat.not_lt_zero j),fun j _ hj=>by simp[Array.getD,hj]⟩ hS' (hF.mono hle) hpA (fun g1 w1 a1 l1 hle1 hS1 hF1 hu1=>?_);have hrd:=zo hback hb1 hu1;have hi1:=(nF hb1).1;refine zp (fun hr=>by have:=(hrd i).2 rfl;rw[hr]at this;cases this) (fun j hj=>?_);obtain rfl:=(hrd j).1 hj;unfold wpOp;simp only[hom];have want:∀y,Region.wanted om y=true:=fun y=>by simp[Region.wanted,c2]
 rw[if_pos (want _)];left;have rx:=ax hF1 c11;rw[jp,t1]at rx;have rk:=ax hF1 c12;rw[jp]at rk;generalize hxu:a1.eval xo=u at rx;generalize hku:a1.eval ko=uk at rk
 cases rx with
 |map _ b hb=>
  obtain⟨cs',es,clock,m1,m2,m3,m4⟩:=hS1.maps.ent id1 b hb;rw[t2]at m1;cases m1;obtain⟨v0,m,es1,clock1,jj,ee,r1,r2,r3,r4,r5,r6,r7⟩:=aCb hS1 c9 c10 rk m2 m3 m4 t3 t4 t5;have hnf:=nH hS1 hb t2 t5;obtain⟨hleA,hSA⟩:=nI hS1 hb m2 r3 (aO.1 t2).1 r4 hnf;have hlt1:id1<S0.objs.length:=(aO.1 t2).1;have hlenp:(dG (fr0 ka) ((ce (fr0 ka) cs).getD z) cs).length%2=0:=RX t5;obtain⟨hleM,hSM⟩:=RS hSA (bm:=b) hb (cs:=dG (fr0 ka) ((ce (fr0 ka) cs).getD z) cs) (by simp[hlt1]) hlenp
  have hSM':SR X {g1 with mfz:=fun b'=>b'==b||g1.mfz b'} {S0 with objs:=S0.objs.set id1 (dG (fr0 ka) ((ce (fr0 ka) cs).getD z) cs++[.und])} {w1 with heap:=w1.heap.setIfInBounds b (.map es1 clock1)}:=by
   have e:dm id1 (dG (fr0 ka) ((ce (fr0 ka) cs).getD z) cs++[.und]) {S0 with objs:=S0.objs.set id1 (dG (fr0 ka) ((ce (fr0 ka) cs).getD z) cs)} = {S0 with objs:=S0.objs.set id1 (dG (fr0 ka) ((ce (fr0 ka) cs).getD z) cs++[.und])}:=by
    simp[dm]
   rw[←e];exact hSM
  have hle2:=hleA.trans hleM
  have hF2:=(hF1.mono hle2).put (d:=some d2) (fun t e=>by cases e;exact c8) (v:=.tup [(ce (fr0 ka) cs).getD z,.int .i64 (m:Nat)]) (u:=.tuple #[v0,goInt (m:Nat)]) (.tup _ _ rfl (fun j c u q1 q2=>by
   match j with
   |0=>simp at q1 q2;subst q1 q2;exact r2.mono hle2
   |1=>simp at q1 q2;subst q1 q2;exact .int _ _
   |j+2=>simp at q1))
  have xm:(execOp a1.eval om).run X.P w1=.ok (.value (.tuple #[v0,goInt (m:Nat)])) {w1 with heap:=w1.heap.setIfInBounds b (.map es1 clock1)}:=by
   cases om with
   |mk dst op ty pos after guard=>
    simp only at e2;subst e2;simp[execOp,hxu,hku,r1]
  unfold Oper.wp;rw[xm,Oper.upon_value,e5];obtain⟨frR,p1,p2,p3,p4,p5,p6,p7⟩:=t6 (m:Nat);have hu2:=hu1.step hi1;refine Ra hty hM hC (hi:=ops.size-1) hcM (by simp only[bE,aZ,cO]at hlen ⊢;omega) hback hb2 hu2 hSM' hF2 p1 (fun g3 w3 a3 l3 hle3 hS3 hF3 hu3=>?_);have hrd3:=zo hback hb2 hu3;have hi3:=(nF hb2).1;refine zp (fun hr=>by have:=(hrd3 _).2 rfl;rw[hr]at this;cases this) (fun j hj=>?_);obtain rfl:=(hrd3 j).1 hj;unfold wpOp;simp only[hos];have want3:∀y,Region.wanted os y=true:=fun y=>by simp[Region.wanted,c3]
  rw[if_pos (want3 _)];left;obtain⟨f1,f2⟩:=hle3.mf b es1 clock1 (by simp) (by simp[(cD.1 m2).1])
  have hFr:FR X n g3 w3 fr' a3:=⟨hF3.size,fun t=>by
   have r:=hF3.at_ t;by_cases q1:t=d2
   ·subst q1;rw[p4]at r;rw[p5];exact aCe r
   ·by_cases q2:t=ts'
    ·subst q2;rw[p6];exact .und _
    ·rw[p7 t q1 q2];exact r,hF3.defers⟩
  have rx3:=ax hFr c13;rw[jp,t7]at rx3;have rv3:=ax hFr c14;have rs3:=hF3.at_ ts';rw[p2]at rs3;have hid3:g3.mp id1=some b:=hle3.mp id1 b hb;generalize hxu3:a3.eval xo2=u3 at rx3;generalize hvu3:a3.eval vo=uv at rv3;generalize hsu3:a3.tmps.getD ts' undef=us3 at rs3
  cases rx3 with
  |map _ b3 hb3=>
   rw[hid3]at hb3;cases hb3;cases rs3;obtain⟨cs3,es3,clock3,n1,n2,n3,n4⟩:=hS3.maps.ent id1 b hid3;rw[t8]at n1;cases n1;rw[f2]at n2;cases n2;have hmr:=aCd n4 t11;have hSu:=RT hS3 hid3 f2 hmr;obtain⟨kt,et,hu,hkq⟩:=ub c9;have hq:=hle2.trans hle3;have hev2:cs2.dropLast.length%2=0:=by simp only[List.length_dropLast];omega
   obtain⟨es2,x1,x2,x3⟩:=aCc (t:=ut) hSu hkq ((rk.mono hq).mfz _) (rv3.mfz _) f2 r3 (hmr.imp fun c u r=>r.mfz _) (RY t9) (RZ t10) hev2 r5 r6 r7;have hlt3:id1<S2.objs.length:=(aO.1 t8).1;obtain⟨hleB,hSB⟩:=nI hSu (id:=id1) (b:=b) hid3 f2 x2 (by simp[dm];exact hlt3) x3 (by simp)
   have hSB':SR X {g3 with mfz:=fun b'=>b' != b&&g3.mfz b'} S' {w3 with heap:=w3.heap.setIfInBounds b (.map es2 clock1)}:=by
    have e:({dm id1 cs2.dropLast S2 with objs:=(dm id1 cs2.dropLast S2).objs.set id1 (dG (fr0 ka) (ev fr' v) cs2.dropLast)}:St)=S':=by
     rw[t12];simp[dm]
    rw[←e];exact hSB
   have xs:(execOp a3.eval os).run X.P w3=.ok .skip {w3 with heap:=w3.heap.setIfInBounds b (.map es2 clock1)}:=by
    cases os with
    |mk dst op ty pos after guard=>
     simp only at e4;subst e4;have hts:a3.eval (.tmp ts')=goInt (m:Nat):=hsu3;simp[execOp,hxu3,hvu3,hts,x1]
   unfold Oper.wp;rw[xs,Oper.upon_skip];have hdst:os.dst=none:=by simpa using c6
   rw[hdst];have hu4:=hu3.step hi3;refine⟨?_,?_⟩
   ·rw[List.eq_nil_iff_forall_not_mem];intro j hj;obtain⟨h1,h2,_⟩:=eT.1 hj;rw[hu4.2.1 j (by omega)]at h2;cases h2
   ·exact hQ _ _ _ (hw (hle1.trans ((aB9 hq hnf).trans hleB))) hSB' (FR.mono hleB ⟨hFr.size,fun t=>(hFr.at_ t).mfz _,hFr.defers⟩)
end
end Ps
