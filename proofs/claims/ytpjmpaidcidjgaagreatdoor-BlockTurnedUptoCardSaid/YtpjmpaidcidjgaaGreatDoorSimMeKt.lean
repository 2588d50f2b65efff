/- An entry of a map, laid down in two steps: x[k] = append(x[k], ..). -/
import Derived.Test.YtpjmpaidcidjgaaGreatDoorAbbKt
import Derived.Test.YtpjmpaidcidjgaaGreatDoorSimPrKt
import Derived.Test.YtpjmpaidcidjgaaGreatDoorSimNqKt
set_option linter.defProp false
namespace Ps
set_option linter.unusedVariables false
set_option linter.unusedSimpArgs false
open Go
section
variable {X : Tie} {g : Gh} {w w' : World} {n : Dn} {fr : Fr} {a : Act} {S : St}
def dM (id:Nat) (cs:List PV) (S:St):St:={S with objs:=S.objs.set id cs}
def VR.mfz (f:Nat→Bool) {v:PV} {u:Value} (r:VR X g w v u):VR X {g with mfz:=f} w v u:=by
 induction r with
 |und u=>exact .und u
 |int k n=>exact .int k n
 |bool b=>exact .bool b
 |str s=>exact .str s
 |nilp=>exact .nilp
 |nils=>exact .nils
 |nili=>exact .nili
 |nilf=>exact .nilf
 |ptr id off b e=>exact .ptr id off b e
 |ref cs b o us hpub hc _ ih=>exact .ref cs b o us hpub hc ih
 |sl tip es sp b o cap sz us hcap hpos hsz hpub hc _ hlink hone ih=>exact .sl tip es sp b o cap sz us hcap hpos hsz hpub hc ih hlink hone
 |slz a=>exact .slz a
 |osl id off len sz cap b e hl hr=>exact .osl id off len sz cap b e hl hr
 |emp a=>exact .emp a
 |iface t v u _ ih=>exact .iface t v u ih
 |agg cs us hl _ ih=>exact .agg cs us hl ih
 |tup cs us hl _ ih=>exact .tup cs us hl ih
 |fn f cs us hl _ ih=>exact .fn f cs us hl ih
 |nilm=>exact .nilm
 |map id b e=>exact .map id b e
 |hnd b=>exact .hnd b
 |bfn f cs us hl _ ih=>exact .bfn f cs us hl ih
def MR.mark'{cs:List PV}{es:List MapEntry}(h:MR X g w cs es):cs.length%2=0→MR X g w (cs++[.und]) es:=by
 induction h with
 |nil=>intro _;exact .mark
 |mark=>intro h;simp at h
 |cons k v cs e es hk hkk hv _ ih=>
  intro h;exact .cons k v _ e es hk hkk hv (ih (by simp only[bE]at h;omega))
def OZ(hS:SR X g S w){id bm:Nat}{cs:List PV}(hid:g.mp id=some bm)(hcs:S.objs[id]?=some cs)(hev:cs.length%2=0) :
  Le g w {g with mfz:=fun b=>b==bm||g.mfz b} w∧SR X {g with mfz:=fun b=>b==bm||g.mfz b} (dM id (cs++[.und]) S) w:=by
 have hle:Le g w {g with mfz:=fun b=>b==bm||g.mfz b} w:=⟨rfl,rfl,rfl,aR _,fun _ _ h=>h,fun _ _ h=>h,fun _ _ h=>h,fun _=>aR _,fun _ _ _=>rfl,fun _ us _ _ h=>⟨us,h,rfl⟩,
  fun id _ h=>.inl ⟨id,h⟩,fun _ _ h=>.inl h,fun _ _ _ _ _=>rfl,fun _ _ _ _ _=>rfl,fun _ _ h=>h,fun _ _ h=>.inl h,fun b _ _ h e=>⟨by simp[h],e⟩⟩
 have hlt:=(aL.1 hcs).1;have hoth:∀i,i≠id→(dM id (cs++[.und]) S).objs[i]?=S.objs[i]?:=fun i hne=>by simp only[dM];rw[bq (Ne.symm hne)]
 obtain⟨hij,hop⟩:=tD hS (S':=dM id (cs++[.und]) S) (fun i b' h=>hoth i (fun e=>by subst e;exact hS.maps.dis _ _ _ hid h));refine⟨hle,⟨fun i b' h=>?_,hij,hop,hS.arr,hS.asz,hS.lt,⟨fun i b' h=>?_,hS.maps.inj,hS.maps.pub,hS.maps.dis,fun b' h=>?_⟩,hS.gl.le hle⟩⟩
 ·obtain⟨cs',us,t,h1,h2,h3,h4⟩:=hS.obj i b' h;exact⟨cs',us,t,by rw[hoth i (fun e=>by subst e;exact hS.maps.dis _ _ _ hid h)];exact h1,h2,h3,fun j c u e1 e2=>(h4 j c u e1 e2).mono hle⟩
 ·obtain⟨cs',es,cl,h1,h2,h3,h4⟩:=hS.maps.ent i b' h;by_cases hi:i=id
  ·subst hi;rw[hcs]at h1;cases h1;exact⟨cs++[.und],es,cl,by simp[dM,hlt],h2,h3,(h4.imp (fun c u r=>r.mono hle)).mark' hev⟩
  ·exact⟨cs',es,cl,by rw[hoth i hi];exact h1,h2,h3,h4.imp (fun c u r=>r.mono hle)⟩
 ·simp only[gJ,beq_iff_eq]at h;by_cases e:b'=bm
  ·subst e;exact⟨id,cs++[.und],hid,by simp[dM,hlt],by simp;omega⟩
  ·obtain⟨i,cs',h1,h2,h3⟩:=hS.maps.fz b' (h.resolve_left e);exact⟨i,cs',h1,by rw[hoth i (fun q=>by subst q;rw[hid]at h1;cases h1;exact e rfl)];exact h2,h3⟩
def Oa(hS:SR X g S w){id bm:Nat}{cs:List PV}{es:Array MapEntry}{clock:Nat}(hid:g.mp id=some bm)(hb:w.heap[bm]?=some (.map es clock))(hmr:MR X g w cs es.toList) :
  SR X {g with mfz:=fun b=>b != bm&&g.mfz b} (dM id cs S) w:=by
 have hlt:id<S.objs.length:=by
  obtain⟨_,_,_,h1,_⟩:=hS.maps.ent id bm hid;exact(aL.1 h1).1
 have hoth:∀i,i≠id→(dM id cs S).objs[i]?=S.objs[i]?:=fun i hne=>by simp only[dM];rw[bq (Ne.symm hne)]
 obtain⟨hij,hop⟩:=tD hS (S':=dM id cs S) (fun i b' h=>hoth i (fun e=>by subst e;exact hS.maps.dis _ _ _ hid h));refine⟨fun i b' h=>?_,hij,hop,hS.arr,hS.asz,hS.lt,⟨fun i b' h=>?_,hS.maps.inj,hS.maps.pub,hS.maps.dis,fun b' h=>?_⟩,hS.gl.sub (fun i _ h=>⟨i,h⟩) (fun _ h=>h) (fun i _ h=>⟨i,h⟩)⟩
 ·obtain⟨cs',us,t,h1,h2,h3,h4⟩:=hS.obj i b' h;exact⟨cs',us,t,by rw[hoth i (fun e=>by subst e;exact hS.maps.dis _ _ _ hid h)];exact h1,h2,h3,fun j c u e1 e2=>(h4 j c u e1 e2).mfz _⟩
 ·obtain⟨cs',es',cl,h1,h2,h3,h4⟩:=hS.maps.ent i b' h;by_cases hi:i=id
  ·subst hi
   have:b'=bm:=by
    have h:g.mp i=some b':=h;rw[hid]at h;cases h;rfl
   subst this;rw[hb]at h2;cases h2;exact⟨cs,_,_,by simp[dM,hlt],hb,h3,hmr.imp (fun c u r=>r.mfz _)⟩
  ·exact⟨cs',es',cl,by rw[hoth i hi];exact h1,h2,h3,h4.imp (fun c u r=>r.mfz _)⟩
 ·simp only[aI,bne_iff_ne,ne_eq]at h;obtain⟨i,cs',h1,h2,h3⟩:=hS.maps.fz b' h.2;exact⟨i,cs',h1,by rw[hoth i (fun q=>by subst q;rw[hid]at h1;cases h1;exact h.1 rfl)];exact h2,h3⟩
def Ye {g2:Gh} {w2:World} {b:Nat} (hq:Le g w g2 w2) (hnf:g.mfz b=false):Le g w {g2 with mfz:=fun b'=>b' != b&&g2.mfz b'} w2:=
 ⟨hq.os,hq.tape,hq.output,hq.size,hq.obj,hq.arr,hq.asz,hq.pub,hq.cell,hq.shape,hq.objN,hq.arrN,hq.keep,hq.pubN,hq.mp,hq.mpN,fun b' es' c' m1 m2=>by
  obtain⟨r1,r2⟩:=hq.mf b' es' c' m1 m2;refine⟨?_,r2⟩;have:b'≠b:=fun e=>by subst e;rw[hnf]at m1;cases m1
  simp[this,r1]⟩
theorem nl{T:aM}{call:aX}{m:List aA}{r:Fr×St}:∀{l:List aA} {fr:Fr} {S:St},aY T call (l++m) fr S=some r→∃fr1 S1,aY T call l fr S=some (fr1,S1)∧aY T call m fr1 S1=some r
 | [],fr,S,h=>⟨fr,S,rfl,h⟩
 |p::l,fr,S,h=>by
  rw[ij,cX]at h
  cases hp:av T call p fr S with
  |none=>rw[hp]at h;cases h
  |some q=>
   obtain⟨v,S1⟩:=q;rw[hp]at h;obtain⟨fr2,S2,h1,h2⟩:=nl h;exact⟨fr2,S2,by rw[cX,hp];exact h1,h2⟩
theorem yN{T:aM}{call:aX}{m:List aA}{r:Fr×St}:∀{l:List aA} {fr fr1:Fr} {S S1:St},aY T call l fr S=some (fr1,S1)→aY T call m fr1 S1=some r→aY T call (l++m) fr S=some r
 | [],_,_,_,_,h,h2=>by cases h;exact h2
 |p::l,fr,fr1,S,S1,h,h2=>by
  rw[cX]at h;rw[ij,cX]
  cases hp:av T call p fr S with
  |none=>rw[hp]at h;cases h
  |some q=>
   obtain⟨v,S2⟩:=q;rw[hp]at h;exact yN h h2
theorem sd{T:aM}{call:aX}{t:Nat}:∀{l:List aA} {fr fr1:Fr} {S S1:St},(∀p∈l,p.dst≠some t)→aY T call l fr S=some (fr1,S1)→fr1 t=fr t
 | [],_,_,_,_,_,h=>by cases h;rfl
 |p::l,fr,fr1,S,S1,hd,h=>by
  rw[cX]at h
  cases hp:av T call p fr S with
  |none=>rw[hp]at h;cases h
  |some q=>
   obtain⟨v,S2⟩:=q;rw[hp]at h;rw[sd (fun p hp=>hd p (by simp[hp])) h];exact jw (hd p (by simp))
theorem se{T:aM}{call:aX}{d:Nat}{u:PV}:∀{l:List aA} {fr fr1:Fr} {S S1:St},(∀p∈l,d∉p.reads∧p.dst≠some d)→aY T call l fr S=some (fr1,S1)→aY T call l (aO fr (some d) u) S=some (aO fr1 (some d) u,S1)
 | [],_,_,_,_,_,h=>by cases h;rfl
 |p::l,fr,fr1,S,S1,hd,h=>by
  rw[cX]at h ⊢
  have e:av T call p (aO fr (some d) u) S=av T call p fr S:=pu fun t ht=>jw (by
   intro e;cases e;exact(hd p (by simp)).1 ht)
  rw[e]
  cases hp:av T call p fr S with
  |none=>rw[hp]at h;cases h
  |some q=>
   obtain⟨v,S2⟩:=q;rw[hp]at h;simp only at h ⊢;rw[sY (fun t e1 e2=>by cases e1;exact(hd p (by simp)).2 e2)];exact se (fun p hp=>hd p (by simp[hp])) h
theorem Ob{n:Nat}:∀{l:List MapEntry} {j:Nat} {e:MapEntry},(l.map (·.born)).Nodup→l[j]?=some e→e.born=n→l.findIdx? (fun x=>((x.born:Nat):Int)==(n:Int))=some j
 | [],_,_,_,h,_=>by simp at h
 |x::l,0,e,_,h,hb=>by
  simp only[ik,ae]at h;subst h
  simp[List.findIdx?_cons,hb]
 |x::l,j+1,e,hn,h,hb=>by
  simp only[cB,mm]at hn;simp only[tZ]at h;have hne:x.born≠n:=fun q=>hn.1 (List.mem_map.2 ⟨e,ct h,by rw[hb,q]⟩);have hb':(((x.born:Nat):Int)==(n:Int))=false:=by rw[beq_eq_false_iff_ne];omega
  rw[List.findIdx?_cons,hb',if_neg (by simp),Ob hn.2 h hb];rfl
def Yf:∀{l:List MapEntry} {i j:Nat} {e f:MapEntry},(l.map (·.key)).Nodup→l[i]?=some e→l[j]?=some f→e.key=f.key→i=j:=by
 intro l i j e f hn hi hj hk;have h1:(l.map (·.key))[i]?=some e.key:=by simp[hi]
 have h2:(l.map (·.key))[j]?=some e.key:=by simp[hj,hk]
 have hil:=(aL.1 h1).1;exact(List.getElem?_inj hil hn).1 (h1.trans h2.symm)
def Oc{es:Array MapEntry}{j:Nat}{e:MapEntry}(f:MapEntry→MapEntry)(h:es[j]?=some e):(es.modify j f).toList=es.toList.set j (f e):=by
 have h':es.toList[j]?=some e:=by simpa using h
 apply lP;intro i;have hjl:j<es.toList.length:=(aL.1 h').1;simp only[jS,lO];by_cases hij:j=i
 ·subst hij;rw[if_pos rfl,h,dd hjl];rfl
 ·rw[if_neg hij,bq hij];simp
def Yg(hS:SR X g S w){t:TypeId}{z k:PV}{uk:Value}{b:Nat}{cs:List PV}{es:Array MapEntry}{clock:Nat}(ht:kV X.P true t=true)(hz:kW X.P t z=true)
  (rk:VR X g w k uk)(hb:w.heap[b]?=some (.map es clock))(hst:MapKept.Stamped es clock)(hmr:MR X g w cs es.toList)(lk:cK true S k=true)(ll:du true S cs=true)(hev:cs.length%2=0) :
  ∃(v0:Value) (m:Nat) (es1:Array MapEntry) (clock1 j:Nat) (e:MapEntry),(Instr.mapEntry t (.map (some b)) uk).run X.P w=.ok (.tuple #[v0,goInt (m:Nat)]) {w with heap:=w.heap.setIfInBounds b (.map es1 clock1)}∧VR X g w ((cL k cs).getD z) v0∧MapKept.Stamped es1 clock1 ∧
   MR X g w (ci k ((cL k cs).getD z) cs) es1.toList∧es1[j]?=some e∧e.born=m∧e.key=uk:=by
 obtain⟨kt,et,hu,hq⟩:=sk ht;obtain⟨zu,hz1,hz2⟩:=yT hu hz;have rz:VR X g w z zu:=mJ hz2;rcases Ot hS hq rk lk hmr ll 0 with⟨r1,r2,r3⟩|⟨v,m,e,r1,r2,r3,r4,r5⟩
 ·rcases sn hS hq rk lk rz hmr ll hev 0 with⟨_,_,q3⟩|⟨m,e,q1,_⟩
  rotate_left
  ·rw[r2]at q1;cases q1
  have hst':=MapKept.stamped_push hst (key:=uk) (val:=zu) r3;refine⟨zu,clock,es.push {key:=uk,val:=zu,born:=clock},clock+1,es.size,{key:=uk,val:=zu,born:=clock},?_,by rw[r1];exact rz,hst',by rw[r1];simpa using q3 clock,by simp,rfl,rfl⟩;simp[Instr.mapEntry,run_underlying hu,MapKept.run_getObj_map hb,nq hq rk lk,np hq rk lk r2,hz1,MapKept.run_setObj_map _ hb]
 ·rcases sn hS hq rk lk r4 hmr ll hev 0 with⟨q1,_⟩|⟨m',e',q1,q2,q3,q4⟩
  ·rw[r2]at q1;cases q1
  have hm:m'=m∧e'=e:=by
   rw[r2]at q1;have:m=m':=by simpa using (by injection q1 with q1;simpa using congrArg (fun x=>x.map (·.1)) q1:(some (0+m):Option Nat)=some (0+m'))
   subst this;rw[r3]at q2;cases q2;exact⟨rfl,rfl⟩
  obtain⟨rfl,rfl⟩:=hm;have hje:es[m']?=some e':=by simpa using r3
  rw[cd]at r2;have hst':=MapKept.stamped_modify hst m' (fun e=>{e with key:=uk}) (fun _ _=>rfl) (fun e'' _ h=>by rw[hje]at h;cases h;exact r5.symm);refine⟨e'.val,e'.born,es.modify m' (fun e=>{e with key:=uk}),clock,m',{e' with key:=uk},?_,by rw[r1];exact r4,hst',?_,by simp[lO,hje],rfl,rfl⟩
  ·have hstay:=Ou (X:=X) (S:=S) rk lk w;simp[Instr.mapEntry,run_underlying hu,MapKept.run_getObj_map hb,nq hq rk lk,np hq rk lk r2,MapKept.run_setObj_map _ hb,hje,r5,hstay]
  ·rw[Oc _ hje,r1];exact q4
def Yh(hS:SR X g S w){t:TypeId}{k v:PV}{uk uv:Value}{b m j:Nat}{cs:List PV}{es:Array MapEntry}{clock:Nat}{e:MapEntry}{kt:TypeId}(hq:jy X.P kt true)
  (rk:VR X g w k uk)(rv:VR X g w v uv)(hb:w.heap[b]?=some (.map es clock))(hst:MapKept.Stamped es clock)(hmr:MR X g w cs es.toList)(lk:cK true S k=true)(ll:du true S cs=true)(hev:cs.length%2=0)
  (hj:es[j]?=some e)(hm:e.born=m)(hk:e.key=uk) :
  ∃es1,(Instr.entryStore t (.map (some b)) (goInt (m:Nat)) uv).run X.P w=.ok () {w with heap:=w.heap.setIfInBounds b (.map es1 clock)}∧MapKept.Stamped es1 clock∧MR X g w (ci k v cs) es1.toList:=by
 have hj':es.toList[j]?=some e:=by simpa using hj
 have hidx:es.findIdx? (fun x=>((x.born:Nat):Int)==(m:Int))=some j:=by
  have:=Ob hst.2.1 hj' hm;rw[←this];cases es;simp
 rcases sn hS hq rk lk rv hmr ll hev 0 with⟨_,q2,_⟩|⟨i,e',q1,q2,q3,q4⟩
 ·exact absurd hk (q2 e (ct hj'))
 ·have:i=j:=Yf hst.2.2 q2 hj' (q3.trans hk.symm);subst this;rw[hj']at q2;cases q2;have hst':=MapKept.stamped_modify hst i (fun e=>{e with val:=uv}) (fun _ _=>rfl) (fun _ _ _=>rfl);refine⟨es.modify i (fun e=>{e with val:=uv}),?_,hst',?_⟩
  ·simp[Instr.entryStore,MapKept.run_getObj_map hb,MapKept.run_setObj_map _ hb,goInt,asInt,asIntOf,hidx]
  ·rw[Oc _ hj];have:({e with key:=uk,val:=uv}:MapEntry) = {e with val:=uv}:=by rw[←hk]
   rw[this]at q4;exact q4
def yO:bC→Bool
 |.men ..=>true
 |_=>false
def Od(X:Tie)(n:Nat)(om os:Oper)(pm:aA)(M:List aA)(ps:aA):Bool:=
  match pm.op,om.op,ps.op,os.op,om.dst with
  |.men z x k,.mapEntry t xo ko,.est x2 k2 v,.entryStore _ xo2 (.tmp ts) vo,some d=>
    pm.dst==some d&&om.guard.isNone&&os.guard.isNone&&pm.guard.isNone&&ps.guard.isNone&&os.dst==none&&ps.dst==none&&decide (d<n)&&kV X.P true t&&kW X.P t z&&aK X xo x&&aK X ko k&&aK X xo2 x2&&aK X vo v &&
    (match k,k2 with|.tmp a,.tmp b=>a==b&&a != d&&M.all (fun p=>p.dst != some a)|_,_=>false) &&
    (match x,x2 with|.tmp a,.tmp b=>a==b&&a != d&&M.all (fun p=>p.dst != some a)|_,_=>false) &&
    (match M with
     |⟨some old,.extract 0 (.tmp d1),none⟩::r=>d1==d&&old != d&&(match r.getLast? with
       |some ⟨some ts',.extract 1 (.tmp d2),none⟩=>d2==d&&ts'==ts&&ts != d&&r.dropLast.all (fun p=>!p.reads.contains d&&p.dst != some d)
       |_=>false)
     |_=>false)
  |_,_,_,_,_=>false
def sg(X:Tie)(n:Nat)(ops:Array Oper)(lo:Nat)(ps:List aA):Bool:=
 match kB X n ops (List.range' lo ps.length) ps with
 |some ql=>nw (dY ops.toList []) ql
 |none=>false
def jx(ops:Array Oper)(lo hi:Nat):Bool:=
 (match ops[hi]? with|some o=>(List.range' lo (hi-lo)).all fun j=>(gX o).contains j|none=>false) &&
 (List.range' (hi+1) (ops.size-(hi+1))).all fun i=>match ops[i]? with|some o=>(gX o).contains hi|none=>true
def yP(X:Tie)(n:Nat)(ops:Array Oper)(ps:List aA):Bool:=
 let i:=(ps.takeWhile fun p=>!yO p.op).length
 fF ops.toList 0&&sg X n ops 0 (ps.take i)&&jx ops 0 i&&jx ops (i+1) (ops.size-1)&&decide (ps.length=ops.size)&&(match ops[i]?,ps.drop i with
  |some om,pm::q=>(match ops[ops.size-1]?,q.getLast? with
   |some os,some pl=>sg X n ops (i+1) q.dropLast&&Od X n om os pm q.dropLast pl
   |_,_=>false)
  |_,_=>false)
theorem Oe{k v:PV}:∀{cs:List PV},cs.length%2=0→(ci k v cs).length%2=0
 | [],_=>by simp[ci]
 | [_],h=>by simp at h
 |q::u::r,h=>by
  have hr:r.length%2=0:=by simp only[bE]at h;omega
  have:=Oe (k:=k) (v:=v) hr;simp only[ci];split<;>simp only[bE]<;>omega
def Yi{cs:List PV}{es:List MapEntry}(h:MR X g w cs es):cs.length%2=1→MR X g w cs.dropLast es:=by
 induction h with
 |nil=>intro h;simp at h
 |mark=>intro _;exact .nil
 |cons k v cs e es hk hkk hv _ ih=>
  intro h;have hc:cs.length%2=1:=by simp only[bE]at h;omega
  cases cs with
  |nil=>simp at hc
  |cons c r=>exact .cons k v _ e es hk hkk hv (ih hc)
def Of{S':St}{k:PV}(h:cK true S k=true):cK true S' k=true:=by
 obtain⟨s,t,rfl⟩:=pz h;rfl
theorem Og{S':St}:∀{cs:List PV},du true S cs=true→du true S' cs=true
 | [],_=>rfl
 | [_],_=>rfl
 |k::v::r,h=>by
  simp only[du,aI]at h ⊢;exact⟨Of h.1,Og h.2⟩
def jM{fr:Fr}{t:Nat}:ev fr (.tmp t)=fr t:=rfl
def Yj{v:PV}{m:Int}{u:Value}(h:VR X g w (.tup [v,.int .i64 m]) u):VR X g w (.tup [v,.und]) u:=by
 cases h with
 |tup cs us hl hv=>
  refine .tup _ us (by simpa using hl) (fun j c u e1 e2=>?_)
  match j with
  |0=>exact hv 0 c u (by simpa using e1) e2
  |1=>simp at e1;subst e1;exact .und _
  |j+2=>simp at e1
def lE(ops:Array Oper)(listed:Array Bool)(k:Nat):Prop:=listed.size=ops.size∧(∀j,j<k→listed.getD j true=true)∧∀j,k≤j→j<ops.size→listed.getD j true=false
def iU{l:Array Bool}{i j:Nat}{d:Bool}(h:j≠i):(l.setIfInBounds i true).getD j d=l.getD j d:=by
 simp only[eG];rw[fJ (Ne.symm h)]
def si{l:Array Bool}{i:Nat}{d:Bool}(h:i<l.size):(l.setIfInBounds i true).getD i d=true:=by
 simp[Array.getD,h]
def jN{l:Array Bool}{i:Nat}(h:i<l.size):l.getD i true=l.getD i false:=by
 simp[Array.getD,h]
def lE.step{ops:Array Oper}{listed:Array Bool}{k:Nat}(h:lE ops listed k)(hk:k<ops.size):lE ops (listed.setIfInBounds k true) (k+1):=by
 obtain⟨h1,h2,h3⟩:=h;refine⟨by simpa using h1,fun j hj=>?_,fun j hj hl=>?_⟩
 ·by_cases e:j=k
  ·subst e;exact si (by omega)
  ·rw[iU e];exact h2 j (by omega)
 ·rw[iU (by omega)];exact h3 j (by omega) hl
def mT{ops:Array Oper}{lo hi:Nat}(h:jx ops lo hi=true):hi<ops.size∧(∀o,ops[hi]?=some o→∀j,lo≤j→j<hi→j∈gX o)∧∀i o,hi<i→ops[i]?=some o→hi∈gX o:=by
 unfold jx at h;rw[aI]at h;obtain⟨h1,h2⟩:=h;split at h1
 rotate_left
 ·cases h1
 rename_i o ho;refine⟨(bc.1 ho).1,fun o' ho' j hj1 hj2=>?_,fun i o' hi ho'=>?_⟩
 ·rw[ho]at ho';cases ho';have:=List.all_eq_true.1 h1 j (by simp[List.mem_range'_1];omega);simpa using this
 ·have hl:=(bc.1 ho').1;have:=List.all_eq_true.1 h2 i (by simp[List.mem_range'_1];omega);rw[ho']at this;simpa using this
def yQ{ops:Array Oper}{listed:Array Bool}{lo hi:Nat}(hback:fF ops.toList 0=true)(hb:jx ops lo hi=true)(hu:lE ops listed hi):∀i,i∈Region.ready .any ops listed↔i=hi:=by
 obtain⟨b1,b2,b3⟩:=mT hb;obtain⟨u1,u2,u3⟩:=hu;intro i;constructor
 ·intro h;obtain⟨h1,h2,o,ho,h3⟩:=dw.1 h;by_cases e:i=hi
  ·exact e
  ·exfalso;rcases Nat.lt_or_gt_of_ne e with e|e
   ·rw[u2 i e]at h2;cases h2
   ·have:=h3 hi (b3 i o e ho);rw[←jN (by omega),u3 hi (aR _) b1]at this;cases this
 ·rintro rfl;refine dw.2 ⟨b1,u3 i (aR _) b1,ops[i],by simp[b1],fun d hd=>?_⟩;have:=jz hback i ops[i] (by simp[b1]) d hd;rw[←jN (by omega)];exact u2 d (by omega)
set_option maxHeartbeats 1000000 in
def Yk{call:aX}(hty:dv X)(hM:eC X)(hC:cW X call){ops:Array Oper}{ql:List (Nat×aA)}{lo hi fuel0:Nat}{Q:Exit→Act→World→Prop}{fr':Fr}{S':St}
  (hget:∀x∈ql,lo≤x.1∧x.1<hi∧∃o,ops[x.1]?=some o∧dL X n ops o x.2=true)(hcov:∀i,lo≤i→i<hi→∃p,(i,p)∈ql)(hnd:(ql.map (·.1)).Nodup)(hback:fF ops.toList 0=true)(hbar:jx ops lo hi=true)
  (hpw:ql.Pairwise fun x y=>((dY ops.toList []).getD y.1 0).testBit x.1=true∨fE x.2 y.2=true):∀(r:Nat) (listed:Array Bool) (g:Gh) (w:World) (fr:Fr) (S:St) (a:Act),
  SR X g S w→FR X n g w fr a→listed.size=ops.size→lF ops listed→(∀j,j<lo→listed.getD j true=true)→(∀j,hi≤j→j<ops.size→listed.getD j true=false)→(bS ql listed).length=r→aY X.T call ((bS ql listed).map (·.2)) fr S=some (fr',S') →
  (∀g' w' a' listed',Le g w g' w'→SR X g' S' w'→FR X n g' w' fr' a'→lE ops listed' hi→wpAny X.P .any ops Q fuel0 listed' a' w')→wpAny X.P .any ops Q (r+fuel0) listed a w:=by
 have hmr:=mY ops.toList ops.toList [] (by simp) (fun i m h=>by simp at h);obtain⟨b1,b2,b3⟩:=mT hbar;intro r
 induction r with
 |zero=>
  intro listed g w fr S a hS hF hsz hdn hlo hhi hr h hQ;have hnil:bS ql listed=[]:=fW.1 hr;rw[hnil]at h;simp only[lR,aY,ae,ba]at h;obtain⟨rfl,rfl⟩:=h;rw[cd];refine hQ g w a listed (Le.refl g w) hS hF ⟨hsz,fun j hj=>?_,hhi⟩;by_cases e:j<lo
  ·exact hlo j e
  ·obtain⟨p,hp⟩:=hcov j (by omega) hj;have:=oO.1 hnil (j,p) hp
   simpa using this
 |succ r ih=>
  intro listed g w fr S a hS hF hsz hdn hlo hhi hr h hQ;rw[Nat.add_right_comm]
  have hin:∀i,i∈Region.ready .any ops listed→lo≤i∧i<hi:=by
   intro i hi';obtain⟨h1,h2,o,ho,h3⟩:=dw.1 hi'
   have e1:lo≤i:=by
    by_cases e:lo≤i
    ·exact e
    ·rw[hlo i (by omega)]at h2;cases h2
   refine⟨e1,?_⟩;by_cases e:i<hi
   ·exact e
   ·exfalso;by_cases e2:i=hi
    ·subst e2
     obtain⟨x,hx⟩:∃x,x∈bS ql listed:=by
      cases hq:bS ql listed with
      |nil=>rw[hq]at hr;simp at hr
      |cons x l=>exact⟨x,by simp⟩
     obtain⟨hx1,hx2⟩:=jU.1 hx;obtain⟨q1,q2,_⟩:=hget x hx1;have:=h3 x.1 (b2 o ho x.1 q1 q2);rw[←jN (by omega)]at this;simp[this]at hx2
    ·have:=h3 hi (b3 i o (by omega) ho);rw[←jN (by omega),hhi hi (aR _) b1]at this;cases this
  refine⟨fun hrd=>?_,fun i hi'=>?_⟩
  ·exfalso
   have hall:∀k,k<ops.size→listed.getD k true=true:=by
    intro k
    induction k using Nat.strongRecOn with
    |_ k ih=>
     intro hk
     cases hl:listed.getD k true with
     |true=>rfl
     |false=>
      have:k∈Region.ready .any ops listed:=dw.2 ⟨hk,hl,ops[k],by simp[hk],fun d hd=>by
       have hdk:d<k:=by
        have:=jz hback k ops[k] (by simp[hk]) d hd;omega
       rw[←jN (by omega)];exact ih d hdk (by omega)⟩
      rw[hrd]at this;cases this
   have:=hall hi b1;rw[hhi hi (aR _) b1]at this;cases this
  ·obtain⟨z1,z2⟩:=hin i hi';obtain⟨h1,h2,o,ho,h3⟩:=dw.1 hi';obtain⟨q,hq⟩:=hcov i z1 z2;obtain⟨_,_,o',ho',hcq⟩:=hget _ hq;simp only at ho';rw[ho]at ho';cases ho';obtain⟨pre,post,e1,e2,e3⟩:=lG hnd hpw hq h2 (by omega)
   have hind:∀p∈pre,fE p.2 q=true:=by
    intro p hp;obtain⟨hb|hb,hj3⟩:=e3 p hp
    ·exfalso
     have hil:i<(dY ops.toList []).length:=by
      by_cases hil:i<(dY ops.toList []).length
      ·exact hil
      ·rw[cH,cr (by omega)]at hb;simp at hb
     have hr:=hmr i _ (bK hil) p.1 (by rw[cH,bK hil]at hb;exact hb);have hjl:=nv hdn hsz hr (fun o' ho' d hd=>by rw[ho]at ho';cases ho';exact h3 d hd)
     have hjs:p.1<listed.size:=by
      by_cases hjs:p.1<listed.size
      ·exact hjs
      ·simp[Array.getD,hjs]at hj3
     simp[Array.getD,hjs]at hjl hj3;rw[hjl]at hj3;cases hj3
    ·exact hb
   rw[e1,dp,cB]at h
   have hsw:=px (by
    intro p hp;obtain⟨x,hx,rfl⟩:=List.mem_map.1 hp;exact hind x hx) h
   unfold wpOp;simp only[ho]
   have:=kA hty hM hC (Q:=Q) (K:=wpAny X.P .any ops Q (r+fuel0) (listed.setIfInBounds i true)) hcq hS hF hsw (fun g1 w1 a1 fr1 S1 hle1 hS1 hF1 h1'=>by
    refine ih _ g1 w1 fr1 S1 a1 hS1 hF1 (by simpa using hsz) ?_ (fun j hj=>?_) (fun j hj hl=>?_) ?_ (by rw[e2,dp];exact h1') (fun g2 w2 a2 l2 hle2 hS2 hF2=>hQ g2 w2 a2 l2 (hle1.trans hle2) hS2 hF2)
    ·intro k o' ho' hk d hd
     have hdl:listed.getD d false=true:=by
      by_cases hki:k=i
      ·subst hki;rw[ho]at ho';cases ho';exact h3 d hd
      ·refine hdn k o' ho' ?_ d hd;rw[iU hki]at hk;exact hk
     by_cases hdi:d=i
     ·subst hdi;exact si (by omega)
     ·rw[iU hdi];exact hdl
    ·rw[iU (by omega)];exact hlo j hj
    ·rw[iU (by omega)];exact hhi j hj hl
    ·rw[e2];rw[e1]at hr;simp at hr ⊢;omega)
   split
   ·rename_i hw;rw[if_pos hw]at this;exact .inl this
   ·rename_i hw;rw[if_neg hw]at this;exact this
def Oh{call:aX}(hty:dv X)(hM:eC X)(hC:cW X call){ops:Array Oper}{ps:List aA}{lo hi fuel0:Nat}{Q:Exit→Act→World→Prop}{fr':Fr}{S':St}
  (hc:sg X n ops lo ps=true)(hhi:hi=lo+ps.length)(hback:fF ops.toList 0=true)(hbar:jx ops lo hi=true){listed:Array Bool}(hu:lE ops listed lo)
  (hS:SR X g S w)(hF:FR X n g w fr a)(h:aY X.T call ps fr S=some (fr',S'))
  (hQ:∀g' w' a' listed',Le g w g' w'→SR X g' S' w'→FR X n g' w' fr' a'→lE ops listed' hi→wpAny X.P .any ops Q fuel0 listed' a' w'):wpAny X.P .any ops Q (ps.length+fuel0) listed a w:=by
 unfold sg at hc;split at hc
 rotate_left
 ·cases hc
 rename_i ql hql;obtain⟨e1,e2,e3⟩:=qE (List.nodup_range' (step:=1)) hql;have hnd:(ql.map (·.1)).Nodup:=e2.nodup_iff.2 (List.nodup_range' (step:=1))
 have hmem:∀i,i∈ql.map (·.1)↔lo≤i∧i<hi:=fun i=>by
  rw[e2.mem_iff,List.mem_range'_1,hhi]
 obtain⟨b1,_,_⟩:=mT hbar;obtain⟨u1,u2,u3⟩:=hu
 have hrest:bS ql listed=ql:=by
  unfold bS;refine jT.2 (fun x hx=>?_);have:=(hmem x.1).1 (List.mem_map.2 ⟨x,hx,rfl⟩);rw[u3 x.1 this.1 (by omega)];rfl
 refine Yk hty hM hC (fun x hx=>?_) (fun i h1 h2=>?_) hnd hback hbar (sq hc) ps.length listed g w fr S a hS hF u1 ?_ u2 (fun j h1 h2=>u3 j (by omega) h2) ?_ (by rw[hrest,e1];exact h) hQ
 ·have:=(hmem x.1).1 (List.mem_map.2 ⟨x,hx,rfl⟩);exact⟨this.1,this.2,e3 x hx⟩
 ·obtain⟨x,hx,rfl⟩:=List.mem_map.1 ((hmem i).2 ⟨h1,h2⟩);exact⟨x.2,hx⟩
 ·intro i o ho hi d hd;have hi2:=(bc.1 ho).1
  have hlt:i<lo:=by
   by_cases e:i<lo
   ·exact e
   ·rw[u3 i (by omega) hi2]at hi;cases hi
  have:=jz hback i o (by simpa using ho) d hd;rw[←jN (by omega)];exact u2 d (by omega)
 ·rw[hrest,←e1];simp
def Yl{T:aM}{call:aX}{d ka xa ts old:Nat}{v:aG}{z:PV}{B:List aA}{fr fr':Fr}{S S':St}(hold:old≠d)(htd:ts≠d)(hkd:ka≠d)(hBd:∀p∈B,d∉p.reads∧p.dst≠some d)
  (hkM:old≠ka∧ts≠ka∧∀p∈B,p.dst≠some ka)(hxd:xa≠d)(hxM:old≠xa∧ts≠xa∧∀p∈B,p.dst≠some xa)
  (h:aY T call (⟨some d,.men z (.tmp xa) (.tmp ka),none⟩::((⟨some old,.extract 0 (.tmp d),none⟩::(B++[⟨some ts,.extract 1 (.tmp d),none⟩]))++[⟨none,.est (.tmp xa) (.tmp ka) v,none⟩])) fr S=some (fr',S')) :
  ∃id cs cs2 S2,fr xa=.map id∧S.objs[id]?=some cs∧cK true S (fr ka)=true∧du true S cs=true∧cs.length%2=0 ∧
   (∀m:Int,∃frR,aY T call (⟨some old,.extract 0 (.tmp d),none⟩::(B++[⟨some ts,.extract 1 (.tmp d),none⟩])) (upd fr d (.tup [(cL (fr ka) cs).getD z,.int .i64 m])) {S with objs:=S.objs.set id (ci (fr ka) ((cL (fr ka) cs).getD z) cs++[.und])}=some (frR,S2) ∧
    frR ts=.int .i64 m∧frR ka=fr ka∧frR d=.tup [(cL (fr ka) cs).getD z,.int .i64 m]∧fr' d=.tup [(cL (fr ka) cs).getD z,.und]∧fr' ts=.und∧∀t,t≠d→t≠ts→fr' t=frR t) ∧
   fr' xa=.map id∧S2.objs[id]?=some cs2∧cK true S2 (fr ka)=true∧du true S2 cs2.dropLast=true∧cs2.length%2=1∧S' = {S2 with objs:=S2.objs.set id (ci (fr ka) (ev fr' v) cs2.dropLast)}:=by
 rw[cX]at h;simp only[av,bW,aH]at h;split at h
 rotate_left
 ·cases h
 rename_i vq Sq hmen;split at hmen
 rotate_left
 ·cases hmen
 rename_i id hid;split at hmen
 rotate_left
 ·cases hmen
 rename_i cs hcs;by_cases hlive:cK true S (ev fr (.tmp ka))=true∧du true S cs=true∧cs.length%2=0
 rotate_left
 ·rw[if_neg hlive]at hmen;cases hmen
 rw[if_pos hlive]at hmen;obtain⟨lk,ll,hev⟩:=hlive;simp only[jM]at hid lk;simp only[jM,ae,ba]at hmen;obtain⟨rfl,rfl⟩:=hmen;obtain⟨fr3,S3,hp3,hpl3⟩:=nl h;rw[cX]at hp3;simp only[av,bW,aH,aQ,jM,ck,aO,cg,if_true,ik]at hp3;obtain⟨fr2,S2,hB,hl⟩:=nl hp3
 have hd2:fr2 d=.tup [(cL (fr ka) cs).getD z,.und]:=by
  rw[sd (fun p hp=>(hBd p hp).2) hB];simp[cg,Ne.symm hold]
 have hk2:fr2 ka=fr ka:=by
  rw[sd (fun p hp=>hkM.2.2 p hp) hB];simp[cg,Ne.symm hkM.1,hkd]
 have hx2:fr2 xa=.map id:=by
  rw[sd (fun p hp=>hxM.2.2 p hp) hB];simp[cg,Ne.symm hxM.1,hxd,hid]
 rw[cX]at hl;simp only[av,bW,aH,aQ,jM,ck,hd2,tZ,ik,aY,ae,ba,aO]at hl;obtain⟨rfl,rfl⟩:=hl;rw[cX]at hpl3;have hka3:upd fr2 ts .und ka=fr ka:=by rw[cg,if_neg (Ne.symm hkM.2.1)];exact hk2
 have hxa3:upd fr2 ts .und xa=.map id:=by rw[cg,if_neg (Ne.symm hxM.2.1)];exact hx2
 have hka4:ev (upd fr2 ts .und) (.tmp ka)=fr ka:=hka3;have hxa4:ev (upd fr2 ts .und) (.tmp xa)=.map id:=hxa3;simp only[av,bW,aH,hka4,hxa4]at hpl3;split at hpl3
 rotate_left
 ·cases hpl3
 rename_i v4 S4 hest;simp only[aY,aO,ae,ba]at hpl3;obtain⟨rfl,rfl⟩:=hpl3;split at hest
 rotate_left
 ·cases hest
 rename_i cs2 hcs2;by_cases hl2:cK true S2 (fr ka)=true∧du true S2 cs2.dropLast=true∧cs2.length%2=1
 rotate_left
 ·rw[if_neg hl2]at hest;cases hest
 rw[if_pos hl2]at hest;obtain⟨lk2,ll2,hev2⟩:=hl2;simp only[ae,ba]at hest;obtain⟨_,rfl⟩:=hest;refine⟨id,cs,cs2,S2,hid,hcs,lk,ll,hev,fun m=>?_,hxa3,hcs2,lk2,ll2,hev2,rfl⟩;have hB':=se (u:=.tup [(cL (fr ka) cs).getD z,.int .i64 m]) hBd hB
 have e0:aO (upd (upd fr d (.tup [(cL (fr ka) cs).getD z,.und])) old ((cL (fr ka) cs).getD z)) (some d) (.tup [(cL (fr ka) cs).getD z,.int .i64 m]) =
   upd (upd fr d (.tup [(cL (fr ka) cs).getD z,.int .i64 m])) old ((cL (fr ka) cs).getD z):=by
  funext t;simp only[aO,cg];by_cases e1:t=d
  ·subst e1;simp[Ne.symm hold]
  ·simp[e1]
 rw[e0]at hB';refine⟨upd (aO fr2 (some d) (.tup [(cL (fr ka) cs).getD z,.int .i64 m])) ts (.int .i64 m),?_,by simp[cg],?_,?_,?_,by simp[cg],fun t h1 h2=>?_⟩
 ·rw[cX];simp only[av,bW,aH,aQ,jM,ck,aO,cg,if_true,ik];refine yN hB' ?_;rw[cX];simp[av,bW,aH,aQ,ev,ck,aO,cg,aY]
 ·simp only[cg,aO,if_neg (Ne.symm hkM.2.1),if_neg hkd];exact hk2
 ·simp[cg,aO,Ne.symm htd]
 ·simp only[cg,if_neg (Ne.symm htd)];exact hd2
 ·simp[cg,aO,h1,h2]
def yR{P:Program}{ops:Array Oper}{Q:Exit→Act→World→Prop}{f:Nat}{listed:Array Bool}{a:Act}{w:World}(h1:Region.ready .any ops listed=[]→Q .normal a w)
  (h2:∀i∈Region.ready .any ops listed,wpOp P ops Q i (wpAny P .any ops Q f (listed.setIfInBounds i true)) a w):wpAny P .any ops Q (1+f) listed a w:=by
 rw[gL];exact⟨h1,h2⟩
set_option maxHeartbeats 1000000 in
def Ym{call:aX}(hty:dv X)(hM:eC X)(hC:cW X call)(hmix:X.P.follows .mixedOrders=true){ops:Array Oper}{ps:List aA}(hc:yP X n ops ps=true)(hS:SR X g S w)(hF:FR X n g w fr a){fr':Fr}{S':St}(hp:aY X.T call ps fr S=some (fr',S'))
  {Q:Exit→Act→World→Prop}(hQ:∀g' w' a',Le g w g' w'→SR X g' S' w'→FR X n g' w' fr' a'→Q .normal a' w')(id:Nat):(Code.region id ops true).wp X.P Q a w:=by
 unfold yP at hc;simp only[aI,decide_eq_true_eq]at hc;obtain⟨⟨⟨⟨⟨hback,hcA⟩,hb1⟩,hb2⟩,hlen⟩,hc⟩:=hc;have hile:(ps.takeWhile fun p=>!yO p.op).length≤ps.length:=(List.takeWhile_sublist _).length_le;generalize (ps.takeWhile fun p=>!yO p.op).length=i at hcA hb1 hb2 hc hile;split at hc
 rotate_left
 ·cases hc
 rename_i om pm q hom hq;split at hc
 rotate_left
 ·cases hc
 rename_i os pl hos hpl;simp only[aI]at hc;obtain⟨hcM,hc⟩:=hc
 have hq2:q=q.dropLast++[pl]:=by
  obtain⟨ys,hys⟩:=td.1 hpl;rw[hys];simp
 generalize q.dropLast=qM at hq2 hcM hc;subst hq2;have hps:ps=ps.take i++pm::(qM++[pl]):=by rw[←hq,kI]
 have hAl:(ps.take i).length=i:=List.length_take_of_le hile;generalize ps.take i=qA at hps hcA hAl;subst hps;simp only[ak,bE,cP,hAl]at hlen;unfold Od at hc;split at hc
 rotate_left
 ·cases hc
 rename_i z x k t xo ko x2 k2 v ut xo2 ts vo d e1 e2 e3 e4 e5;simp only[aI,oS,beq_iff_eq,decide_eq_true_eq]at hc;obtain⟨⟨⟨⟨⟨⟨⟨⟨⟨⟨⟨⟨⟨⟨⟨⟨c1,c2⟩,c3⟩,c4⟩,c5⟩,c6⟩,c7⟩,c8⟩,c9⟩,c10⟩,c11⟩,c12⟩,c13⟩,c14⟩,c15⟩,c16⟩,hc⟩:=hc;split at c15
 rotate_left
 ·cases c15
 rename_i ka kb;simp only[aI,beq_iff_eq,bne_iff_ne,ne_eq]at c15;obtain⟨⟨rfl,hkd⟩,hkM⟩:=c15;split at c16
 rotate_left
 ·cases c16
 rename_i xa xb;simp only[aI,beq_iff_eq,bne_iff_ne,ne_eq]at c16;obtain⟨⟨rfl,hxd⟩,hxM⟩:=c16;split at hc
 rotate_left
 ·cases hc
 rename_i old d1 rr;simp only[aI,beq_iff_eq,bne_iff_ne,ne_eq]at hc;obtain⟨⟨rfl,hold⟩,hc⟩:=hc;split at hc
 rotate_left
 ·cases hc
 rename_i ts' d2 hlast;simp only[aI,beq_iff_eq,bne_iff_ne,ne_eq]at hc;obtain⟨⟨⟨rfl,rfl⟩,htd⟩,hB⟩:=hc
 have hrr:rr=rr.dropLast++[⟨some ts',.extract 1 (.tmp d2),none⟩]:=by
  obtain⟨ys,hys⟩:=td.1 hlast;rw[hys];simp
 generalize rr.dropLast=B at hrr hB;subst hrr
 have hBd:∀p∈B,d2∉p.reads∧p.dst≠some d2:=fun p hp=>by
  have:=List.all_eq_true.1 hB p hp;simpa using this
 have hkM':old≠ka∧ts'≠ka∧∀p∈B,p.dst≠some ka:=by
  have h0:=List.all_eq_true.1 hkM;exact⟨by simpa using h0 ⟨some old,.extract 0 (.tmp d2),none⟩ (by simp),by simpa using h0 ⟨some ts',.extract 1 (.tmp d2),none⟩ (by simp),fun p hp=>by simpa using h0 p (by simp[hp])⟩
 have hxM':old≠xa∧ts'≠xa∧∀p∈B,p.dst≠some xa:=by
  have h0:=List.all_eq_true.1 hxM;exact⟨by simpa using h0 ⟨some old,.extract 0 (.tmp d2),none⟩ (by simp),by simpa using h0 ⟨some ts',.extract 1 (.tmp d2),none⟩ (by simp),fun p hp=>by simpa using h0 p (by simp[hp])⟩
 obtain⟨fr0,S0,hpA,hp⟩:=nl hp;have hpm:pm=⟨some d2,.men z (.tmp xa) (.tmp ka),none⟩:=by cases pm;simp only at c1 c4 e1;subst c1 c4 e1;rfl
 have hpl':pl=⟨none,.est (.tmp xa) (.tmp ka) v,none⟩:=by cases pl;simp only at c5 c7 e3;subst c5 c7 e3;rfl
 subst hpm hpl';obtain⟨id1,cs,cs2,S2,t1,t2,t3,t4,t5,t6,t7,t8,t9,t10,t11,t12⟩:=Yl hold htd hkd hBd hkM' hxd hxM' hp;refine wp_region_any hmix ?_;have hw:∀{g':Gh} {w':World},Le g {w with drawn:=w.drawn+1} g' w'→Le g w g' w':=fun h=>⟨h.os,h.tape,h.output,h.size,h.obj,h.arr,h.asz,h.pub,h.cell,h.shape,h.objN,h.arrN,h.keep,h.pubN,h.mp,h.mpN,h.mf⟩
 have hle:Le g w g {w with drawn:=w.drawn+1}:=⟨rfl,rfl,rfl,aR _,fun _ _ h=>h,fun _ _ h=>h,fun _ _ h=>h,fun _=>aR _,fun _ _ _=>rfl,fun _ us _ _ h=>⟨us,h,rfl⟩,
  fun id _ h=>.inl ⟨id,h⟩,fun _ _ h=>.inl h,fun _ _ _ _ _=>rfl,fun _ _ _ _ _=>rfl,fun _ _ h=>h,fun _ _ h=>.inl h,fun _ _ _ h e=>⟨h,e⟩⟩
 have hS':SR X g S {w with drawn:=w.drawn+1}:=⟨fun id b hb=>by
  obtain⟨cs,us,t,h1,h2,h3,h4⟩:=hS.obj id b hb;exact⟨cs,us,t,h1,h2,h3,fun j c u e1 e2=>(h4 j c u e1 e2).mono hle⟩,hS.inj,hS.objpub,hS.arr,hS.asz,hS.lt,hS.maps.of (fun _ _ h=>h) (fun _ _ _=>rfl) (fun _ _ _=>rfl) (fun c u r=>r.mono hle) (fun _ _ _=>⟨rfl,rfl⟩) (fun _ _ _ _ h=>h),hS.gl.le hle⟩
 generalize ({w with drawn:=w.drawn+1}:World)=wd at hw hle hS';have hsz:ops.size=qA.length+(1+((⟨some old,.extract 0 (.tmp d2),none⟩::(B++[⟨some ts',.extract 1 (.tmp d2),none⟩]):List aA).length+(1+0))):=by rw[←hlen,hAl];simp only[bE,ak,cP];omega
 refine(congrArg (fun N=>wpAny X.P .any ops Q N (Array.replicate ops.size false) a wd) hsz).mpr ?_;refine Oh hty hM hC (hi:=i) hcA (by omega) hback hb1 ⟨by simp,fun j hj=>absurd hj (Nat.not_lt_zero j),fun j _ hj=>by simp[Array.getD,hj]⟩ hS' (hF.mono hle) hpA (fun g1 w1 a1 l1 hle1 hS1 hF1 hu1=>?_);have hrd:=yQ hback hb1 hu1;have hi1:=(mT hb1).1;refine yR (fun hr=>by have:=(hrd i).2 rfl;rw[hr]at this;cases this) (fun j hj=>?_);obtain rfl:=(hrd j).1 hj;unfold wpOp;simp only[hom];have want:∀y,Region.wanted om y=true:=fun y=>by simp[Region.wanted,c2]
 rw[if_pos (want _)];left;have rx:=af hF1 c11;rw[jM,t1]at rx;have rk:=af hF1 c12;rw[jM]at rk;generalize hxu:a1.eval xo=u at rx;generalize hku:a1.eval ko=uk at rk
 cases rx with
 |map _ b hb=>
  obtain⟨cs',es,clock,m1,m2,m3,m4⟩:=hS1.maps.ent id1 b hb;rw[t2]at m1;cases m1;obtain⟨v0,m,es1,clock1,jj,ee,r1,r2,r3,r4,r5,r6,r7⟩:=Yg hS1 c9 c10 rk m2 m3 m4 t3 t4 t5;have hnf:=mV hS1 hb t2 t5;obtain⟨hleA,hSA⟩:=mX hS1 hb m2 r3 (aL.1 t2).1 r4 hnf;have hlt1:id1<S0.objs.length:=(aL.1 t2).1;have hlenp:(ci (fr0 ka) ((cL (fr0 ka) cs).getD z) cs).length%2=0:=Oe t5;obtain⟨hleM,hSM⟩:=OZ hSA (bm:=b) hb (cs:=ci (fr0 ka) ((cL (fr0 ka) cs).getD z) cs) (by simp[hlt1]) hlenp
  have hSM':SR X {g1 with mfz:=fun b'=>b'==b||g1.mfz b'} {S0 with objs:=S0.objs.set id1 (ci (fr0 ka) ((cL (fr0 ka) cs).getD z) cs++[.und])} {w1 with heap:=w1.heap.setIfInBounds b (.map es1 clock1)}:=by
   have e:dM id1 (ci (fr0 ka) ((cL (fr0 ka) cs).getD z) cs++[.und]) {S0 with objs:=S0.objs.set id1 (ci (fr0 ka) ((cL (fr0 ka) cs).getD z) cs)} = {S0 with objs:=S0.objs.set id1 (ci (fr0 ka) ((cL (fr0 ka) cs).getD z) cs++[.und])}:=by
    simp[dM]
   rw[←e];exact hSM
  have hle2:=hleA.trans hleM
  have hF2:=(hF1.mono hle2).put (d:=some d2) (fun t e=>by cases e;exact c8) (v:=.tup [(cL (fr0 ka) cs).getD z,.int .i64 (m:Nat)]) (u:=.tuple #[v0,goInt (m:Nat)]) (.tup _ _ rfl (fun j c u q1 q2=>by
   match j with
   |0=>simp at q1 q2;subst q1 q2;exact r2.mono hle2
   |1=>simp at q1 q2;subst q1 q2;exact .int _ _
   |j+2=>simp at q1))
  have xm:(execOp a1.eval om).run X.P w1=.ok (.value (.tuple #[v0,goInt (m:Nat)])) {w1 with heap:=w1.heap.setIfInBounds b (.map es1 clock1)}:=by
   cases om with
   |mk dst op ty pos after guard=>
    simp only at e2;subst e2;simp[execOp,hxu,hku,r1]
  unfold Oper.wp;rw[xm,Oper.upon_value,e5];obtain⟨frR,p1,p2,p3,p4,p5,p6,p7⟩:=t6 (m:Nat);have hu2:=hu1.step hi1;refine Oh hty hM hC (hi:=ops.size-1) hcM (by simp only[bE,ak,cP]at hlen ⊢;omega) hback hb2 hu2 hSM' hF2 p1 (fun g3 w3 a3 l3 hle3 hS3 hF3 hu3=>?_);have hrd3:=yQ hback hb2 hu3;have hi3:=(mT hb2).1;refine yR (fun hr=>by have:=(hrd3 _).2 rfl;rw[hr]at this;cases this) (fun j hj=>?_);obtain rfl:=(hrd3 j).1 hj;unfold wpOp;simp only[hos];have want3:∀y,Region.wanted os y=true:=fun y=>by simp[Region.wanted,c3]
  rw[if_pos (want3 _)];left;obtain⟨f1,f2⟩:=hle3.mf b es1 clock1 (by simp) (by simp[(bc.1 m2).1])
  have hFr:FR X n g3 w3 fr' a3:=⟨hF3.size,fun t=>by
   have r:=hF3.at_ t;by_cases q1:t=d2
   ·subst q1;rw[p4]at r;rw[p5];exact Yj r
   ·by_cases q2:t=ts'
    ·subst q2;rw[p6];exact .und _
    ·rw[p7 t q1 q2];exact r,hF3.defers⟩
  have rx3:=af hFr c13;rw[jM,t7]at rx3;have rv3:=af hFr c14;have rs3:=hF3.at_ ts';rw[p2]at rs3;have hid3:g3.mp id1=some b:=hle3.mp id1 b hb;generalize hxu3:a3.eval xo2=u3 at rx3;generalize hvu3:a3.eval vo=uv at rv3;generalize hsu3:a3.tmps.getD ts' undef=us3 at rs3
  cases rx3 with
  |map _ b3 hb3=>
   rw[hid3]at hb3;cases hb3;cases rs3;obtain⟨cs3,es3,clock3,n1,n2,n3,n4⟩:=hS3.maps.ent id1 b hid3;rw[t8]at n1;cases n1;rw[f2]at n2;cases n2;have hmr:=Yi n4 t11;have hSu:=Oa hS3 hid3 f2 hmr;obtain⟨kt,et,hu,hkq⟩:=sk c9;have hq:=hle2.trans hle3;have hev2:cs2.dropLast.length%2=0:=by simp only[List.length_dropLast];omega
   obtain⟨es2,x1,x2,x3⟩:=Yh (t:=ut) hSu hkq ((rk.mono hq).mfz _) (rv3.mfz _) f2 r3 (hmr.imp fun c u r=>r.mfz _) (Of t9) (Og t10) hev2 r5 r6 r7;have hlt3:id1<S2.objs.length:=(aL.1 t8).1;obtain⟨hleB,hSB⟩:=mX hSu (id:=id1) (b:=b) hid3 f2 x2 (by simp[dM];exact hlt3) x3 (by simp)
   have hSB':SR X {g3 with mfz:=fun b'=>b' != b&&g3.mfz b'} S' {w3 with heap:=w3.heap.setIfInBounds b (.map es2 clock1)}:=by
    have e:({dM id1 cs2.dropLast S2 with objs:=(dM id1 cs2.dropLast S2).objs.set id1 (ci (fr0 ka) (ev fr' v) cs2.dropLast)}:St)=S':=by
     rw[t12];simp[dM]
    rw[←e];exact hSB
   have xs:(execOp a3.eval os).run X.P w3=.ok .skip {w3 with heap:=w3.heap.setIfInBounds b (.map es2 clock1)}:=by
    cases os with
    |mk dst op ty pos after guard=>
     simp only at e4;subst e4;have hts:a3.eval (.tmp ts')=goInt (m:Nat):=hsu3;simp[execOp,hxu3,hvu3,hts,x1]
   unfold Oper.wp;rw[xs,Oper.upon_skip];have hdst:os.dst=none:=by simpa using c6
   rw[hdst];have hu4:=hu3.step hi3;refine⟨?_,?_⟩
   ·rw[List.eq_nil_iff_forall_not_mem];intro j hj;obtain⟨h1,h2,_⟩:=dw.1 hj;rw[hu4.2.1 j (by omega)]at h2;cases h2
   ·exact hQ _ _ _ (hw (hle1.trans ((Ye hq hnf).trans hleB))) hSB' (FR.mono hleB ⟨hFr.size,fun t=>(hFr.at_ t).mfz _,hFr.defers⟩)
end
end Ps
