/- A library's function that is given by what it answers: maps.Clone; slices.Sorted over maps.Keys. -/
import Derived.Test.YtpjmpaidcidjgaaGreatDoorAbbKt
import Derived.Test.YtpjmpaidcidjgaaGreatDoorSimPKt
import Derived.Test.YtpjmpaidcidjgaaGreatDoorGoKt
import Derived.ChangeSame
import GoSem.Extern.Table
import Derived.Test.YtpjmpaidcidjgaaGreatDoorSimMpKt
import Derived.Sort.KeysCollected
import Derived.Shelf.SlMaps.Clone
namespace Ps
open Go
def gU{α:Type}:List (Nat×α)→Nat→Option α
 | [],_=>none
 |(k,v)::l,n=>if k=n then some v else gU l n
def wx(l:List (Nat×Nat))(d:Nat)(k:Nat):Nat:=(gU l k).getD d
def pQ(l:List (Nat×Nat))(k:Nat):Nat:=match gU l k with|some v=>v|none=>k+1000000
def Mn(l:List (Nat×String))(k:Nat):String:=(gU l k).getD "-"
def rj:List (Nat×Nat×Nat)→Nat→Nat→Option Nat
 | [],_,_=>none
 |(t,m,f)::l,a,b=>if t=a∧m=b then some f else rj l a b
def nR:List (Nat×Nat)→Bool
 | []=>true
 |(_,v)::l=>decide (v<1000000)&&l.all (fun q=>q.2 != v)&&nR l
theorem nS{α:Type}:∀{l:List (Nat×α)} {k:Nat} {v:α},gU l k=some v→(k,v)∈l
 | [],_,_,h=>by cases h
 |(a,b)::l,k,v,h=>by
  simp only[gU]at h;split at h
  ·rename_i e;cases h;subst e;simp
  ·exact List.mem_cons_of_mem _ (nS h)
theorem wy:∀{l:List (Nat×Nat)},nR l=true→∀q∈l,q.2<1000000
 | [],_,q,hq=>by simp at hq
 |(a,b)::l,h,q,hq=>by
  simp only[nR,aI,decide_eq_true_eq]at h;rcases cY.1 hq with rfl|hq
  ·exact h.1.1
  ·exact wy h.2 q hq
theorem Mo:∀{l:List (Nat×Nat)},nR l=true→∀{a b v:Nat},gU l a=some v→gU l b=some v→a=b
 | [],_,a,b,v,h,_=>by cases h
 |(k,x)::l,h,a,b,v,ha,hb=>by
  simp only[nR,aI,decide_eq_true_eq,List.all_eq_true,bne_iff_ne,ne_eq]at h;simp only[gU]at ha hb;split at ha
  ·rename_i e;cases ha;split at hb
   ·rename_i e2;omega
   ·exact absurd rfl (h.1.2 (b,x) (nS hb))
  ·split at hb
   ·cases hb;exact absurd rfl (h.1.2 (a,x) (nS ha))
   ·exact Mo h.2 ha hb
theorem VH{l:List (Nat×Nat)}(h:nR l=true)(a b:Nat)(e:pQ l a=pQ l b):a=b:=by
 unfold pQ at e
 cases ha:gU l a with
 |none=>
  cases hb:gU l b with
  |none=>rw[ha,hb]at e;simp only at e;omega
  |some v=>
   rw[ha,hb]at e;simp only at e;have:=wy h _ (nS hb)
   simp only at this;omega
 |some u=>
  have hu:=wy h _ (nS ha)
  cases hb:gU l b with
  |none=>rw[ha,hb]at e;simp only at e hu;omega
  |some v=>
   rw[ha,hb]at e;simp only at e;subst e;exact Mo h ha hb
def rl(P:Program)(t:TypeId)(m:String)(f:FuncId):Bool:=
 match P.info? t with
 |some i=>(match i.methods.find? (·.name==m)with
  |some r=>r.path.isEmpty&&(match r.func with
   |some (g,b)=>g==f&&(match P.underlying t with|some (.pointer _)=>b|some _=>!b|none=>false)
   |none=>false)
  |none=>false)
 |none=>false
theorem VI{P:Program}{t:TypeId}{m:String}{f:FuncId}(h:rl P t m f=true)(n:Nat)(u:Value)(w:World):(Go.method (n+1) t u m).run P w=.ok (f,u) w:=by
 unfold rl at h;split at h
 ·rename_i i hi;split at h
  ·rename_i r hr;simp only[aI]at h;obtain⟨hp,h⟩:=h;split at h
   ·rename_i gf b hf;simp only[aI,beq_iff_eq]at h;obtain⟨rfl,h⟩:=h
    have hpath:r.path.toList=[]:=by
     rw[Array.isEmpty_iff]at hp;rw[hp]
    split at h
    ·rename_i e hu;subst h;simp[Go.method,typeInfo,hi,hr,hpath,Go.follow,hf,receiverAt,run_underlying hu,Place.get]
    ·rename_i d hne hu;have hb:b=false:=by simpa using h
     subst hb;simp only[Go.method,typeInfo,Sem.run_bind];simp[hi,hr,hpath,Go.follow,hf,receiverAt,run_underlying hu];cases d<;>first|rfl|(simp[Place.get];done)|exact absurd rfl (hne _)
    ·cases h
   ·cases h
  ·cases h
 ·cases h
theorem Mp{P:Program}{ty:Nat→TypeId}{mn:Nat→String}{fnOf:Nat→FuncId}:∀{l:List (Nat×Nat×Nat)},l.all (fun q=>rl P (ty q.1) (mn q.2.1) (fnOf q.2.2))=true →
  ∀(t m f:Nat),rj l t m=some f→rl P (ty t) (mn m) (fnOf f)=true
 | [],_,_,_,_,h=>by cases h
 |(a,b,c)::l,h,t,m,f,e=>by
  simp only[zJ,aI]at h;simp only[rj]at e;split at e
  ·rename_i q;cases e;obtain⟨rfl,rfl⟩:=q;exact h.1
  ·exact Mp h.2 t m f e
def nT(w w':World):Prop:=w'.os=w.os∧w'.output=w.output∧w.heap.size≤w'.heap.size∧∀b,b<w.heap.size→w'.heap[b]?=w.heap[b]?
theorem Mq{p:Nat→Nat}{g:Gh}{w w':World}(h:Le (bN p) w g w'):nT w w':=
 ⟨h.os,h.output,h.size,fun b hb=>h.keep b hb (fun id e=>absurd e (by simp[bN])) rfl (fun id e=>absurd e (by simp[bN]))⟩
theorem ly{X:Tie}(hX:bY X):cW X (aS X.T):=by
 intro f args S r S' h;obtain⟨k,hk⟩:=jq.1 h;exact qI hX k f args S r S' hk
theorem VJ{X:Tie}(hX:bY X){f:Nat}{fn:Func}(hfn:X.P.funcs[X.fnOf f]?=some fn)(hname:fn.name ≠ "runtime.NumGoroutine") (hbody0:fn.body.isSome=true)
  {args:List PV}{S':St}(h:aS X.T f args bF=some (.bool true,S')){p:Nat→Nat}{w:World}(hp:∀b,w.heap.size≤b→p b=0)(hg:hZ X (bN p) w){us:Array Value}(hV:bD X (bN p) w args us) :
  Calls X.P (X.fnOf f) us w fun e w'=>e=.returned (.bool true)∧nT w w':=by
 obtain⟨c,hbody⟩:=oT.1 hbody0
 have h1:=ly hX f args bF _ S' h (bN p) w us (pq hp hg) hV (Oper.mk (some 0) (.move (.const undef)) 0 "" #[] none) {tmps:=#[undef],defers:=[]}
  (fun a w'=>a.tmps.getD 0 undef=.bool true∧nT w w') (fun _ _ _=>False) (fun u w' hst=>by
   obtain⟨g',hle,_,hr⟩:=hst;cases hr;exact⟨rfl,Mq hle⟩)
 rw[iW hfn hname hbody,Oper.upon_enter]at h1;refine h1.mono fun e w' he=>?_
 cases e with
 |returned v=>exact⟨by rw[show v=.bool true from he.1],he.2⟩
 |panicked ch=>exact absurd he id
 |outgrown=>obtain⟨a,w2,h2⟩:=he;exact absurd h2 id
end Ps
namespace Ps
open Go Go.ChangeShapes Go.WideShapes
variable {H : Type} {enc : TypeId × Value → H} {P : Program}
theorem Mr{f:Func}{s:ChangeSpec}{apart fresh handsOn again:Bool}{W W':World}{args:Array Value}{v:Value}{ds gs:List (DataW H)}{before pa pv:List MemPlace}
  (hW:DataW.Whole enc P f.params.toList s.vars apart W args.toList ds gs before)
  (hres:∀(b:Nat)(sp:Nat→Bool)(hd:Bool),DataW.TrodAll enc P W' b sp hd f.resultTypes.toList (v.resultList f.resultTypes.size) (s.fn H (ds++gs)).results [])
  (hargs:∀sp:Nat→Bool,(∀p∈before,sp p.block=true)→DataW.TrodAll enc P W' 0 sp true f.params.toList args.toList (s.fn H (ds++gs)).args pa)
  (hvars:∀sp:Nat→Bool,(∀p∈before,sp p.block=true)→DataW.TrodVars enc P W' sp s.vars (s.fn H (ds++gs)).vars pv)
  (hps:before=pa++pv)(hk:nT W W')
  (hok:∀(j:Nat)(t:TypeId)(r:Value),f.resultTypes[j]?=some t→(v.resultList f.resultTypes.size)[j]?=some r→Value.okWide P W' .any 0 t r) :
  s.post enc P f apart fresh handsOn again W args v W':=by
 have hlt:=hW.lt;have hold:∀p∈before,(fun b=>decide (b<W.heap.size)) p.block=true:=fun p hp=>by simpa using hlt p hp
 have hkb:W.keptBut W' (· ∈ before):=by
  refine⟨hk.1,hk.2.1,fun i hi=>?_⟩;rw[hk.2.2.2 i hi]
  cases h:W.heap[i]? with
  |none=>rfl
  |some o=>cases o<;>first|exact⟨rfl,rfl,rfl,fun _ _=>rfl⟩|exact .inr ⟨rfl,rfl⟩|rfl
 refine⟨ds,gs,before,[],pa,pv,hW,hres _ _ _,hargs _ hold,hvars _ hold,World.keptBut_mono (fun p hp=>⟨hp,?_⟩) hkb,fun _=>?_⟩
 ·rw[hps,bn]at hp;exact Or.inr hp
 ·obtain⟨_,_,_,_,_,hz,hn⟩:=hW;refine⟨hok,_,_,([]++pa)++pv,⟨[]++pa,pv,trodAll_append (hargs _ (fun _ _=>rfl)) (hres _ _ _),hvars _ (fun _ _=>rfl),rfl,?_,?_⟩,?_⟩
  ·intro b off hp;have hb:=hlt (.cell b off) (by rw[hps];simpa using hp)
   have:W'.frozen? ⟨b,off,none⟩=W.frozen? ⟨b,off,none⟩:=by
    simp only[World.frozen?];rw[hk.2.2.2 b (by simpa[MemPlace.block]using hb)]
   rw[this];exact hz b off (by rw[hps];simpa using hp)
  ·intro ha;have:=hn ha;rw[hps]at this;simpa using this
  ·intro p hp _;rw[hps];simpa using hp
end Ps
set_option linter.defProp false
namespace Ps
open Go
section
variable {X : Tie} {g : Gh} {w w' : World} {S : St}
def Nn{f:FuncId}{fn:Func}(hfn:X.P.funcs[f]?=some fn)(hname:fn.name ≠ "runtime.NumGoroutine") (hbody0:fn.body.isSome=true) {us:Array Value} {K:Value→World→Prop}
  (h:Calls X.P f us w fun e w'=>∃v,e=.returned v∧K v w'):mP X f us w K:=by
 obtain⟨c,hbody⟩:=oT.1 hbody0;intro o a next Q hn
 rw[iW hfn hname hbody,Oper.upon_enter];refine h.mono fun e w' he=>?_;obtain⟨v,rfl,hk⟩:=he;exact hn v w' hk
end
end Ps
namespace Ps
open Go Go.RowKit Go.Maps
open Go.Proofs (encStr)
def lw:List PV→Option (List (List UInt8))
 | []=>some []
 |.str k::_::r=>(match lw r with|some l=>some (k::l)|none=>none)
 |_=>none
def aGh:List PV→St→Option (PV×St)
 | [.map id],S=>(match S.objs[id]? with
  |some cs=>some (.map S.objs.length,{S with objs:=S.objs++[cs]})
  |none=>none)
 |_,_=>none
def nO(gk:Nat):List PV→St→Option (PV×St)
 | [.fn f [.ptr i 0]],S=>if f=gk then(match S.objs[i]? with
  |some [.map m]=>(match S.objs[m]? with
   |some cs=>(match lw cs with
    |some ks=>if ks.length≤1048576∧ks.all (fun k=>decide (k.length≤maxLen))=true then
      some (if ks.isEmpty then .nils else .sl none ((ks.mergeSort leB).map .str) [],S)else none
    |none=>none)
   |none=>none)
  |_=>none)else none
 |_,_=>none
section
variable {X : Tie} {g : Gh} {w w' : World} {S : St}
theorem Mf:∀{l:List PV},(∀e∈l,e.cells=[e])→l.flatMap PV.cells=l
 | [],_=>rfl
 |e::l,h=>by rw[dB,h e (by simp),Mf (fun x hx=>h x (by simp[hx]))];rfl
theorem Uu(hS:SR X g S w)(hb:Below w.heap.size w w'){b0 cap:Nat}{us:Array Value}{t:TypeId}{es:List PV}(hge:w.heap.size≤b0)(hblk:w'.heap[b0]?=some (.cells us t (0,0)))
  (hone:∀e∈es,e.cells=[e]∧e.one=true)(hcap:es.length≤cap)(hv:∀(j:Nat)(c:PV),es[j]?=some c→∃u,us[j]?=some u∧VR X g w c u) :
  bu X g w S (.sl none es []) (.slice (some ⟨b0,0,none⟩) es.length cap) w':=by
 have hle0:=me hS hb;let g':Gh:={g with pub:=fun b=>if b=b0 then es.length else g.pub b};have hp0:g.pub b0=0:=(hS.lt b0 hge).1;have hnlt:∀b,b<w.heap.size→b≠b0:=fun b h e=>by omega
 have hle:Le g w g' w':={
  os:=hle0.os,tape:=hle0.tape,output:=hle0.output,size:=hle0.size
  obj:=fun _ _ h=>h,arr:=fun _ _ h=>h,asz:=fun _ _ h=>h
  pub:=fun b=>by
   simp only[g'];split
   ·rename_i e;rw[e,hp0];exact bh _
   ·exact aR _
  cell:=hle0.cell
  shape:=hle0.shape
  objN:=fun id _ h=>.inl ⟨id,h⟩,arrN:=fun _ _ h=>.inl h
  keep:=hle0.keep
  pubN:=fun b hb _ _ _=>by simp only[g'];rw[if_neg (hnlt b hb)]
  mp:=fun _ _ h=>h,mpN:=fun _ _ h=>.inl h,mf:=hle0.mf}
 have hS':=tH hS hb
 refine⟨g',hle,⟨fun i b h=>?_,hS.inj,fun i b h=>?_,fun b id base h=>?_,hS.asz,fun b hb'=>?_,
  hS.maps.of (fun _ _ h=>h) (fun _ _ _=>rfl) (fun i b e=>hb.block b (hS.maps.lt e)) (fun c u r=>r.mono hle) (fun i b e=>⟨by simp only[g'];rw[if_neg (hnlt b (hS.maps.lt e))],rfl⟩) (fun _ _ _ _ h=>h),hS.gl.le hle⟩,?_⟩
 ·obtain⟨cs',us',t',h1,h2,h3,h4⟩:=hS.obj i b h;exact⟨cs',us',t',h1,by rw[hb.block b (fi hS i b h)];exact h2,h3,fun j c u e1 e2=>(h4 j c u e1 e2).mono hle⟩
 ·have:=fi hS i b h;exact⟨fun hl=>by simp only[g'];rw[if_neg (hnlt b this)];exact(hS.objpub i b h).1 hl,(hS.objpub i b h).2⟩
 ·have hne:b≠b0:=fun e=>by
   have:=(hS.lt b (by omega)).2;rw[show g.arr b=some (id,base)from h]at this;cases this
  obtain⟨sz',tip,h1,h2,h3,h4⟩:=hS.arr b id base h;exact⟨sz',tip,h1,h2,h3,by simp only[g'];rw[if_neg hne];exact h4⟩
 ·have hlt0:b0<w'.heap.size:=(bc.1 hblk).1;have:=hS.lt b (Nat.le_trans hb.size hb');exact⟨by simp only[g'];rw[if_neg (by omega)];exact this.1,this.2⟩
 ·have hflat:es.flatMap PV.cells=es:=Mf (fun e he=>(hone e he).1);refine .sl none es [] b0 0 cap 1 (fun j=>us.getD j undef) (by simpa using hcap) (by decide) (fun e he=>?_) (by simp[g']) ?_ ?_ ?_ (fun e he=>?_)
  ·rw[dn]at he;rw[(hone e he).1];rfl
  ·intro j hj;simp only[cP,eo,mt]at hj;obtain⟨u,h1,_⟩:=hv j _ (bK hj);have hj':j<us.size:=(bc.1 h1).1;simp[World.cell?,hblk,hj',Array.getD]
  ·intro j c hc;rw[dn,hflat]at hc;obtain⟨u,h1,h2⟩:=hv j c hc;have:us.getD j undef=u:=by simp[eG,h1]
   rw[this];exact h2.mono hle
  ·intro i e' ht _;cases ht
  ·rw[dn]at he;rw[(hone e he).1];simp[(hone e he).2]
theorem Uv{a:PV}{us:Array Value}(hV:bD X g w [a] us):∃x,us = #[x]∧VR X g w a x:=by
 have h2:us.size=1:=hV.1.symm;refine⟨us[0],?_,hV.2 0 a us[0] rfl (dy (by omega))⟩;apply tQ
 ·simp[h2]
 ·intro i hi1 hi2;simp at hi2
  match i with
  |0=>rfl
theorem Uw{cs:List PV}{es:List MapEntry}(h:MR X g w cs es):∀ks,lw cs=some ks→es.map (·.key)=ks.map encStr:=by
 induction h with
 |nil=>intro ks h;cases h;rfl
 |mark=>intro ks h;simp[lw]at h
 |cons k v cs e es hk hkk hv _ ih=>
  intro ks h;cases k<;>simp only[lw]at h<;>try (cases h;done)
  rename_i s;split at h
  ·rename_i l hl;cases h
   cases e with
   |mk key val born=>
    simp only at hk;cases hk;rw[cB,cB,ih l hl]
  ·cases h
def lx:Value→Option (DataW Unit×List MemPlace):=fun _=>some (.nil,[])
theorem Mg{P:Program}{k:TypeId}(hk:P.underlying k=some .string){e:MapEntry}{s:List UInt8}(he:e.key=encStr s)(hs:s.length≤maxLen):WideElems.rd P k lx e=some (.string s,.nil):=by
 have hz:(ByteArray.mk s.toArray).size=s.length:=by simp[ByteArray.size]
 simp[WideElems.rd,he,encStr,keyOf,hk,mapKey,hs,lx,hz]
theorem Ux{P:Program}{k:TypeId}(hk:P.underlying k=some .string){w:World}{b:Nat}{es:Array MapEntry}{clock:Nat}(hb:w.heap[b]?=some (.map es clock))(hst:MapKept.Stamped es clock)
  {ks:List (List UInt8)}(hks:es.toList.map (·.key)=ks.map encStr)(hlen:ks.length≤1048576)(hall:∀s∈ks,s.length≤maxLen) :
  ∃D:DataW Unit,w.ownsMap P k lx b es.size D∧Maps.size D=ks.length∧(strKeys D).Perm ks:=by
 have hsz:es.size=ks.length:=by
  have:=congrArg List.length hks;simpa using this
 have hmem:∀x∈es.toList,∃s∈ks,x.key=encStr s:=by
  intro x hx;have:x.key∈es.toList.map (·.key):=List.mem_map.2 ⟨x,hx,rfl⟩;rw[hks]at this;obtain⟨s,h1,h2⟩:=List.mem_map.1 this;exact⟨s,h1,h2.symm⟩
 have hrg:es.toList.map (WideElems.rg P k lx)=ks.map fun s=>((.string s:Lit),(.nil:DataW Unit)):=by
  have:∀(l:List MapEntry) (ks:List (List UInt8)),l.map (·.key)=ks.map encStr→(∀s∈ks,s.length≤maxLen)→l.map (WideElems.rg P k lx)=ks.map fun s=>((.string s:Lit),(.nil:DataW Unit)):=by
   intro l
   induction l with
   |nil=>intro ks h _;cases ks with
    |nil=>rfl
    |cons=>simp at h
   |cons x l ih=>
    intro ks h ha
    cases ks with
    |nil=>simp at h
    |cons s ks=>
     simp only[cB,zK]at h;rw[cB,cB,ih ks h.2 (fun s hs=>ha s (by simp[hs]))];rw[WideElems.rg_of (Mg hk h.1 (ha s (by simp)))]
  exact this _ _ hks hall
 refine⟨_,⟨es,clock,hb,⟨?_,hst,fun x hx=>?_⟩,aR _,rfl⟩,?_,?_⟩
 ·rw[hsz];exact Nat.le_trans hlen (by decide)
 ·obtain⟨s,h1,h2⟩:=hmem x hx;exact⟨_,Mg hk h2 (hall s h1)⟩
 ·rw[hrg,Maps.size];rw[(WideShapes.sorted_perm _).length_eq];simp
 ·rw[hrg];simp only[strKeys];have:=(WideShapes.sorted_perm (ks.map fun s=>((.string s:Lit),(.nil:DataW Unit)))).map (fun p=>strOf p.1);refine this.trans ?_;rw[tg];have:((fun p:Lit×DataW Unit=>strOf p.1)∘fun s=>((.string s:Lit),(.nil:DataW Unit)))=id:=rfl;rw[this,tf]
theorem Uy{f gk:Nat}{fn:Func}{k:TypeId}(hk:X.P.underlying k=some .string)(hfn:X.P.funcs[X.fnOf f]?=some fn)(hname:fn.name ≠ "runtime.NumGoroutine") (hbody:fn.body.isSome=true)
  (hsorted:∀(bx b nn:Nat)(D0:DataW Unit)(w:World),bx<w.heap.size→w.cell? ⟨bx,0,none⟩=some (.map (some b))→w.ownsMap X.P k lx b nn D0→Maps.size D0≤1048576 →
   Calls X.P (X.fnOf f) #[.func (.func (X.fnOf gk)) #[] #[.pointer (some ⟨bx,0,none⟩)]] w fun e w'=>∃(v:Value) (ss:List (List UInt8)),e=.returned v∧ss.Perm (strKeys D0) ∧
    w'.ownsRow w.heap.size k 1 v ss.length ((ss.mergeSort (fun x y=>decide (x≤y))).map encStr)∧(v=.slice none 0 0↔ss=[])∧Below w.heap.size w w') :
  oB X f (nO gk):=by
 intro args S r S' h g w us hS hV;unfold nO at h;split at h
 ·rename_i f' i;split at h
  ·rename_i hf;subst hf;split at h
   ·rename_i m hbox;split at h
    ·rename_i cs hcs;split at h
     ·rename_i ks hks;split at h
      ·rename_i hb;obtain⟨hlen,hall⟩:=hb;have hall:∀s∈ks,s.length≤maxLen:=fun s hs=>by simpa using List.all_eq_true.1 hall s hs
       cases h;obtain⟨x,rfl,hx⟩:=Uv hV;cases hx;rename_i cus hcl hcv;have hcl:cus.size=1:=hcl.symm;have hp:=hcv 0 _ cus[0] rfl (dy (by omega))
       have hcus:cus = #[cus[0]]:=by
        apply tQ
        ·simp[hcl]
        ·intro j h1 h2;simp at h2;subst h2;rfl
       generalize cus[0]=p at hp hcus;subst hcus;cases hp;rename_i bx hbx _;obtain⟨cs1,us1,t1,k1,⟨_,k2,_⟩,k3,k4⟩:=hS.obj _ _ hbx;rw[hbox]at k1;cases k1;have k3:0<us1.size:=k3;have hm:=k4 0 _ us1[0] rfl (dy (by omega));have hcell:w.cell? ⟨bx,0,none⟩=some us1[0]:=by simp[World.cell?,k2,k3]
       generalize us1[0]=um at hm hcell;cases hm;rename_i b hb;obtain⟨cs',es,clock,h1,h2,h3,h4⟩:=hS.maps.ent m b hb;rw[hcs]at h1;cases h1;obtain⟨D,d1,d2,d3⟩:=Ux (P:=X.P) (k:=k) hk h2 h3 (Uw h4 ks hks) hlen hall;refine Nn hfn hname hbody ((hsorted bx b _ D w (bc.1 k2).1 hcell d1 (by rw[d2];exact hlen)).mono fun e w' he=>?_);obtain⟨v,ss,rfl,e1,e2,e3,e4⟩:=he;have hperm:ss.Perm ks:=e1.trans d3;have hms:ss.mergeSort (fun x y=>decide (x≤y))=ks.mergeSort leB:=mergeSort_of_perm hperm;refine⟨v,rfl,?_⟩;rw[hms]at e2
       cases ks with
       |nil=>
        have:ss=[]:=List.Perm.eq_nil hperm;rw[e3.2 this]
        exact⟨g,me hS e4,tH hS e4,.nils⟩
       |cons k0 kr=>
        have hsne:ss≠[]:=fun e=>by rw[e]at hperm;have:=hperm.length_eq;simp at this
        have hlen2:ss.length=(((k0::kr).mergeSort leB).map PV.str).length:=by rw[dN,zR,hperm.length_eq]
        rcases e2.2 with⟨n1,_⟩|⟨g0,cap,cur,rfl,q1,q2,q3,q4,q5,q6⟩
        ·exact absurd (e3.1 n1) hsne
        ·rw[hlen2];rw[hlen2]at q3 q6;simp only[qf,bg,if_false];refine Uu hS e4 q1 q2 (fun e he=>?_) q3 (fun j c hc=>?_)
         ·obtain⟨s,_,rfl⟩:=List.mem_map.1 he;exact⟨rfl,rfl⟩
         ·rw[fk]at hc
          cases hs:((k0::kr).mergeSort leB)[j]? with
          |none=>rw[hs]at hc;cases hc
          |some s=>
           rw[hs]at hc;cases hc;refine⟨encStr s,?_,.str s⟩;have hjl:j<((k0::kr).mergeSort leB).length:=(aL.1 hs).1;have:(cur.toList.take ((((k0::kr).mergeSort leB).map PV.str).length*1))[j]?=some (encStr s):=by rw[q6,fk,hs];rfl
           rw[cT (by simpa using hjl)]at this;simpa using this
      ·cases h
     ·cases h
    ·cases h
   ·cases h
  ·cases h
 ·cases h
end
end Ps
