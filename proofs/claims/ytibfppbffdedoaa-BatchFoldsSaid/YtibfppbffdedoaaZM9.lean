/- Texts of the proof, joined. -/
import Derived.Deep.Slices
import Derived.Test.YtibfppbffdedoaaZM8
set_option linter.unusedSectionVars false
set_option linter.unusedSimpArgs false
set_option linter.unusedVariables false
set_option maxRecDepth 100000
namespace Go.Proofs.Ytibfppbffdedoaa
open Go.ChangeShapes Go.WideShapes Go.ChangeAt Go.RowKit
theorem rq {H:Type} {enc:TypeId × Value->H} {P:Program} {W:World} {base:Nat} {sp:Nat->Bool} {hd:Bool} {e q:TypeId} {n b:Nat} {a:Addr} {cs:List Value} {x:DataW H × List MemPlace}
  (he:P.underlying e=some (.array 4 q)) (hq:P.underlying q=some (.int .u64)) (cq:P.cellsOf q=1) (hc:W.cells? b a 4=some cs) (h:DataW.trod enc P W base sp hd n e cs=some x) :
  ∃ y:Fr,∀ (j:Nat) (u:Value),((RK.fr.cs y).map (gc β0))[j]? = some u->W.cell? (a.add j)=some u:=by
 obtain ⟨_,hlen,hcell⟩:=World.cells?_some hc
 obtain ⟨xs,m,_,_,_,hxl,hx⟩:=DataW.trod_array he h
 have word : ∀ i,i<4 -> ∃ y:UInt64,cs[i]? = some (gc β0 (.u64 y)):=by
  intro i hi
  have hi2:i<cs.length:=by omega
  have h1:=hx i hi
  rw [cq,Nat.mul_one,List.getElem?_eq_getElem (by omega)] at h1
  obtain ⟨z,e1,_,e3⟩:=DataW.trod_int hq h1
  have e4:cs[i]? = some (.int .u64 z):=by
   have:=congrArg (fun l=>l[0]?) e1
   simp only [List.getElem?_take,List.getElem?_drop] at this
   simpa using this
  exact ⟨UInt64.ofNat z.toNat,by rw [e4];exact congrArg some (PK z e3).symm⟩
 obtain ⟨y0,h0⟩:=word 0 (by omega)
 obtain ⟨y1,h1⟩:=word 1 (by omega)
 obtain ⟨y2,h2⟩:=word 2 (by omega)
 obtain ⟨y3,h3⟩:=word 3 (by omega)
 refine ⟨⟨y0,y1,y2,y3⟩,fun j u hu => ?_⟩
 have hj:j<4:=by
  have:=(List.getElem?_eq_some_iff.1 hu).1
  rw [List.length_map,RK.cs_len] at this
  exact this
 rw [hcell j hj]
 match j,hj with
 | 0,_=>exact h0.trans hu
 | 1,_=>exact h1.trans hu
 | 2,_=>exact h2.trans hu
 | 3,_=>exact h3.trans hu
instance : Inhabited Fr := ⟨⟨0, 0, 0, 0⟩⟩
theorem qt {W:World} {a:Addr} (hs:a.spot=none) {len:Nat} {f:Nat->Fr} (hf : ∀ i,i<len -> ∀ (j:Nat) (u:Value),((RK.fr.cs (f i)).map (gc β0))[j]? = some u->W.cell? ((a.add (i*4)).add j)=some u) :
  ∀ (i:Nat) (u:Value),((ac .fr ((List.range len).map f)).map (gc β0))[i]? = some u->W.cell? (a.add i)=some u:=by
 intro i u hu
 have hl:(ac .fr ((List.range len).map f)).length=len*4:=by rw [aE,List.length_map,List.length_range]
 have hi:i<len*4:=by
  have:=(List.getElem?_eq_some_iff.1 hu).1
  rw [List.length_map,hl] at this
  exact this
 have h1:i / 4<len:=by omega
 have h2:=jL .fr ((List.range len).map f) (i / 4) (i % 4) 1 (by simpa using h1) (by show i % 4+1<=4;omega)
 have e1:i / 4*RK.fr.sz+i % 4=i:=by show i / 4*4+i % 4=i;omega
 rw [e1] at h2
 have e2:((List.range len).map f).getD (i / 4) RK.fr.d=f (i / 4):=by simp [List.getD,h1]
 rw [e2] at h2
 have h3:(ac .fr ((List.range len).map f))[i]? = (RK.fr.cs (f (i / 4)))[i % 4]? := by
  have:=congrArg (fun l=>l[0]?) h2
  simpa [List.getElem?_take,List.getElem?_drop] using this
 rw [List.getElem?_map,h3,<- List.getElem?_map] at hu
 have:=hf (i / 4) h1 (i % 4) u hu
 rw [bi a hs] at this
 rw [show i / 4*4+i % 4=i by omega] at this
 exact this
theorem jT {H:Type} {enc:TypeId × Value->H} {P:Program} {W:World} {base:Nat}
  {ts:List TypeId} {ds:List (DataW H)} {j:Nat} {t e q:TypeId} {v:Value} {d:DataW H} {p:List MemPlace} (hsz:(DataW.weightsEach P ts ds).all (· <= reachBytes)=true) (htj:ts[j]? = some t) (hdj:ds[j]? = some d)
  (ht:P.underlying t=some (.slice e)) (he:P.underlying e=some (.array 4 q)) (hq:P.underlying q=some (.int .u64)) (ce:P.cellsOf e=4) (cq:P.cellsOf q=1) (hb:P.bytesOf e=32)
  (hv:Value.okWide P W .any base t v) (h:DataW.Trod enc P W 0 (fun _=>true) true t v d p) : ∃ xs:List Fr,RwIs .fr W v xs:=by
 have hv:Cell.okWide P W .any base t v:=by
  unfold Value.okWide at hv
  rw [ht] at hv
  exact hv
 have hv:Cell.ok P W .any base t v:=by
  unfold Cell.okWide at hv
  rw [ht] at hv
  exact hv
 unfold Cell.ok at hv
 rw [ht] at hv
 obtain ⟨fuel,hf⟩:=h
 have hcs:v.cells.toList = [v]:=by
  cases v <;> first | rfl | exact hv.elim
 rw [hcs] at hf
 rcases Go.Deep.open_slice ht hf with ⟨e1,_⟩ | ⟨a,len,cap,m,n,D,Pl,e1,_,hlc,hcm,hm,hd,hel⟩
 ·cases e1
  exact ⟨[],none,0,rfl,(by decide:0<1125899906842624),by simp [ac],rfl,rfl⟩
 ·cases e1
  obtain ⟨h1,h2,_,hspot,_⟩:=hv
  simp only [if_true] at hm
  subst hm
  have hd:d = .slice ((List.range len).map D) ((List.range (m-len)).map fun j=>D (len+j)):=congrArg Prod.fst hd
  subst hd
  have hr:=sized_slice hsz htj hdj ht
  simp only [List.length_map,List.length_range,hb] at hr
  have htop:len<aD:=by
   have e2:reachBytes=140737488351232:=by decide
   have e3:aD=1125899906842624:=rfl
   rw [e2] at hr
   rw [e3]
   omega
  rw [ce] at hel
  obtain ⟨f,hf2⟩:=Go.Deep.choose_lt (α:=Fr) (p:=fun i y => ∀ (j:Nat) (u:Value),((RK.fr.cs y).map (gc β0))[j]? = some u->W.cell? ((a.add (i*4)).add j)=some u) (fun i hi=>by
   obtain ⟨cs',c1,c2⟩:=hel i hi
   exact rq he hq cq c1 c2)
  have hlen':((List.range len).map f).length=len:=by simp
  refine ⟨(List.range len).map f,some a,m,by rw [hlen'],by rw [hlen'];exact htop,by rw [List.length_map,aY],fun _=>hspot,by rw [hlen'];exact hlc,fun hne => ?_,qt hspot fun i hi=>hf2 i (by omega)⟩
  rw [hlen'] at hne
  obtain ⟨cs',c1,_⟩:=hel 0 (by omega)
  obtain ⟨_,_,c3⟩:=World.cells?_some c1
  have hcl:0<cs'.length:=by rw [(World.cells?_some c1).2.1];decide
  have c4:=c3 0 (by omega)
  rw [List.getElem?_eq_getElem hcl] at c4
  have:=World.block_lt_of_cell? W _ c4
  rw [block_add,block_add] at this
  exact this
end Go.Proofs.Ytibfppbffdedoaa
set_option maxRecDepth 100000
namespace Go.Proofs.Ytibfppbffdedoaa
open Go.ChangeShapes Go.WideShapes Go.ChangeAt Go.RowKit
theorem Jo (cl:List Cell) (hl:cl.length=8) (h : ∀ (i:Nat) (c:Cell) (k:CK),cl[i]? = some c->(List.replicate 8 CK.u64)[i]? = some k->k.has c) : ∃ a:FF,cl=Row.cs a:=by
 match cl,hl with
 | [c0,c1,c2,c3,c4,c5,c6,c7],_ =>
  obtain ⟨x0,rfl⟩:=h 0 c0 .u64 rfl rfl
  obtain ⟨x1,rfl⟩:=h 1 c1 .u64 rfl rfl
  obtain ⟨x2,rfl⟩:=h 2 c2 .u64 rfl rfl
  obtain ⟨x3,rfl⟩:=h 3 c3 .u64 rfl rfl
  obtain ⟨x4,rfl⟩:=h 4 c4 .u64 rfl rfl
  obtain ⟨x5,rfl⟩:=h 5 c5 .u64 rfl rfl
  obtain ⟨x6,rfl⟩:=h 6 c6 .u64 rfl rfl
  obtain ⟨x7,rfl⟩:=h 7 c7 .u64 rfl rfl
  exact ⟨⟨⟨x0,x1,x2,x3⟩,⟨x4,x5,x6,x7⟩⟩,rfl⟩
theorem Qg {W:World} {base:Nat} {v:Value} (h:Value.okWide Try.prog W .any base 70 v) : ∃ a:FF,v=vO a:=by
 obtain ⟨cl,rfl,hl,hh⟩:=t8 (List.replicate 8 .u64) (ts:=List.replicate 8 22) (by kernel_rfl) (by kernel_rfl) (by kernel_rfl) (by kernel_rfl) h
 obtain ⟨a,rfl⟩:=Jo cl hl hh
 exact ⟨a,rfl⟩
end Go.Proofs.Ytibfppbffdedoaa
set_option maxRecDepth 100000
namespace Go.Proofs.Ytibfppbffdedoaa
open Go.ChangeShapes Go.WideShapes Go.ChangeAt Go.RowKit
theorem uK {W:World} {a:Addr} {v:Value} (h:W.cell? a=some v):a.spot=none:=by
 unfold World.cell? at h
 split at h
 ·split at h
  ·cases h
  ·rename_i hs
   cases e:a.spot with
   | none=>rfl
   | some x=>rw [e] at hs;exact absurd rfl hs
 ·cases h
theorem yl {H:Type} {P:Program} {e:TypeId} : ∀ {l:List (DataW H)} {d:DataW H},d ∈ l -> ∀ n ∈ d.weights P e,n ∈ DataW.weightsAll P e l
 | x :: l,d,h,n,hn=>by
  simp only [DataW.weightsAll,List.mem_append]
  rcases List.mem_cons.1 h with h | h
  ·subst h;exact .inl hn
  ·exact .inr (yl h n hn)
theorem Pg {H:Type} {enc:TypeId × Value->H} {P:Program} {W:World} {t e q:TypeId} {v:Value} {fuel:Nat} {x:DataW H × List MemPlace}
  (ht:P.underlying t=some (.slice e)) (he:P.underlying e=some (.array 4 q)) (hq:P.underlying q=some (.int .u64)) (ce:P.cellsOf e=4) (cq:P.cellsOf q=1) (hb:P.bytesOf e=32)
  (hw : ∀ n ∈ x.1.weights P t,n<=reachBytes) (h:DataW.trod enc P W 0 (fun _=>true) true fuel t [v]=some x) : ∃ xs:List Fr,RwIs .fr W v xs:=by
 rcases Go.Deep.open_slice ht h with ⟨e1,_⟩ | ⟨a,len,cap,m,n,D,Pl,e1,_,hlc,hcm,hm,hd,hel⟩
 ·cases e1
  exact ⟨[],none,0,rfl,(by decide:0<1125899906842624),by simp [ac],rfl,rfl⟩
 ·cases e1
  simp only [if_true] at hm
  subst hm
  subst hd
  have hr:=hw ((len+(m-len))*32) (by
   simp only [DataW.weights,ht,List.length_map,List.length_range,hb]
   exact List.mem_cons_self ..)
  have htop:len<aD:=by
   have e2:reachBytes=140737488351232:=by decide
   have e3:aD=1125899906842624:=rfl
   rw [e2] at hr
   rw [e3]
   omega
  rw [ce] at hel
  obtain ⟨f,hf2⟩:=Go.Deep.choose_lt (α:=Fr) (p:=fun i y => ∀ (j:Nat) (u:Value),((RK.fr.cs y).map (gc β0))[j]? = some u->W.cell? ((a.add (i*4)).add j)=some u) (fun i hi=>by
   obtain ⟨cs',c1,c2⟩:=hel i hi
   exact rq he hq cq c1 c2)
  rcases Nat.eq_zero_or_pos len with h0 | h0
  ·subst h0
   exact ⟨[],some a,m,rfl,htop,by simp [ac],fun hne=>absurd rfl hne,Nat.zero_le _,fun hne=>absurd rfl hne,fun i u hu=>by simp [ac] at hu⟩
  ·have hlen':((List.range len).map f).length=len:=by simp
   obtain ⟨cs',c1,_⟩:=hel 0 (by omega)
   obtain ⟨_,_,c3⟩:=World.cells?_some c1
   have hcl:0<cs'.length:=by rw [(World.cells?_some c1).2.1];decide
   have c4:=c3 0 (by omega)
   rw [List.getElem?_eq_getElem hcl] at c4
   have hspot:a.spot=none:=by
    have h5:=c4
    rw [Nat.zero_mul,dQ trivial,dQ trivial] at h5
    exact uK h5
   refine ⟨(List.range len).map f,some a,m,by rw [hlen'],by rw [hlen'];exact htop,by rw [List.length_map,aY],fun _=>hspot,by rw [hlen'];exact hlc,fun hne => ?_,qt hspot fun i hi=>hf2 i (by omega)⟩
   have:=World.block_lt_of_cell? W _ c4
   rw [block_add,block_add] at this
   exact this
theorem Hi {H:Type} {enc:TypeId × Value->H} {P:Program} {W:World} {base:Nat}
  {ts:List TypeId} {ds:List (DataW H)} {j:Nat} {t s e q:TypeId} {v:Value} {d:DataW H} {p:List MemPlace} (hsz:(DataW.weightsEach P ts ds).all (· <= reachBytes)=true) (htj:ts[j]? = some t) (hdj:ds[j]? = some d)
  (ht:P.underlying t=some (.slice s)) (hs:P.underlying s=some (.slice e)) (cs1:P.cellsOf s=1) (bs:1<=P.bytesOf s) (he:P.underlying e=some (.array 4 q)) (hq:P.underlying q=some (.int .u64)) (ce:P.cellsOf e=4) (cq:P.cellsOf q=1) (hb:P.bytesOf e=32)
  (hv:Value.okWide P W .any base t v) (h:DataW.Trod enc P W 0 (fun _=>true) true t v d p) : ∃ l:List (List Fr),LsIs .fr W v l:=by
 have hv:Cell.okWide P W .any base t v:=by
  unfold Value.okWide at hv
  rw [ht] at hv
  exact hv
 have hv:Cell.ok P W .any base t v:=by
  unfold Cell.okWide at hv
  rw [ht] at hv
  exact hv
 unfold Cell.ok at hv
 rw [ht] at hv
 obtain ⟨fuel,hf⟩:=h
 have hcs:v.cells.toList = [v]:=by
  cases v <;> first | rfl | exact hv.elim
 rw [hcs] at hf
 rcases Go.Deep.open_slice1 ht cs1 hf with ⟨e1,_⟩ | ⟨a,len,cap,m,n,V,D,Pl,e1,_,hlc,hcm,hm,hd,hel⟩
 ·cases e1
  exact ⟨[],LsIs.nil .fr W⟩
 ·cases e1
  obtain ⟨h1,h2,_,hspot,_⟩:=hv
  simp only [if_true] at hm
  subst hm
  have hd:d = .slice ((List.range len).map D) ((List.range (m-len)).map fun j=>D (len+j)):=congrArg Prod.fst hd
  subst hd
  have hr:=sized_slice hsz htj hdj ht
  simp only [List.length_map,List.length_range] at hr
  have htop:len<aD:=by
   have e2:reachBytes=140737488351232:=by decide
   have e3:aD=1125899906842624:=rfl
   rw [e2] at hr
   rw [e3]
   have:len+(m-len)<=(len+(m-len))*P.bytesOf s:=Nat.le_mul_of_pos_right _ bs
   omega
  have hwt : ∀ i,i<len -> ∀ n ∈ (D i).weights P s,n<=reachBytes:=fun i hi n hn=>by
   have h3:n ∈ (DataW.slice ((List.range len).map D) ((List.range (m-len)).map fun j=>D (len+j)):DataW H).weights P t:=by
    simp only [DataW.weights,ht]
    exact List.mem_cons_of_mem _ (List.mem_append_left _ (yl (List.mem_map.2 ⟨i,List.mem_range.2 hi,rfl⟩) n hn))
   have:=List.all_eq_true.1 hsz _ (DataW.weights_mem_each htj hdj n h3)
   simpa using this
  obtain ⟨f,hf2⟩:=Go.Deep.choose_lt (α:=List Fr) (p:=fun i xs=>RwIs .fr W (V i) xs) (fun i hi=>Pg (x:=(D i,Pl i)) hs he hq ce cq hb (hwt i hi) (hel i (by omega)).2)
  have hlen':((List.range len).map f).length=len:=by simp
  refine ⟨(List.range len).map f,(List.range len).map V,⟨some a,m,by rw [hlen'],by rw [hlen'];exact htop,by simp,fun _=>hspot,by rw [hlen'];exact hlc,fun hne => ?_,fun i u hu => ?_⟩,fun i xs hx => ?_⟩
  ·have h0:0<len:=by omega
   have c1:=(hel 0 (by omega)).1
   have:=World.block_lt_of_cell? W _ c1
   rw [block_add] at this
   exact this
  ·have hi:i<len:=by
    have:=(List.getElem?_eq_some_iff.1 hu).1
    simpa using this
   rw [List.getElem?_map,List.getElem?_range hi] at hu
   cases hu
   exact (hel i (by omega)).1
  ·have hi:i<len:=by
    have:=(List.getElem?_eq_some_iff.1 hx).1
    simpa using this
   rw [List.getElem?_map,List.getElem?_range hi] at hx
   cases hx
   refine ⟨V i,by rw [List.getElem?_map,List.getElem?_range hi];rfl,hf2 i hi⟩
end Go.Proofs.Ytibfppbffdedoaa
