/- Texts of the proof, joined. -/
import Derived.ProofKit
import Derived.OpenShut
import Derived.ShutString
import Derived.ChangeOld
import Derived.Below
import Derived.Carry
import Derived.SizedLaws
import Derived.Test.YtibfppbffdedoaaZM7
set_option linter.unusedSectionVars false
set_option linter.unusedSimpArgs false
set_option linter.unusedVariables false
namespace Go.Proofs.Ytibfppbffdedoaa
open Go.ChangeShapes Go.WideShapes Go.ChangeAt Go.RowKit
theorem RR:ownKnob Try.prog.godebug=none:=by kernel_rfl
theorem Dm:laidOutB Try.prog=true:=by kernel_rfl
theorem yq {H:Type} {enc:TypeId × Value->H} {P:Program} {w:World} {base:Nat} {spare:Nat->Bool} {held:Bool} : ∀ {ts:List TypeId} {vs:List Value} {ds:List (DataW H)} {ps:List MemPlace},
  DataW.TrodAll enc P w base spare held ts vs ds ps->ds.length=ts.length
 | [],vs,ds,ps,h=>by
  obtain ⟨rfl,rfl,rfl⟩:=trodAll_nil h
  rfl
 | t :: ts,vs,ds,ps,h=>by
  obtain ⟨v,vs,d,ds,p,q,rfl,rfl,rfl,h0,h1⟩:=trodAll_cons h
  rw [List.length_cons,List.length_cons,yq h1]
theorem kR {H:Type} {enc:TypeId × Value->H} {P:Program} (hl:laidOutB P=true) {W W':World} (bel:Below W.heap.size W W') : ∀ {ts:List TypeId} {vs:List Value} {ds:List (DataW H)} {ps:List MemPlace},
  ts.all (fun t=>P.readableRec t && decide (t<P.types.size))=true->DataW.TrodAll enc P W 0 (fun _=>true) true ts vs ds ps ->
  DataW.TrodAll enc P W' 0 (fun b=>decide (b<W.heap.size)) true ts vs ds ps
 | [],vs,ds,ps,_,h=>by
  obtain ⟨rfl,rfl,rfl⟩:=trodAll_nil h
  rfl
 | t :: ts,vs,ds,ps,ha,h=>by
  obtain ⟨v,vs,d,ds,p,q,rfl,rfl,rfl,h0,h1⟩:=trodAll_cons h
  rw [List.all_cons,Bool.and_eq_true,Bool.and_eq_true] at ha
  have h0':=h0
  obtain ⟨m,hm⟩:=h0'
  exact ⟨p,q,Below.trod hl ha.1.1 (of_decide_eq_true ha.1.2) h0 bel (DataW.trod_lt m _ _ _ hm),kR hl bel ha.2 h1,rfl⟩
theorem ln {C:Checked} (own:ownKnob C.prog.godebug=none) (hl:laidOutB C.prog=true) {f:FuncId} {fn:Func} (hf:C.prog.funcs[f]? = some fn) (noInit:C.prog.inits.idxOf? f=none) {spec:ChangeSpec} (n:Nat) (hvars:spec.vars = [])
  (hfn : ∀ (H:Type) (ds:List (DataW H)),ds.length=n->spec.fn H ds = { results := [.lit (.bool true)],args:=ds,vars := [] }) (hn:fn.params.toList.length=n) {tb:TypeId} (hres:fn.resultTypes.toList = [tb])
  (htb:C.prog.underlying tb=some .bool) (hrd:fn.params.toList.all (fun t=>C.prog.readableRec t && decide (t<C.prog.types.size))=true) {os:Os} (started:os.Started) {H:Type} {enc:TypeId × Value->H}
  (witness : ∃ (w:World) (tape:Tape) (i:Input),w.os=os/\(w.forCall tape i).Shaped C.prog/\i.vars = []/\Input.okWide C.prog (w.forCall tape i) .any w.heap.size f i /\
   spec.pre6 enc C.prog fn [] false (w.forCall tape i).memory i.args/\({}:Assume).holds C.prog (lone (Frame.enter C.prog f i.args .normal) [] (w.forCall tape i)))
  (hc : ∀ (W:World) (base:Nat) (args:Array Value) (ds:List (DataW H)) (p:List MemPlace),(∀ (j:Nat) t v,fn.params[j]? = some t->args[j]? = some v->Value.okWide C.prog W .any base t v) ->
   DataW.TrodAll enc C.prog W 0 (fun _=>true) true fn.params.toList args.toList ds p->(DataW.weightsEach C.prog fn.params.toList ds).all (· <= reachBytes)=true ->
   Gives C.prog f args W kBool.rs.res true) :
  ReturnsInHanded {} C os f .any (spec.pre6 enc C.prog fn [] false) (spec.post enc C.prog fn false true false false):=by
 refine returnsInHanded_of_change_sized (C:=C) own started noInit hf witness ?_
 intro W base args ds gs before hval hW hcnd hsz _
 obtain ⟨vn,vvars,vfn⟩:=spec
 simp only at hvars
 subst hvars
 have hW':=hW
 obtain ⟨p,q,hA,hV,rfl,hfz,hnd⟩:=hW
 obtain ⟨rfl,rfl⟩:=trodVars_none hV
 have hlen:=yq hA
 have hsz':(DataW.weightsEach C.prog fn.params.toList ds).all (· <= reachBytes)=true:=by
  have e1:({ name:=vn,vars := [],fn:=vfn }:ChangeSpec).plain.varTypes C.prog = []:=rfl
  rw [e1,List.append_nil,List.append_nil] at hsz
  exact hsz
 refine Calls.mono (hc W base args ds p hval hA hsz') fun e W' ⟨v,h1,bel,h3⟩ => ?_
 have h3:v = .bool true:=h3
 subst h1 h3
 have e:=hfn H (ds ++ []) (by rw [List.append_nil];omega)
 refine ⟨_,rfl,ds,[],_,[],p,[],hW',?_,?_,?_,bel.frame _,fun h=>by cases h⟩
 ·rw [e]
  have e2:fn.resultTypes.size=1:=by rw [<- Array.length_toList,hres];rfl
  rw [hres,e2]
  exact trodAll_mk1 (shut_bool htb _)
 ·rw [e]
  simp only [List.append_nil]
  exact kR hl bel hrd hA
 ·rw [e]
  rfl
def po:Value->Cell
 | .int .u64 n => .u64 (UInt64.ofNat n.toNat)
 | .int .u8 n => .u8 (UInt8.ofNat n.toNat)
 | .int k n => .int k n
 | .bool b => .bool b
 | _ => .nilp
inductive CK where
 | u64 | u8 | int | bool | u16
def CK.fits:CK->TypeDesc->Bool
 | .u64,.int .u64=>true
 | .u8,.int .u8=>true
 | .int,.int .i64=>true
 | .bool,.bool=>true
 | .u16,.int .u16=>true
 | _,_=>false
def CK.has:CK->Cell->Prop
 | .u64,c => ∃ x,c = .u64 x
 | .u8,c => ∃ x,c = .u8 x
 | .int,c => ∃ x,c = .int .i64 x
 | .bool,c => ∃ x,c = .bool x
 | .u16,c => ∃ x:UInt16,c = .int .u16 (x.toNat:Int)
def CK.at (P:Program) (t:TypeId) (k:CK):Bool:=match P.underlying t with | some d=>k.fits d | none=>false
theorem CK.cell {P:Program} {W:World} {r:Reach} {base:Nat} {t:TypeId} {v:Value} {k:CK} (hk:CK.at P t k=true) (h:Cell.okWide P W r base t v):gc β0 (po v)=v/\k.has (po v):=by
 unfold CK.at at hk
 split at hk
 ·rename_i d hd
  cases k <;> cases d <;> simp [CK.fits] at hk
  ·rename_i kk
   cases kk <;> simp at hk
   simp only [Cell.okWide,hd] at h
   have h:Cell.ok P W r base t v:=by cases v <;> exact h
   simp only [Cell.ok,hd] at h
   cases v with
   | int k n =>
    obtain ⟨rfl,h1⟩:=h
    have h2:0<=n/\n<=18446744073709551615:=by simpa [IntKind.has,IntKind.min,IntKind.max,IntKind.signed,IntKind.bits] using h1
    refine ⟨?_,_,rfl⟩
    simp only [po,gc,UInt64.toNat_ofNat']
    congr 1
    omega
   | _=>exact h.elim
  ·rename_i kk
   cases kk <;> simp at hk
   simp only [Cell.okWide,hd] at h
   have h:Cell.ok P W r base t v:=by cases v <;> exact h
   simp only [Cell.ok,hd] at h
   cases v with
   | int k n =>
    obtain ⟨rfl,h1⟩:=h
    have h2:0<=n/\n<=255:=by simpa [IntKind.has,IntKind.min,IntKind.max,IntKind.signed,IntKind.bits] using h1
    refine ⟨?_,_,rfl⟩
    simp only [po,gc,UInt8.toNat_ofNat']
    congr 1
    omega
   | _=>exact h.elim
  ·rename_i kk
   cases kk <;> simp at hk
   simp only [Cell.okWide,hd] at h
   have h:Cell.ok P W r base t v:=by cases v <;> exact h
   simp only [Cell.ok,hd] at h
   cases v with
   | int k n =>
    obtain ⟨rfl,h1⟩:=h
    exact ⟨rfl,_,rfl⟩
   | _=>exact h.elim
  ·simp only [Cell.okWide,hd] at h
   have h:Cell.ok P W r base t v:=by cases v <;> exact h
   simp only [Cell.ok,hd] at h
   cases v with
   | bool b=>exact ⟨rfl,_,rfl⟩
   | _=>exact h.elim
  ·rename_i kk
   cases kk <;> simp at hk
   simp only [Cell.okWide,hd] at h
   have h:Cell.ok P W r base t v:=by cases v <;> exact h
   simp only [Cell.ok,hd] at h
   cases v with
   | int k n =>
    obtain ⟨rfl,h1⟩:=h
    have h2:0<=n/\n<=65535:=by simpa [IntKind.has,IntKind.min,IntKind.max,IntKind.signed,IntKind.bits] using h1
    refine ⟨rfl,UInt16.ofNat n.toNat,?_⟩
    show Cell.int .u16 n=_
    congr 1
    rw [UInt16.toNat_ofNat']
    omega
   | _=>exact h.elim
 ·cases hk
def GF (P:Program):List TypeId->List CK->Bool
 | [],[]=>true
 | t :: ts,k :: ks=>CK.at P t k && GF P ts ks
 | _,_=>false
theorem uH {P:Program} : ∀ {ts:List TypeId} {ks:List CK},GF P ts ks=true->ts.length=ks.length /\ ∀ (i:Nat) (t:TypeId) (k:CK),ts[i]? = some t->ks[i]? = some k->CK.at P t k=true
 | [],[],_=>⟨rfl,fun i t k h=>by simp at h⟩
 | t :: ts,k :: ks,h=>by
  simp only [GF,Bool.and_eq_true] at h
  obtain ⟨h1,h2⟩:=uH h.2
  refine ⟨by simp [h1],fun i u j hu hj => ?_⟩
  cases i with
  | zero=>simp at hu hj;subst hu hj;exact h.1
  | succ i=>simp at hu hj;exact h2 i u j hu hj
 | [],_ :: _,h=>by cases h
 | _ :: _,[],h=>by cases h
def Ox (P:Program) (t:TypeId):Bool:=match P.underlying t with | some (.struct _) | some (.array _ _)=>true | _=>false
theorem t8 {P:Program} {W:World} {base:Nat} {t:TypeId} {v:Value} (ks:List CK) {ts:List TypeId} (hr:Ox P t=true) (ht:P.cellTypes P.depth t=some ts) (hk:GF P ts ks=true)
  (hsize:P.cellsOf t=ks.length) (h:Value.okWide P W .any base t v) :
  ∃ cl:List Cell,v = .agg (cl.map (gc β0)).toArray/\cl.length=ks.length /\ ∀ (i:Nat) (c:Cell) (k:CK),cl[i]? = some c->ks[i]? = some k->k.has c:=by
 have h' : ∃ cs,v = .agg cs/\cs.size=P.cellsOf t/\Row.okWide P W .any base t cs:=by
  unfold Ox at hr
  unfold Value.okWide at h
  split at hr
  ·rename_i hu;rw [hu] at h;exact h
  ·rename_i hu;rw [hu] at h;exact h
  ·cases hr
 obtain ⟨cs,rfl,hs,ts',hts,_,hcell⟩:=h'
 rw [ht] at hts
 cases hts
 obtain ⟨hl,hat⟩:=uH hk
 have key : ∀ (i:Nat) (u:Value),cs[i]? = some u -> ∃ t' k,ts[i]? = some t'/\ks[i]? = some k/\CK.at P t' k=true/\Cell.okWide P W .any base t' u:=by
  intro i u hu
  obtain ⟨t',ht',hok⟩:=hcell i u hu
  have hi:i<cs.size:=(Array.getElem?_eq_some_iff.1 hu).1
  rw [Nat.mod_eq_of_lt (by omega)] at ht'
  have hik:i<ks.length:=by omega
  exact ⟨t',ks[i],ht',List.getElem?_eq_getElem hik,hat i t' _ ht' (List.getElem?_eq_getElem hik),hok⟩
 refine ⟨cs.toList.map po,?_,by simp;omega,fun i c k hc hk' => ?_⟩
 ·congr 1
  apply Array.ext'
  rw [List.map_map]
  apply List.ext_getElem?
  intro i
  rw [Array.getElem?_toList]
  show _=(cs.toList.map (gc β0 ∘ po))[i]?
  rw [List.getElem?_map,Array.getElem?_toList]
  cases hu:cs[i]? with
  | none=>rfl
  | some u =>
   obtain ⟨t',k,h1,h2,h3,h4⟩:=key i u hu
   exact congrArg some (CK.cell h3 h4).1.symm
 ·rw [List.getElem?_map,Array.getElem?_toList] at hc
  cases hu:cs[i]? with
  | none=>rw [hu] at hc;cases hc
  | some u =>
   rw [hu] at hc
   cases hc
   obtain ⟨t',k',h1,h2,h3,h4⟩:=key i u hu
   rw [h2] at hk'
   cases hk'
   exact (CK.cell h3 h4).2
end Go.Proofs.Ytibfppbffdedoaa
namespace Go.Proofs.Ytibfppbffdedoaa
open Go.ChangeShapes Go.WideShapes Go.ChangeAt Go.RowKit
theorem PK (n:Int) (h:(Lit.int .u64 n).wf=true):gc β0 (eU64.cell (UInt64.ofNat n.toNat)) = .int .u64 n:=by
 have h2:0<=n/\n<=18446744073709551615:=by simpa [Lit.wf,IntKind.min,IntKind.max,IntKind.signed,IntKind.bits] using h
 show Value.int .u64 _=_
 rw [UInt64.toNat_ofNat']
 congr 1
 omega
end Go.Proofs.Ytibfppbffdedoaa
set_option maxRecDepth 100000
namespace Go.Proofs.Ytibfppbffdedoaa
open Go.ChangeShapes Go.WideShapes Go.ChangeAt Go.RowKit
theorem Jg (cl:List Cell) (hl:cl.length=4) (h : ∀ (i:Nat) (c:Cell) (k:CK),cl[i]? = some c->(List.replicate 4 CK.u64)[i]? = some k->k.has c) : ∃ a:Fr,cl=Row.cs a:=by
 match cl,hl with
 | [c0,c1,c2,c3],_ =>
  obtain ⟨x0,rfl⟩:=h 0 c0 .u64 rfl rfl
  obtain ⟨x1,rfl⟩:=h 1 c1 .u64 rfl rfl
  obtain ⟨x2,rfl⟩:=h 2 c2 .u64 rfl rfl
  obtain ⟨x3,rfl⟩:=h 3 c3 .u64 rfl rfl
  exact ⟨⟨x0,x1,x2,x3⟩,rfl⟩
theorem td {W:World} {base:Nat} {v:Value} (h:Value.okWide Try.prog W .any base 24 v) : ∃ a:Fr,v=vO a:=by
 obtain ⟨cl,rfl,hl,hh⟩:=t8 (List.replicate 4 .u64) (ts:=List.replicate 4 22) (by kernel_rfl) (by kernel_rfl) (by kernel_rfl) (by kernel_rfl) h
 obtain ⟨a,rfl⟩:=Jg cl hl hh
 exact ⟨a,rfl⟩
end Go.Proofs.Ytibfppbffdedoaa
