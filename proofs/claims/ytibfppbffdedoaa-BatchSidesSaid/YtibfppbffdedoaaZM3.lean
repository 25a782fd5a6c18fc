/- Texts of the proof, joined. -/
import Derived.Laws.BytesString
import Derived.Laws.MakeOwn
import Derived.Test.YtibfppbffdedoaaZM2
set_option linter.unusedSectionVars false
set_option linter.unusedSimpArgs false
set_option linter.unusedVariables false
namespace Go.Proofs.Ytibfppbffdedoaa
open Go.RowKit
theorem j8 {o:Option Operand} {ev:Operand->Option AV} {ρ:Operand->Value} {β:Nat->Pl} {d:Nat} {dk:Bool} {r:Cond Nat} {kn:Bool} (h:bnd (o.map ev) d dk=some (r,kn)) (hp:r.pre.holds)
  (hev : ∀ x ∈ o.toList,∀ v,ev x=some v->gv β v=ρ x):(o=none/\r.val=d) \/ ∃ k n,o.map ρ=some (.int k n)/\0<=n/\r.val=n.toNat:=by
 cases o with
 | none=>simp [bnd] at h;left;exact ⟨rfl,by rw [<- h.1]⟩
 | some x =>
  right
  simp only [Option.map_some] at h ⊢
  have hx:=hev x (by simp)
  cases hv:ev x with
  | none=>rw [hv] at h;simp [bnd] at h
  | some v =>
   rw [hv] at h
   rw [<- hx v hv]
   unfold bnd at h
   split at h
   ·rename_i h1;cases h1
   ·rename_i k n h1
    cases h1
    split at h
    ·rename_i h0
     cases h
     exact ⟨k,n,rfl,by simpa using h0,rfl⟩
    ·cases h
   ·rename_i c hc h1
    cases h1
    split at h
    ·rename_i k n hk
     cases h
     exact ⟨k,n,by show some (gc β c)=_;rw [cR β hk],hp,rfl⟩
    ·cases h
   ·cases h
theorem wA {P:Program} (isSlice:Bool) (len cap:Nat) (lo hi mx:Option Value) (l h m:Nat) (hl:(lo=none/\l=0) \/ ∃ k n,lo=some (.int k n)/\0<=n/\l=n.toNat)
  (hh:(hi=none/\mx=none/\h=len) \/ ∃ k n,hi=some (.int k n)/\0<=n/\h=n.toNat) (hm:(mx=none/\m=cap) \/ ∃ k n,mx=some (.int k n)/\0<=n/\m=n.toNat)
  (h1:l<=h) (h2:h<=m) (h3:m<=cap) (w:World):(Instr.sliceBounds isSlice len cap lo hi mx).run P w = .ok (l,h,m) w:=by
 have sb : ∀ (k:IntKind) (n:Int) (y:Nat) (code:BoundsCode),0<=n->n<=y->(Instr.sliceBound (.int k n) y code).run P w = .ok n.toNat w:=fun k n y code a b=>run_sliceBound w k n y code a b
 unfold Instr.sliceBounds
 rcases hm with ⟨rfl,rfl⟩ | ⟨km,nm,rfl,hm0,rfl⟩
 ·simp only [Sem.run_bind,Sem.run_pure,Result.andThen_ok]
  rcases hh with ⟨rfl,_,rfl⟩ | ⟨kh,nh,rfl,hh0,rfl⟩
  ·simp only [Sem.run_bind,Sem.run_pure,Result.andThen_ok]
   rcases hl with ⟨rfl,rfl⟩ | ⟨kl,nl,rfl,hl0,rfl⟩
   ·simp
   ·simp only [Sem.run_bind,sb kl nl h _ hl0 (by omega),Result.andThen_ok,Sem.run_pure]
  ·simp only [Sem.run_bind,sb kh nh m _ hh0 (by omega),Sem.run_pure,Result.andThen_ok]
   rcases hl with ⟨rfl,rfl⟩ | ⟨kl,nl,rfl,hl0,rfl⟩
   ·simp
   ·simp only [Sem.run_bind,sb kl nl _ _ hl0 (by omega:nl<=(nh.toNat:Int)),Result.andThen_ok,Sem.run_pure]
 ·simp only [Sem.run_bind,sb km nm cap _ hm0 (by omega),Sem.run_pure,Result.andThen_ok]
  rcases hh with ⟨rfl,hc,rfl⟩ | ⟨kh,nh,rfl,hh0,rfl⟩
  ·cases hc
  ·simp only [Sem.run_bind,sb kh nh nm.toNat _ hh0 (by omega),Sem.run_pure,Result.andThen_ok]
   rcases hl with ⟨rfl,rfl⟩ | ⟨kl,nl,rfl,hl0,rfl⟩
   ·simp
   ·simp only [Sem.run_bind,sb kl nl _ _ hl0 (by omega:nl<=(nh.toNat:Int)),Result.andThen_ok,Sem.run_pure]
theorem up {hi mx:Option Operand} {ev:Operand->Option AV} (h:OB (hi.map ev) (mx.map ev)=true):hi=none->mx=none:=by
 intro e
 subst e
 cases mx with
 | none=>rfl
 | some _=>simp [OB] at h
theorem uP {P:Program} {w0:W0} {β:Nat->Pl} {h:ah} {w:World} (r:HRel w0 β h w) {id:Nat} (hid:h id = .un) {t:TypeId} {x:Operand} {lo hi mx:Option Operand} {ev:Operand->Option AV} {ρ:Operand->Value}
  {v:AV} {e:Eff} (he:kd P h id t v (lo.map ev) (hi.map ev) (mx.map ev)=some e) (hp:e.pre.holds) (hx:gv β v=ρ x)
  (hlo : ∀ y ∈ lo.toList,∀ v,ev y=some v->gv β v=ρ y) (hhi : ∀ y ∈ hi.toList,∀ v,ev y=some v->gv β v=ρ y) (hmx : ∀ y ∈ mx.toList,∀ v,ev y=some v->gv β v=ρ y) :
  ∃ u,(Instr.sliceAt t (ρ x) (lo.map ρ) (hi.map ρ) (mx.map ρ)).run P w = .ok u w/\EffOk w0 β h id e.val e.wr u w:=by
 unfold kd at he
 split at he
 ·
  rename_i i off n el hu
  split at he
  ·rename_i ei b pm m hei hb hbm
   have hi':=aj hb
   split at he
   ·rename_i ph hv kh pl l hbh hbl
    have key:b.esz=0->pm.holds->ph.holds->pl.holds->l<=hv->hv<=m->m<=n->(hi=none->mx=none) ->
      ∃ a,(β i).base=some a/\a.spot=none/\(Instr.sliceAt t (ρ x) (lo.map ρ) (hi.map ρ) (mx.map ρ)).run P w =
       .ok (.slice (some (if m=l then a.add off else (a.add off).add (l*ei.size))) (hv-l) (m-l)) w:=by
     intro hz pm' ph' pl' h1 h2 h3 hho
     obtain ⟨a,ha,hs⟩:=r.base_some hi' (.inr hz)
     refine ⟨a,ha,hs,?_⟩
     have eb:=j8 hbm pm' hmx
     have ebh:=j8 hbh ph' hhi
     have ebl:=j8 hbl pl' hlo
     have hrun:=wA (P:=P) false n n (lo.map ρ) (hi.map ρ) (mx.map ρ) l hv m
      (by
        rcases ebl with ⟨e,e2⟩ | e
        ·exact .inl ⟨by simp [e],e2⟩
        ·exact .inr e)
      (by
        rcases ebh with ⟨e,e2⟩ | e
        ·exact .inl ⟨by simp [e],by simp [hho e],e2⟩
        ·exact .inr e)
      (by
        rcases eb with ⟨e,e2⟩ | e
        ·exact .inl ⟨by simp [e],e2⟩
        ·exact .inr e) h1 h2 h3 w
     rw [<- hx]
     simp only [Instr.sliceAt,Sem.run_bind,run_underlying hu,Result.andThen_ok,gv,g1,jE ha,Instr.sureAddr,Sem.run_pure,hrun,aC hei]
     have hsz:P.cellsOf el=ei.size:=by simp [Program.cellsOf,hei]
     rw [hsz]
    split at he
    ·rename_i hz
     split at he
     ·rename_i hc
      simp only [Bool.and_eq_true] at hc
      obtain ⟨⟨⟨c1,c2⟩,c3⟩,c4⟩:=hc
      have pm':pm.holds:=by
       unfold bnd at hbm;split at hbm
       ·cases hbm;trivial
       ·split at hbm
        ·cases hbm;trivial
        ·cases hbm
       ·split at hbm
        ·cases hbm
        ·cases hbm
       ·cases hbm
      have ph':ph.holds:=by
       unfold bnd at hbh;split at hbh
       ·cases hbh;trivial
       ·split at hbh
        ·cases hbh;trivial
        ·cases hbh
       ·split at hbh
        ·cases hbh
        ·cases hbh
       ·cases hbh
      have pl':pl.holds:=by
       unfold bnd at hbl;split at hbl
       ·cases hbl;trivial
       ·split at hbl
        ·cases hbl;trivial
        ·cases hbl
       ·split at hbl
        ·cases hbl
        ·cases hbl
       ·cases hbl
      obtain ⟨a,ha,hs,hrun⟩:=key hz pm' ph' pl' (aT c1) (aT c2) (aT c3) (up c4)
      refine ⟨_,hrun,?_⟩
      split at he
      ·rename_i hml
       cases he
       rw [if_pos (Nat.eq_of_beq_eq_true hml)]
       have:=EffOk.pure (id:=id) (val := .one (.c (.slc i off (hv-l) ei.size (.kn (m-l)) true))) r (qJ hi')
       simpa [gv,g1,gc,ha,RC.val] using this
      ·rename_i hml
       cases he
       rw [if_neg (Nat.ne_of_beq_eq_false hml),bi a hs]
       have:=EffOk.pure (id:=id) (val := .one (.c (.slc i (off+l*ei.size) (hv-l) ei.size (.kn (m-l)) true))) r (qJ hi')
       simpa [gv,g1,gc,ha,RC.val] using this
     ·cases he
    ·rename_i hz
     split at he
     ·rename_i hml hc
      cases he
      simp only [Bool.and_eq_true] at hc
      obtain ⟨q1,q2⟩:=Pr.and_holds hp
      simp only [Pr.holds] at q2
      have pm':pm.holds:=by
       unfold bnd at hbm;split at hbm
       ·cases hbm;trivial
       ·split at hbm
        ·cases hbm;trivial
        ·cases hbm
       ·split at hbm
        ·cases hbm
        ·cases hbm
       ·cases hbm
      have pl':pl.holds:=by
       unfold bnd at hbl;split at hbl
       ·cases hbl;trivial
       ·split at hbl
        ·cases hbl;trivial
        ·cases hbl
       ·split at hbl
        ·cases hbl
        ·cases hbl
       ·cases hbl
      obtain ⟨a,ha,hs,hrun⟩:=key hz pm' q1 pl' q2.1 q2.2 (aT hc.1) (up hc.2)
      refine ⟨_,hrun,?_⟩
      rw [if_neg (Nat.ne_of_beq_eq_false hml),bi a hs]
      have:=EffOk.pure (id:=id) (val := .one (.c (.slc i (off+l*ei.size) (hv-l) ei.size (.kn (m-l)) false))) r (qJ hi')
      simpa [gv,g1,gc,ha,RC.val] using this
     ·cases he
    ·cases he
   ·cases he
  ·cases he
 ·
  rename_i i off len sz rc kn el hu
  split at he
  ·rename_i ei b hei hb hmn
   have hmx0:mx=none:=by cases mx with | none=>rfl | some _=>simp at hmn
   subst hmx0
   have hi':=aj hb
   split at he
   ·rename_i ph hv kh pl l kl hbh hbl
    split at he
    ·rename_i hes
     have hes:=Nat.eq_of_beq_eq_true hes
     have hsz:P.cellsOf el=sz:=by simp [Program.cellsOf,hei,hes]
     have key:ph.holds->pl.holds->l<=hv->hv<=len->off+len*sz<=b.body.cells.length->0<sz->rc.fits off len sz b.esz ->
       ((β i).base=none/\l=0/\hv=0/\(Instr.sliceAt t (ρ x) (lo.map ρ) (hi.map ρ) none).run P w = .ok (.slice none 0 0) w) \/
       ∃ a,(β i).base=some a/\(b.body.cells ≠ []->a.spot=none)/\hv<=rc.val (β i)/\(Instr.sliceAt t (ρ x) (lo.map ρ) (hi.map ρ) none).run P w =
        .ok (.slice (some (if rc.val (β i)=l then a.add off else (a.add off).add (l*sz))) (hv-l) (rc.val (β i)-l)) w:=by
      intro ph' pl' h1 h2 h3 h4 h5
      have ebh:=j8 hbh ph' hhi
      have ebl:=j8 hbl pl' hlo
      have hbk:=r.blk i b hi'
      unfold BlkOk at hbk
      cases ha:(β i).base with
      | none =>
       left
       rw [ha] at hbk
       have hl0:len=0:=by
        rw [hbk.1] at h3
        simp only [List.length_nil] at h3
        rcases Nat.eq_zero_or_pos len with e | e
        ·exact e
        ·have:=Nat.mul_pos e h4;omega
       have hrun:=wA (P:=P) true 0 0 (lo.map ρ) (hi.map ρ) none l hv 0
        (by
          rcases ebl with ⟨e,e2⟩ | e
          ·exact .inl ⟨by simp [e],e2⟩
          ·exact .inr e)
        (by
          rcases ebh with ⟨e,e2⟩ | e
          ·exact .inl ⟨by simp [e],rfl,by rw [<- hl0];exact e2⟩
          ·exact .inr e) (.inl ⟨rfl,rfl⟩) h1 (by omega) (Nat.le_refl _) w
       refine ⟨rfl,by omega,by omega,?_⟩
       rw [<- hx]
       simp only [Instr.sliceAt,Sem.run_bind,run_underlying hu,Result.andThen_ok,gv,g1,gc,ha,Instr.slice,hrun,aC hei,Sem.run_pure]
       have e1:l=0:=by omega
       have e2:hv=0:=by omega
       simp [e1,e2]
      | some a =>
       right
       rw [ha] at hbk
       have hcap:len<=rc.val (β i):=by
        cases rc with
        | kn n=>exact h5
        | of k =>
         obtain ⟨q1,q2⟩:=h5
         have q3:=hbk.2.2.2.1 (by omega)
         rw [q2] at q3
         have:(k+len)*sz<=(β i).cap*sz:=by rw [Nat.add_mul];omega
         have:=Nat.le_of_mul_le_mul_right this h4
         simp only [RC.val];omega
       have hrun:=wA (P:=P) true len (rc.val (β i)) (lo.map ρ) (hi.map ρ) none l hv (rc.val (β i))
        (by
          rcases ebl with ⟨e,e2⟩ | e
          ·exact .inl ⟨by simp [e],e2⟩
          ·exact .inr e)
        (by
          rcases ebh with ⟨e,e2⟩ | e
          ·exact .inl ⟨by simp [e],rfl,e2⟩
          ·exact .inr e) (.inl ⟨rfl,rfl⟩) h1 (by omega) (Nat.le_refl _) w
       refine ⟨a,rfl,fun hne=>hbk.1 (.inl hne),by omega,?_⟩
       rw [<- hx]
       simp only [Instr.sliceAt,Sem.run_bind,run_underlying hu,Result.andThen_ok,gv,g1,gc,ha,Instr.slice,hrun,aC hei,Sem.run_pure,hsz,Option.map_some]
       split <;> rfl
     have plain : ∀ kk,ph.holds->pl.holds->l<=hv->hv<=len->off+len*sz<=b.body.cells.length->0<sz->(l=0 \/ l<hv)->rc.fits off len sz b.esz ->
       ∃ u,(Instr.sliceAt t (ρ x) (lo.map ρ) (hi.map ρ) none).run P w = .ok u w /\
        EffOk w0 β h id (.one (.c (.slc i (off+l*sz) (hv-l) sz (rc.by l) kk))) [] u w:=by
      intro kk ph' pl' h1 h2 h3 h4 h6 h5
      have hE:=EffOk.pure (id:=id) (val := .one (.c (.slc i (off+l*sz) (hv-l) sz (rc.by l) kk))) r (qJ hi')
      rcases key ph' pl' h1 h2 h3 h4 h5 with ⟨ha,e1,e2,hrun⟩ | ⟨a,ha,hs,hc,hrun⟩
      ·exact ⟨_,hrun,by simpa [gv,g1,gc,ha] using hE⟩
      ·refine ⟨_,hrun,?_⟩
       have e1:(if rc.val (β i)=l then a.add off else (a.add off).add (l*sz))=a.add (off+l*sz):=by
        rcases h6 with e | e
        ·subst e
         simp [Addr.add_zero']
        ·rw [if_neg (by omega),bi a (hs (by
          intro e0
          rw [e0] at h3
          simp only [List.length_nil] at h3
          have h7:0<len*sz:=Nat.mul_pos (by omega) h4
          omega))]
       have e2:RC.val (β i) (rc.by l)=rc.val (β i)-l:=by
        cases rc with
        | kn n=>rfl
        | of k=>simp only [RC.val,RC.by];omega
       rw [e1]
       simpa [gv,g1,gc,ha,e2] using hE
     split at he
     ·rename_i _ _ _ cs hbody
      split at he
      ·rename_i hc
       simp only [Bool.and_eq_true] at hc
       obtain ⟨⟨⟨c1,c2⟩,c3⟩,c4⟩:=hc
       have c4:0<sz:=aT (a:=1) c4
       have ph':ph.holds:=by
        unfold bnd at hbh;split at hbh
        ·cases hbh;trivial
        ·split at hbh
         ·cases hbh;trivial
         ·cases hbh
        ·split at hbh
         ·cases hbh
         ·cases hbh
        ·cases hbh
       have pl':pl.holds:=by
        unfold bnd at hbl;split at hbl
        ·cases hbl;trivial
        ·split at hbl
         ·cases hbl;trivial
         ·cases hbl
        ·split at hbl
         ·cases hbl
         ·cases hbl
        ·cases hbl
       have h3:off+len*sz<=b.body.cells.length:=by rw [hbody];exact aT c3
       split at he
       ·rename_i hrc
        have h5:rc.fits off len sz b.esz:=by
         unfold RC.fitsB at hrc
         cases rc with
         | kn n=>exact aT hrc
         | of k =>
          simp only [Bool.and_eq_true] at hrc
          exact ⟨Nat.eq_of_beq_eq_true hrc.1,Nat.eq_of_beq_eq_true hrc.2⟩
        split at he
        ·rename_i hdeg
         cases he
         have h6:l=0 \/ l<hv:=by
          simp only [Bool.or_eq_true] at hdeg
          rcases hdeg with e | e
          ·exact .inl (Nat.eq_of_beq_eq_true e)
          ·exact .inr (aT (a:=l+1) e)
         exact plain true ph' pl' (aT c1) (aT c2) h3 c4 h6 h5
        ·rename_i hdeg
         cases he
         simp only [Bool.or_eq_false_iff] at hdeg
         have d1:l ≠ 0:=Nat.ne_of_beq_eq_false hdeg.1
         have d2 : ¬ l<hv:=by
          intro e
          have:=Nat.ble_eq_true_of_le (show l+1<=hv from e)
          have h2:Nat.blt l hv=true:=this
          rw [h2] at hdeg
          cases hdeg.2
         rcases key ph' pl' (aT c1) (aT c2) h3 c4 h5 with ⟨ha,e1,e2,hrun⟩ | ⟨a,ha,hs,hcc,hrun⟩
         ·exact absurd e1 d1
         ·have hle:=aT c1
          have e0:hv-l=0:=by omega
          rw [e0] at hrun
          refine ⟨_,hrun,.one hid ⟨some (if rc.val (β i)=l then a.add off else (a.add off).add (l*sz)),rc.val (β i)-l,none⟩ ?_ ?_ ?_⟩
          ·simp [gv,g1,gc,ab,RC.val,Addr.add_zero']
          ·refine r.ext hid _ _ rfl rfl (by simp [Body.cells]) ?_
           unfold BlkOk
           simp only [ab]
           refine ⟨?_,by simp [Body.cells],by simp [Body.cells],by simp [Body.cells],by simp⟩
           intro h
           exfalso
           rcases h with h | h | h
           ·exact h rfl
           ·exact absurd h (Nat.ne_of_gt c4)
           ·cases h
          ·intro j hj
           simp [Cell.idOf] at hj
           subst hj
           simp [eg,ab]
       ·cases he
      ·cases he
     ·cases he
      obtain ⟨q1,q2⟩:=Pr.and_holds hp
      obtain ⟨q3,q4⟩:=Pr.and_holds q1
      simp only [Pr.holds] at q2
      exact plain false q3 q4 q2.1 q2.2.1 q2.2.2.1 q2.2.2.2.1 q2.2.2.2.2.1 q2.2.2.2.2.2
    ·cases he
   ·cases he
  ·cases he
 ·cases he
end Go.Proofs.Ytibfppbffdedoaa
namespace Go.Proofs.Ytibfppbffdedoaa
open Go.RowKit
theorem pr {P:Program} {w0:W0} {β:Nat->Pl} {h:ah} {w:World} (r:HRel w0 β h w) {t:TypeId} {x:AV} {e:Eff} (he:gI P h t x=some e) :
  (Instr.arrayAt t (gv β x)).run P w = .ok (gv β e.val) w/\okv h e.val/\e.wr = []:=by
 unfold gI at he
 split at he
 ·rename_i i off len sz rc n el hu
  split at he
  ·rename_i b hb
   have hi:=aj hb
   split at he
   ·rename_i cs hbody
    split at he
    ·rename_i hc
     cases he
     simp only [Bool.and_eq_true] at hc
     obtain ⟨⟨⟨c1,c2⟩,c3⟩,c4⟩:=hc
     have hz:=Nat.eq_of_beq_eq_true c4
     have hle:=aT c1
     obtain ⟨a,ha,hs⟩:=r.base_some hi (.inr hz)
     refine ⟨?_,li hi,rfl⟩
     simp only [Instr.arrayAt,Sem.run_bind,run_underlying hu,Result.andThen_ok,gv,g1,gc,ha,if_neg (Nat.not_lt.2 hle),Sem.run_pure,Option.map_some]
    ·cases he
   ·cases he
  ·cases he
 ·cases he
theorem oO {P:Program} {w0:W0} {β:Nat->Pl} {h:ah} {w:World} (r:HRel w0 β h w) {x:AV} {e:Eff} (he:fy h x=some e) :
  (∃ a,gv β x = .pointer (some a))/\e.val=x/\okv h e.val/\e.wr = []:=by
 unfold fy at he
 split at he
 ·rename_i i off
  split at he
  ·rename_i b hb
   have hi:=aj hb
   split at he
   ·rename_i hz
    cases he
    obtain ⟨a,ha,hs⟩:=r.base_some hi (.inr hz)
    exact ⟨⟨_,jE ha⟩,rfl,li hi,rfl⟩
   ·cases he
  ·cases he
 ·cases he
theorem Jm (off:Nat) (vs:List Value) : ∀ (k:Nat) (cells:Array Value),off+k+vs.length<=cells.size ->
  ((vs.zipIdx k).foldl (fun cs (p:Value × Nat)=>cs.setIfInBounds (off+p.2) p.1) cells).toList=cells.toList.take (off+k)++vs++cells.toList.drop (off+k+vs.length):=by
 induction vs with
 | nil=>intro k cells _;simp
 | cons v vs ih =>
  intro k cells hl
  simp only [List.length_cons] at hl
  simp only [List.zipIdx_cons,List.foldl_cons]
  rw [ih (k+1) _ (by simp;omega)]
  have:=list_seg_step cells.toList (off+k) v vs (by simp;omega)
  simpa [Array.toList_setIfInBounds,Nat.add_assoc] using this
theorem FK (place:Nat->Option (Nat × Nat)) (cells:Array Value) (i:Nat) (v:Value) (vs:List Value) (rest:List (Nat × Value)) (off size:Nat) (hp:place i=some (off,size))
  (hv:v.cells=vs.toArray) (hs:vs.length=size) (hl:off+size<=cells.size) :
  Instr.fill place cells ((i,v) :: rest)=Instr.fill place (cells.toList.take off++vs++cells.toList.drop (off+vs.length)).toArray rest:=by
 have e1:(vs.toArray.zipIdx.foldl (fun cs (p:Value × Nat)=>cs.setIfInBounds (off+p.2) p.1) cells)=(cells.toList.take off++vs++cells.toList.drop (off+vs.length)).toArray:=by
  apply Array.ext'
  have:=Jm off vs 0 cells (by omega)
  simp only [Nat.add_zero] at this
  rw [<- this]
  simp
 have h1 : ¬ (vs.length ≠ size):=by simpa using hs
 simp only [Instr.fill,hp,hv,List.size_toArray]
 rw [if_neg (by simp;omega)]
 exact congrArg (fun c=>Instr.fill place c rest) e1
theorem l6 {place:Nat->Option (Nat × Nat)} {β:Nat->Pl} : ∀ {ps:List (Nat × List Cell)} {us:List (Nat × Value)} {zc cs:List Cell},tI place zc ps=some cs ->
  us.map (fun p=>(p.1,p.2.cells))=ps.map (fun p=>(p.1,(p.2.map (gc β)).toArray))->Instr.fill place (zc.map (gc β)).toArray us=some (cs.map (gc β)).toArray /\
   (∀ hp:ah,(∀ c ∈ zc,okc hp c)->(∀ p ∈ ps,∀ c ∈ p.2,okc hp c) -> ∀ c ∈ cs,okc hp c)
 | [],us,zc,cs,h,hu=>by
  cases h
  have:us = []:=by simpa using hu
  subst this
  exact ⟨rfl,fun hp H _=>H⟩
 | (i,vs) :: ps,us,zc,cs,h,hu=>by
  cases us with
  | nil=>simp at hu
  | cons u us =>
   obtain ⟨i',v⟩:=u
   simp only [List.map_cons,List.cons.injEq,Prod.mk.injEq] at hu
   obtain ⟨⟨rfl,hv⟩,hu⟩:=hu
   simp only [tI] at h
   split at h
   ·cases h
   ·rename_i off size hp
    split at h
    ·rename_i hc
     simp only [Bool.and_eq_true] at hc
     have c1:=Nat.eq_of_beq_eq_true hc.1
     have c2:=aT hc.2
     obtain ⟨h1,h2⟩:=l6 h hu
     refine ⟨?_,fun H hz hps=>h2 H (fun c hcm => ?_) (fun p hpm=>hps p (by simp [hpm]))⟩
     ·rw [FK place _ i' v (vs.map (gc β)) us off size hp hv (by simpa using c1) (by simpa using c2),<- h1]
      congr 2
      simp [List.map_take,List.map_drop]
     ·rcases List.mem_append.1 hcm with hcm | hcm
      ·rcases List.mem_append.1 hcm with hcm | hcm
       ·exact hz c (List.mem_of_mem_take hcm)
       ·exact hps (i',vs) (by simp) c hcm
      ·exact hz c (List.mem_of_mem_drop hcm)
    ·cases h
theorem mi {α β:Type} (f:α->Option β) : ∀ xs:List α,cP f xs=xs.mapM f
 | []=>rfl
 | x :: xs=>by
  simp only [cP,List.mapM_cons,mi f xs]
  cases f x with
  | none=>rfl
  | some y=>cases xs.mapM f <;> rfl
theorem nB {α:Type} : ∀ (xs:List α) (i:Nat),nth xs i=xs[i]?
 | [],i=>by simp [nth]
 | x :: xs,0=>by simp [nth]
 | x :: xs,i+1=>by simp [nth,nB xs i]
theorem uU {P:Program} {β:Nat->Pl} {h:ah} {t:TypeId} {parts:Array (Nat × Operand)} {ev:Operand->Option AV} {ρ:Operand->Value} {e:Eff} (he:nk P t (iC ev parts.toList)=some e)
  (hev : ∀ p ∈ parts.toList,∀ v,ev p.2=some v->gv β v=ρ p.2/\okv h v) (w:World) :
  (Instr.build t (parts.map fun (i,x)=>(i,ρ x))).run P w = .ok (gv β e.val) w/\okv h e.val/\e.wr = []:=by
 unfold nk at he
 split at he
 ·rename_i z pl ps hz hpl hps
  split at he
  ·rename_i cs hcs
   cases he
   obtain ⟨it,zv,hit,hzv,hzc⟩:=eT hz β
   have hparts : ∀ (l:List (Nat × Operand)) (ps:List (Nat × List Cell)),(∀ p ∈ l,∀ v,ev p.2=some v->gv β v=ρ p.2/\okv h v)->iC ev l=some ps ->
     (l.map fun p=>(p.1,ρ p.2)).map (fun p=>(p.1,p.2.cells))=ps.map (fun p=>(p.1,(p.2.map (gc β)).toArray)) /\ ∀ p ∈ ps,∀ c ∈ p.2,okc h c:=by
    intro l
    induction l with
    | nil=>intro ps _ hl;cases hl;simp
    | cons p l ih =>
     intro ps H hl
     unfold iC at hl
     simp only [cP] at hl
     split at hl
     ·rename_i q qs hq hqs
      cases hl
      obtain ⟨i1,i2⟩:=ih qs (fun p' hp'=>H p' (by simp [hp'])) hqs
      split at hq
      ·rename_i v hv
       split at hq
       ·rename_i vs hvs
        cases hq
        obtain ⟨g1',g2'⟩:=H p (by simp) v hv
        refine ⟨?_,fun p' hp' => ?_⟩
        ·simp only [List.map_cons,i1]
         rw [<- g1',fw hvs β]
        ·rcases List.mem_cons.1 hp' with rfl | hp'
         ·exact gX hvs g2'
         ·exact i2 p' hp'
       ·cases hq
      ·cases hq
     ·cases hl
   obtain ⟨q1,q2⟩:=hparts parts.toList ps hev hps
   obtain ⟨f1,f2⟩:=l6 hcs q1
   have hb:P.built t (parts.map fun (i,x)=>(i,ρ x)).toList=some (cs.map (gc β)).toArray:=by
    unfold Program.built
    unfold CX at hpl
    rw [hit]
    simp only []
    split at hpl
    ·rename_i len el hu
     split at hpl
     ·rename_i ei hei
      cases hpl
      rw [hu]
      simp only [hzv,hei,hzc]
      simpa using f1
     ·cases hpl
    ·rename_i fs hu
     split at hpl
     ·rename_i pls hpls
      cases hpl
      rw [hu]
      simp only [hzv,hzc]
      rw [mi] at hpls
      have:fs.toList.mapM (fun f=>(P.info? f.type).map fun i=>(f.offset,i.size))=some pls:=by
       rw [<- hpls]
       congr 1
       funext f
       cases P.info? f.type <;> rfl
      rw [this]
      simp only [List.getElem?_toArray]
      rw [hzc]
      simpa using f1
     ·cases hpl
    ·cases hpl
   refine ⟨?_,f2 h (mE hz h) q2,rfl⟩
   rw [run_build w t _ _ hb]
   rfl
  ·cases he
 ·cases he
theorem Au {P:Program} {w0:W0} {β:Nat->Pl} {h:ah} {w:World} (r:HRel w0 β h w) {t ty:TypeId} {x:AV} {e:Eff} (he:mB P h t x=some e) (hp:e.pre.holds) :
  (Builtin.len_ #[t] ty #[gv β x]).run P w = .ok (gv β e.val) w/\okv h e.val/\e.wr = []:=by
 unfold mB at he
 split at he
 ·rename_i i off len sz rc kn el hu
  have main : ∀ b,h i = .live b->off+len*sz<=b.body.cells.length->0<sz->(Builtin.len_ #[t] ty #[gv β (.one (.c (.slc i off len sz rc kn)))]).run P w = .ok (gc β (Nq kn len)) w:=by
   intro b hi h1 h2
   have e1:gc β (Nq kn len)=goInt len:=by cases kn <;> rfl
   have hbk:=r.blk i b hi
   unfold BlkOk at hbk
   cases ha:(β i).base with
   | none =>
    rw [ha] at hbk
    rw [hbk.1] at h1
    simp only [List.length_nil] at h1
    have hl0:len=0:=by
     rcases Nat.eq_zero_or_pos len with e | e
     ·exact e
     ·have:=Nat.mul_pos e h2;omega
    subst hl0
    have e2:gv β (.one (.c (.slc i off 0 sz rc kn))) = .slice none 0 0:=by simp [gv,g1,gc,ha]
    rw [e1,e2]
    simp only [Builtin.len_]
    simp [run_underlying hu]
   | some a =>
    have e2:gv β (.one (.c (.slc i off len sz rc kn))) = .slice (some (a.add off)) len (rc.val (β i)):=by simp [gv,g1,gc,ha]
    rw [e1,e2]
    simp only [Builtin.len_]
    simp [run_underlying hu]
  have hok : ∀ hp:ah,okc hp (Nq kn len):=fun hp=>al (by cases kn <;> rfl)
  split at he
  ·rename_i b hb
   have hi:=aj hb
   split at he
   ·rename_i cs hbody
    split at he
    ·rename_i hc
     cases he
     simp only [Bool.and_eq_true] at hc
     exact ⟨main b hi (by rw [hbody];exact aT hc.1) (aT (a:=1) hc.2),hok h,rfl⟩
    ·cases he
   ·cases he
    exact ⟨main b hi hp.1 hp.2,hok h,rfl⟩
  ·cases he
 ·rename_i hu
  cases he
  refine ⟨?_,al rfl,rfl⟩
  simp only [Builtin.len_]
  simp [run_underlying hu,gv,g1,gc,goInt,jF]
 ·rename_i s hu
  cases he
  refine ⟨?_,al rfl,rfl⟩
  rw [show gv β (AV.one (AV1.c (.str s))) = .string ⟨s.toArray⟩ from rfl]
  simp only [Builtin.len_]
  simp [run_underlying hu]
  rfl
 ·rename_i i off n el hu
  cases he
  refine ⟨?_,al rfl,rfl⟩
  simp only [Builtin.len_]
  simp [run_underlying hu,gv,g1,gc,goInt,jF]
 ·rename_i xs n el hu
  cases he
  refine ⟨?_,al rfl,rfl⟩
  rw [show gv β (AV.one (AV1.agg xs)) = .agg (xs.map (gc β)).toArray from rfl]
  generalize (xs.map (gc β)).toArray=v
  simp only [Builtin.len_]
  simp [run_underlying hu,goInt]
  rfl
 ·cases he
theorem xL {P:Program} {isMax:Bool} {a b c:Cell} (h:Ca isMax a b=some c) (β:Nat->Pl) (w:World) :
  ((if isMax then Builtin.max2 else Builtin.min2) (gc β a) (gc β b)).run P w = .ok (gc β c) w/\c.idOf=none:=by
 unfold Ca at h
 split at h
 ·split at h
  ·rename_i hk
   have:=j4 hk
   subst this
   cases h
   cases isMax <;> exact ⟨rfl,rfl⟩
  ·cases h
 ·split at h
  ·rename_i k x k' y ha hb
   split at h
   ·rename_i hk
    have:=j4 hk
    subst this
    cases h
    rw [cR β ha,cR β hb]
    cases isMax <;> exact ⟨rfl,rfl⟩
   ·cases h
  ·cases h
theorem iN {P:Program} {isMax:Bool} {β:Nat->Pl} (w:World) : ∀ {rest:List AV} {a c:Cell},q9 isMax a rest=some c ->
  (List.foldlM (if isMax then Builtin.max2 else Builtin.min2) (gc β a) (rest.map (gv β))).run P w = .ok (gc β c) w/\(∀ hp:ah,okc hp a->okc hp c)
 | [],a,c,h=>by cases h;exact ⟨rfl,fun _ e=>e⟩
 | v :: rest,a,c,h=>by
  unfold q9 at h
  split at h
  ·rename_i h1;cases h1
  ·rename_i d rest' h1
   cases h1
   split at h
   ·rename_i e he
    obtain ⟨h1,h2⟩:=xL (P:=P) he β w
    obtain ⟨h3,h4⟩:=iN w h
    refine ⟨?_,fun hp _=>h4 hp (al h2)⟩
    simp only [List.map_cons,List.foldlM_cons,Sem.run_bind]
    rw [show gv β (AV.one (AV1.c d))=gc β d from rfl,h1]
    exact h3
   ·cases h
  ·cases h
end Go.Proofs.Ytibfppbffdedoaa
namespace Go.Proofs.Ytibfppbffdedoaa
open Go.RowKit
theorem HRel.newNil {w0:W0} {β:Nat->Pl} {h:ah} {w w':World} (r:HRel w0 β h w) {id:Nat} (hid:h id = .un) (hb:Below w.heap.size w w') (ty:TypeId) (esz:Nat) (hz:esz ≠ 0) (body:Body) {oth:Option (Addr × Nat × Nat)} (hbody:body.cells = []) :
  HRel w0 (upd β id ⟨none,0,oth⟩) (upd h id (.live ⟨true,ty,esz,body,false⟩)) w':=by
 have hgr:Grows h (upd h id (.live ⟨true,ty,esz,body,false⟩)):=Grows.upd _ _ (by simp)
 have r:=r.mono hb
 refine ⟨r.below,fun i c hc => ?_,fun i j c d hc hd hne hco hdo hbase => ?_,fun i c hc x hx => ?_,B7 r hid (fun e=>by cases e),Cf r (by simp) _⟩
 ·by_cases e:i=id
  ·subst e
   rw [ab] at hc
   cases hc
   unfold BlkOk
   rw [ab]
   exact ⟨hbody,rfl,hz⟩
  ·rw [ak _ _ e] at hc
   have hbk:=r.blk i c hc
   unfold BlkOk at hbk ⊢
   rw [ak _ _ e]
   cases ha:(β i).base with
   | none=>rw [ha] at hbk;exact hbk
   | some a =>
    rw [ha] at hbk
    refine ⟨hbk.1,fun j x hj => ?_,hbk.2.2⟩
    rw [iG (r.okc i c hc x (List.mem_of_getElem? hj)) hid]
    exact hbk.2.1 j x hj
 ·by_cases e:i=id
  ·subst e;rw [ab] at hbase;exact absurd rfl hbase
  ·rw [ak _ _ e] at hc hbase
   by_cases e2:j=id
   ·subst e2
    rw [ak _ _ e,ab]
    intro h
    cases ha:(β i).base with
    | none=>exact hbase ha
    | some a=>simp [bG,ha] at h
   ·rw [ak _ _ e2] at hd
    rw [ak _ _ e,ak _ _ e2]
    exact r.sep i j c d hc hd hne hco hdo hbase
 ·by_cases e:i=id
  ·subst e;rw [ab] at hc;cases hc;rw [hbody] at hx;cases hx
  ·rw [ak _ _ e] at hc;exact (r.okc i c hc x hx).grow hgr
theorem HRel.reown {w0:W0} {β:Nat->Pl} {h:ah} {w w':World} (r:HRel w0 β h w) {i id:Nat} {b:Blk} (hi:h i = .live b) (ho:b.own=true) {a:Addr} (ha:(β i).base=some a) (hid:h id = .un)
  (hb:Bel ⟨w,fun g=>g=a.block,fun _=>⟨none,0,none⟩⟩ w') (b':Blk) (hpin:b'.pin=false) (cap:Nat) (hblk:BlkOk (upd β id ⟨some a,cap,none⟩) w0 w' id b') (hok : ∀ c ∈ b'.body.cells,Go.Proofs.Ytibfppbffdedoaa.okc h c) :
  HRel w0 (upd β id ⟨some a,cap,none⟩) (upd (upd h i .dead) id (.live b')) w':=by
 have hne:i ≠ id:=fun e=>by subst e;rw [hi] at hid;cases hid
 have hgr:Grows h (upd (upd h i .dead) id (.live b')):=(Grows.upd h i (by simp)).trans (Grows.upd _ _ (by simp))
 have hbid:=r.blk i b hi
 have hB:w0.new a.block:=by
  unfold BlkOk at hbid;rw [ha] at hbid;exact (hbid.2.2.2.2 ho).1
 have old : ∀ {j:Nat} {c:Blk},upd (upd h i .dead) id (.live b') j = .live c->j ≠ id->h j = .live c/\j ≠ i:=by
  intro j c hc e
  rw [ak _ _ e] at hc
  by_cases e2:j=i
  ·subst e2;rw [ab] at hc;cases hc
  ·rw [ak _ _ e2] at hc;exact ⟨hc,e2⟩
 have far : ∀ {j:Nat} {c:Blk} {a':Addr},h j = .live c->j ≠ i->(β j).base=some a'->(c.own=true \/ c.body.cells ≠ [])->a'.block ≠ a.block:=by
  intro j c a' hc e ha' hne'
  have hci:=r.blk j c hc
  unfold BlkOk at hci
  rw [ha'] at hci
  cases hown:c.own with
  | false =>
   have:=hci.2.2.1 hown (hne'.resolve_left (by rw [hown];simp))
   rintro e2
   exact this (by rw [e2];exact hB)
  | true =>
   have:=r.sep j i c b hc hi e hown ho (by rw [ha'];simp)
   unfold bG at this
   rw [ha,ha'] at this
   intro e2
   exact this (by simp [e2])
 refine ⟨r.below.sub hb (by rintro g rfl;exact hB),fun j c hc => ?_,fun j k c d hc hd hne2 hco hdo hbase => ?_,fun j c hc x hx => ?_,fun j c hc hp => ?_,fun j k l hc => ?_⟩
 ·by_cases e:j=id
  ·subst e
   rw [ab] at hc
   cases hc
   exact hblk
  ·obtain ⟨hj,e2⟩:=old hc e
   have hci:=(r.blk j c hj).mono r.below (w':=w') fun a' ha' hne'=>hb.block _ ((r.blk j c hj).lt r.below ha' hne') (far hj e2 ha' hne')
   unfold BlkOk at hci ⊢
   rw [ak _ _ e]
   cases ha':(β j).base with
   | none=>rw [ha'] at hci;exact hci
   | some a' =>
    rw [ha'] at hci
    refine ⟨hci.1,fun m x hm => ?_,hci.2.2⟩
    rw [iG (r.okc j c hj x (List.mem_of_getElem? hm)) hid]
    exact hci.2.1 m x hm
 ·by_cases e:j=id
  ·subst e
   obtain ⟨hk,e2⟩:=old hd (Ne.symm hne2)
   rw [ab,ak _ _ (Ne.symm hne2)]
   intro hh
   cases ha':(β k).base with
   | none=>simp [bG,ha'] at hh
   | some a' =>
    have:=far hk e2 ha' (.inl hdo)
    simp [bG,ha'] at hh
    exact this hh.symm
  ·obtain ⟨hj,e2⟩:=old hc e
   rw [ak _ _ e] at hbase
   by_cases e3:k=id
   ·subst e3
    rw [ab,ak _ _ e]
    intro hh
    cases ha':(β j).base with
    | none=>exact hbase ha'
    | some a' =>
     have:=far hj e2 ha' (.inl hco)
     simp [bG,ha'] at hh
     exact this hh
   ·obtain ⟨hk,_⟩:=old hd e3
    rw [ak _ _ e,ak _ _ e3]
    exact r.sep j k c d hj hk hne2 hco hdo hbase
 ·by_cases e:j=id
  ·subst e
   rw [ab] at hc
   cases hc
   exact (hok x hx).grow hgr
  ·obtain ⟨hj,_⟩:=old hc e
   exact (r.okc j c hj x hx).grow hgr
 ·by_cases e:j=id
  ·subst e
   rw [ab] at hc
   cases hc
   rw [hpin] at hp
   cases hp
  ·obtain ⟨hj,_⟩:=old hc e
   rw [ak _ _ e]
   exact r.pin j c hj hp
 ·by_cases e:j=id
  ·subst e
   rw [ab] at hc
   cases hc
  ·rw [ak _ _ e] at hc ⊢
   by_cases e2:j=i
   ·subst e2
    rw [ab] at hc
    cases hc
   ·rw [ak _ _ e2] at hc
    exact r.lst j k l hc
theorem rB {b:Body} {off len sz:Nat} {kn:Bool} {r:Cond Els} (h:Ls b off len sz kn=some r) (hp:r.pre.holds):r.val.cells=(b.cells.drop off).take (len*sz)/\off+len*sz<=b.cells.length:=by
 unfold Ls at h
 split at h
 ·split at h
  ·rename_i h1
   cases h
   exact ⟨rfl,aT h1⟩
  ·cases h
 ·split at h
  ·rename_i h1
   cases h
   have h1:=Nat.eq_of_beq_eq_true h1
   subst h1
   simp only [Pr.holds] at hp
   simp only [Els.cells,Body.cells,Nat.mul_one]
   exact ⟨by rw [List.map_take,List.map_drop],by simpa using hp⟩
  ·cases h
 ·rename_i k xs
  split at h
  ·rename_i h1
   cases h
   have h1:=Nat.eq_of_beq_eq_true h1
   simp only [Pr.holds] at hp
   simp only [Els.cells,Body.cells]
   refine ⟨?_,hp.1⟩
   have h2:off=off / k.sz*k.sz:=by
    have:=Nat.div_add_mod off k.sz
    rw [hp.2,Nat.mul_comm] at this
    omega
   rw [<- iQ,<- iR,<- h2,gL,Nat.mul_assoc,h1]
  ·cases h
structure IsView (β : Nat -> Pl) (h : ah) (w : World) (sz : Nat) (v : AV) (s : SlV) : Prop where
 ex : ∃ base cap,gv β v = .slice base s.len cap/\(base=none->s.len=0/\cap=0) /\ ∀ a,base=some a -> ∀ j u,(s.els.cells.map (gc β))[j]? = some u->w.cell? (a.add j)=some u
 len:s.els.cells.length=s.len*sz
 ok : ∀ c ∈ s.els.cells,okc h c
theorem cC {w0:W0} {β:Nat->Pl} {h:ah} {w:World} (r:HRel w0 β h w) {sz:Nat} (h0:0<sz) {v:AV} {c:Cond SlV} (hv:ec h sz v=some c) (hp:c.pre.holds):IsView β h w sz v c.val:=by
 unfold ec at hv
 split at hv
 ·cases hv
  exact ⟨⟨none,0,rfl,fun _=>⟨rfl,rfl⟩,fun a e=>by cases e⟩,by simp [Els.cells],by simp [Els.cells]⟩
 ·rename_i i off len sz' rc kn
  split at hv
  ·rename_i b hb hsz
   have hsz:=Nat.eq_of_beq_eq_true hsz
   subst hsz
   have hi:=aj hb
   split at hv
   ·rename_i p e he
    cases hv
    obtain ⟨e1,e2⟩:=rB he hp
    simp only at e1
    have hbk:=r.blk i b hi
    refine ⟨?_,by simp only [e1,List.length_take,List.length_drop];omega,fun c hc => ?_⟩
    ·cases ha:(β i).base with
     | none =>
      unfold BlkOk at hbk
      rw [ha] at hbk
      rw [hbk.1] at e2
      have hl:len=0:=by
       simp at e2
       rcases Nat.mul_eq_zero.1 (show len*sz'=0 by omega) with h | h <;> omega
      exact ⟨none,0,by simp [gv,g1,gc,ha,hl],fun _=>⟨hl,rfl⟩,fun a e=>by cases e⟩
     | some a =>
      refine ⟨some (a.add off),rc.val (β i),by simp [gv,g1,gc,ha],(fun e=>by cases e),?_⟩
      rintro a' e j u hj
      cases e
      refine r.read hi ha off j u ?_
      rw [e1,List.getElem?_map,List.getElem?_take] at hj
      rw [List.getElem?_map]
      split at hj
      ·exact hj
      ·cases hj
    ·simp only [e1] at hc
     exact r.okc i b hi c (List.mem_of_mem_drop (List.mem_of_mem_take hc))
   ·cases hv
  ·cases hv
 ·rename_i i j s q len cap
  split at hv
  ·rename_i b hb hsz
   have hsz:=Nat.eq_of_beq_eq_true hsz
   subst hsz
   have hi:=aj hb
   split at hv
   ·rename_i p cs he
    cases hv
    obtain ⟨e1,e2⟩:=Body.getE_spec he hp
    simp only [Nat.mul_zero,Nat.zero_add] at e1 e2
    have hbk:=r.blk i b hi
    refine ⟨?_,by simp only [Els.cells,e2,Nat.mul_one],fun c hc => ?_⟩
    ·cases ha:(β i).base with
     | none =>
      unfold BlkOk at hbk
      rw [ha] at hbk
      have hl:len=0:=by
       rw [e1,hbk.1] at e2
       simp at e2
       exact e2.symm
      exact ⟨none,0,by simp [gv,g1,gc,ha,hl],fun _=>⟨hl,rfl⟩,fun a e=>by cases e⟩
     | some a =>
      refine ⟨some (a.add (j*s+q)),cap,by simp [gv,g1,gc,ha],(fun e=>by cases e),?_⟩
      rintro a' e k u hk
      cases e
      refine r.read hi ha (j*s+q) k u ?_
      simp only [Els.cells] at hk
      rw [e1,List.getElem?_map,List.getElem?_take] at hk
      rw [List.getElem?_map]
      split at hk
      ·exact hk
      ·cases hk
    ·simp only [Els.cells,e1] at hc
     exact r.okc i b hi c (List.mem_of_mem_drop (List.mem_of_mem_take hc))
   ·cases hv
  ·cases hv
 ·cases hv
theorem Ar {k k':EK} {xs:List k.ty} {ys:List k'.ty} {zs:List k.ty} (h:Lk k k' xs ys=some zs):zs.map k.cell=xs.map k.cell++ys.map k'.cell:=by
 cases k <;> cases k' <;> simp [Lk] at h <;> subst h <;> simp
theorem Aq {k k':RK} {xs:List k.ty} {ys:List k'.ty} {zs:List k.ty} (h:Lj k k' xs ys=some zs):ac k zs=ac k xs++ac k' ys:=by
 cases k <;> cases k' <;> simp [Lj] at h <;> subst h <;> exact eH _ _ _
theorem B0 {k:RK} (xs:List k.ty) (h:ah) : ∀ c ∈ ac k xs,okc h c:=fun c hc=>al (cM k xs c hc)
theorem rg {k:EK} {cs:List Cell} {xs:List k.ty} (h:cP k.rd cs=some xs) (β:Nat->Pl):(xs.map k.cell).map (gc β)=cs.map (gc β):=by
 rw [List.map_map]
 exact eM (fun c x e=>(k.rd_ok e β).symm) h
theorem Cd {k:EK} (xs:List k.ty) (h:ah) : ∀ c ∈ xs.map k.cell,okc h c:=by
 intro c hc
 obtain ⟨x,_,rfl⟩:=List.mem_map.1 hc
 exact al (k.cell_id x)
theorem Els.join_spec {a b r:Els} (h:a.join b=some r) (β:Nat->Pl):r.cells.map (gc β)=a.cells.map (gc β)++b.cells.map (gc β) /\ ∀ hp:ah,(∀ c ∈ a.cells,okc hp c)->(∀ c ∈ b.cells,okc hp c) -> ∀ c ∈ r.cells,okc hp c:=by
 cases a with
 | row a=>cases b with
  | row b =>
   cases h
   refine ⟨by simp [Els.cells],fun hp h1 h2 c hc => ?_⟩
   rcases List.mem_append.1 hc with hc | hc
   ·exact h1 c hc
   ·exact h2 c hc
  | lst k ys =>
   simp only [Els.join] at h
   split at h
   ·rename_i xs hx
    cases h
    refine ⟨by simp only [Els.cells,List.map_append];rw [rg hx β],fun hp h1 h2=>Cd _ hp⟩
   ·cases h
  | rws k ys =>
   simp only [Els.join] at h
   split at h
   ·rename_i xs hx
    cases h
    refine ⟨?_,fun hp h1 h2=>B0 _ hp⟩
    simp only [Els.cells,eH,List.map_append]
    rw [jM k β hx,fC k xs β]
   ·cases h
 | lst k xs=>cases b with
  | row b =>
   simp only [Els.join] at h
   split at h
   ·rename_i ys hy
    cases h
    refine ⟨by simp only [Els.cells,List.map_append];rw [rg hy β],fun hp h1 h2=>Cd _ hp⟩
   ·cases h
  | lst k' ys =>
   simp only [Els.join] at h
   split at h
   ·rename_i zs hz
    cases h
    refine ⟨by simp only [Els.cells];rw [Ar hz,List.map_append],fun hp h1 h2=>Cd _ hp⟩
   ·cases h
  | rws k' ys=>cases h
 | rws k xs=>cases b with
  | row b =>
   simp only [Els.join] at h
   split at h
   ·rename_i ys hy
    cases h
    refine ⟨?_,fun hp h1 h2=>B0 _ hp⟩
    simp only [Els.cells,eH,List.map_append]
    rw [jM k β hy,fC k ys β]
   ·cases h
  | lst k' ys=>cases h
  | rws k' ys =>
   simp only [Els.join] at h
   split at h
   ·rename_i zs hz
    cases h
    refine ⟨by simp only [Els.cells];rw [Aq hz,List.map_append],fun hp h1 h2=>B0 _ hp⟩
   ·cases h
theorem Els.body_cells (e:Els):e.body.cells=e.cells:=by cases e <;> rfl
theorem cu (h:ah) : ∀ (a b:List (Nat × HE)),eg h (a++b)=eg (eg h a) b
 | [],b=>rfl
 | (i,x) :: a,b=>cu (upd h i x) a b
theorem Ga {a:Addr} (h:a.spot=none):a.add 0=a:=by
 unfold Addr.add
 split <;> simp_all
theorem DI {a:Addr} (h1:a.spot=none) (h2:a.off=0):a=⟨a.block,0,none⟩:=by
 cases a
 simp only at h1 h2
 subst h1 h2
 rfl
theorem rR {w0:W0} {β:Nat->Pl} {h:ah} {w:World} (r:HRel w0 β h w) {e:TypeId} {sz:Nat} (h0:0<sz) {v:AV} {c:Cond SlV} (ha:ma h e sz v=true) (hv:ec h sz v=some c) (hp:c.pre.holds) :
  (gv β v = .slice none 0 0/\c.val.len=0/\c.val.els.cells = []/\((c.val.id = []) \/ ∃ i b,c.val.id = [i]/\h i = .live b)) \/
  ∃ i b a cur,c.val.id = [i]/\h i = .live b/\b.own=true/\b.ty=e/\(β i).base=some a/\a=⟨a.block,0,none⟩/\w.heap[a.block]? = some (.cells cur e (0,0))/\cur.size=(β i).cap*sz/\(β i).cap<=maxLen /\
   gv β v = .slice (some ⟨a.block,0,none⟩) c.val.len (β i).cap/\c.val.len<=(β i).cap/\cur.toList.take (c.val.len*sz)=c.val.els.cells.map (gc β):=by
 have hvw:=cC r h0 hv hp
 unfold ec at hv
 split at hv
 ·cases hv
  exact .inl ⟨rfl,rfl,rfl,.inl rfl⟩
 ·rename_i i off len sz' rc kn
  split at hv
  ·rename_i b hb hsz
   have hsz:=Nat.eq_of_beq_eq_true hsz
   subst hsz
   have hi:=aj hb
   split at hv
   ·rename_i p e' he
    cases hv
    obtain ⟨e1,e2⟩:=rB he hp
    simp only at e1
    cases rc with
    | kn n=>simp [ma,hb] at ha
    | of k =>
     simp only [ma,hb,Bool.and_eq_true] at ha
     obtain ⟨⟨⟨⟨ho,hoff⟩,hk⟩,hty⟩,hesz⟩:=ha
     have hoff:=Nat.eq_of_beq_eq_true hoff
     have hk:=Nat.eq_of_beq_eq_true hk
     have hty:=Nat.eq_of_beq_eq_true hty
     have hesz:=Nat.eq_of_beq_eq_true hesz
     subst hoff
     subst hk
     subst hty
     have hbk:=r.blk i b hi
     cases hba:(β i).base with
     | none =>
      unfold BlkOk at hbk
      rw [hba] at hbk
      rw [hbk.1] at e1 e2
      have hl:len=0:=by
       simp at e2
       rcases Nat.mul_eq_zero.1 (show len*sz'=0 by omega) with h | h <;> omega
      refine .inl ⟨by simp [gv,g1,gc,hba,hl],hl,by rw [e1];simp,.inr ⟨i,b,rfl,hi⟩⟩
     | some a =>
      unfold BlkOk at hbk
      rw [hba] at hbk
      obtain ⟨q0,q1,q2,q3,q4⟩:=hbk
      obtain ⟨r1,r2,cur,r3,r4,r5,r6⟩:=q4 ho
      obtain ⟨s1,s2⟩:=r5 (by omega)
      have ha':a=⟨a.block,0,none⟩:=DI (q0 (.inr (.inr ho))) r2
      have hadd:a.add 0=a:=Ga (q0 (.inr (.inr ho)))
      rw [hesz] at s1
      have hcap:len<=(β i).cap:=by
       have:len*sz'<=(β i).cap*sz':=by omega
       exact Nat.le_of_mul_le_mul_right this h0
      refine .inr ⟨i,b,a,cur,rfl,hi,ho,rfl,hba,ha',r3,s1,s2,?_,hcap,?_⟩
      ·simp only [gv,g1,gc,hba,hadd,RC.val,Nat.sub_zero]
       rw [<- ha']
      ·rw [e1]
       apply List.ext_getElem?
       intro j
       rw [List.getElem?_take,List.getElem?_map,List.drop_zero,List.getElem?_take]
       split
       ·rename_i hj
        have hj:j<len*sz':=hj
        have hjl:j<b.body.cells.length:=by omega
        have:=q1 j _ (List.getElem?_eq_getElem hjl)
        rw [List.getElem?_eq_getElem hjl]
        have hc:=cell_of_row w a.block j cur b.ty (0,0) r3
        rw [show a.add j=⟨a.block,j,none⟩ by rw [ha',Addr.add_lit,Nat.zero_add]] at this
        rw [hc] at this
        simpa using this
       ·rfl
   ·cases hv
  ·cases hv
 ·simp [ma] at ha
 ·cases hv
theorem EffOk.appended {w0:W0} {β:Nat->Pl} {h:ah} {w':World} {id:Nat} (hid:h id = .un) {e:TypeId} {sz:Nat} (hsz:sz ≠ 0) {ids:List Nat} (hids:ids = [] \/ ∃ i,ids = [i]/\i ≠ id) {n:Nat} {r:Els} (kn:Bool) {p:Pl} {v:Value}
  (hv:v=match p.base with | none => .slice none 0 0 | some a => .slice (some (a.add 0)) n p.cap)
  (hr:HRel w0 (upd β id p) (eg h (gH ids ++ [(id,.live ⟨true,e,sz,r.body,false⟩)])) w') :
  EffOk w0 β h id (.one (.c (.slc id 0 n sz (.of 0) kn))) (gH ids ++ [(id,.live ⟨true,e,sz,r.body,false⟩)]) v w':=by
 refine .one hid p ?_ hr ?_
 ·rw [hv]
  simp only [gv,g1,gc,ab,RC.val,Nat.sub_zero]
  obtain ⟨base,cap,oth⟩:=p
  cases base <;> rfl
 ·intro j hj
  cases hj
  rw [cu]
  simp only [eg,ab]
  simp
theorem sT {P:Program} {w0:W0} {β:Nat->Pl} {h:ah} {w:World} (r:HRel w0 β h w) {id:Nat} (hid:h id = .un) {t ty:TypeId} {x y:AV} {e:Eff} (he:et P h id t x y=some e) (hp:e.pre.holds) :
  ∃ v w',(Builtin.append_ #[t,t] ty #[gv β x,gv β y]).run P w = .ok v w'/\EffOk w0 β h id e.val e.wr v w':=by
 unfold et at he
 split at he
 ·rename_i el ht
  split at he
  ·rename_i ei z hi hz
   obtain ⟨i',zv,hi',hzv,hzc⟩:=eT hz β
   obtain rfl:ei=i':=by rw [hi] at hi';cases hi';rfl
   split at he
   ·rename_i p u q v hc hu hv
    split at he
    ·rename_i rr o hj ho
     cases he
     simp only [Bool.and_eq_true] at hc
     obtain ⟨⟨c1,c2⟩,c3⟩:=hc
     have c1:=Nat.eq_of_beq_eq_true c1
     have c2:0<ei.size:=Nat.le_of_ble_eq_true c2
     have hp12:=Pr.and_holds hp
     have hp1:=Pr.and_holds hp12.1
     have hzs:zv.cells.size=ei.size:=by rw [hzc];simp [c1]
     have hbound:u.len+v.len<=maxLen/\(u.len+v.len)*ei.bytes<=140737488355328:=by
      have h2:=hp12.2
      unfold KX at ho
      split at ho
      ·split at ho
       ·rename_i hb
        simp only [Bool.and_eq_true] at hb
        have b1:=aT hb.1
        exact ⟨by unfold maxLen;omega,aT hb.2⟩
       ·cases ho
      ·cases ho
       exact h2
     have hV:=cC r c2 hv hp1.2
     obtain ⟨jn1,jn2⟩:=Els.join_spec hj β
     obtain ⟨ybase,ycap,hy1,hy2,hy3⟩:=hV.ex
     have hylen:=hV.len
     have hrok:(∀ c ∈ u.els.cells,okc h c) -> ∀ c ∈ rr.body.cells,okc h c:=fun hu=>by
      rw [Els.body_cells]
      exact jn2 h hu hV.ok
     have hU:=cC r c2 hu hp1.1
     have hrlen:rr.body.cells.length=(u.len+v.len)*ei.size:=by
      have:=congrArg List.length jn1
      simp only [List.length_map,List.length_append] at this
      rw [Els.body_cells,this,hU.len,hylen,Nat.add_mul]
     have hone : ∀ c ∈ v.els.cells.map (gc β),c.oneCell'=true:=fv β _
     have hylen':(v.els.cells.map (gc β)).length=v.len*ei.size:=by rw [List.length_map,hylen]
     rcases rR r c2 c3 hu hp1.1 with ⟨x1,x2,x3,x4⟩ | ⟨i,b,a,cur,x1,x2,x3,x4,x5,x6,x7,x8,x9,x10,x11,x12⟩
     ·
      have hids:u.id = [] \/ ∃ i,u.id = [i]/\i ≠ id:=by
       rcases x4 with x4 | ⟨i,b,x4,x5⟩
       ·exact .inl x4
       ·exact .inr ⟨i,x4,fun e=>by subst e;rw [hid] at x5;cases x5⟩
      have hkill : ∀ {w'':World} {β':Nat->Pl},HRel w0 β' h w''->HRel w0 β' (eg h (gH u.id)) w''/\(eg h (gH u.id)) id = .un:=by
       intro w'' β' r'
       rcases hids with e | ⟨i,e,hne⟩
       ·rw [e];exact ⟨r',hid⟩
       ·rw [e]
        exact ⟨r'.kill i,by simp only [gH,eg];rw [ak _ _ (Ne.symm hne)];exact hid⟩
      simp only at x2 x3
      by_cases hm:v.len=0
      ·
       have hr0:rr.body.cells = []:=List.length_eq_zero_iff.1 (by rw [hrlen,x2,hm];simp)
       refine ⟨.slice none 0 0,w,?_,?_⟩
       ·rw [x1,hy1,hm]
        cases ybase with
        | none=>rw [(hy2 rfl).2];simp [Builtin.append_,run_underlying ht,sizeOf,typeInfo,hi,Builtin.lenOf,Builtin.firstCells]
        | some a=>simp [Builtin.append_,run_underlying ht,sizeOf,typeInfo,hi,Builtin.lenOf,Builtin.firstCells,loadCells,loadCellsFrom]
       ·obtain ⟨k1,k2⟩:=hkill r
        refine EffOk.appended (p:=⟨none,0,none⟩) hid (by omega) hids _ rfl ?_
        rw [cu]
        exact k1.newNil k2 (Below.refl _ _) el ei.size (by omega) rr.body hr0
      ·
       cases ybase with
       | none=>exact absurd (hy2 rfl).1 hm
       | some ya =>
        have hrun:=run_append_nil (P:=P) w t ty el ei zv ht hi hzv ya v.len ycap (v.els.cells.map (gc β)) hylen' (hy3 ya rfl) (by omega) (by have:=hbound.1;unfold maxLen at this;omega) (by have:=hbound.2;rw [x2,Nat.zero_add] at this;omega)
        rw [x1,hy1]
        refine ⟨_,_,hrun,?_⟩
        have hge:=grownCap_ge w v.len 0 el
        have hcm:=grownCap_le_maxLen w v.len 0 el (by have:=hbound.1;omega)
        obtain ⟨k1,k2⟩:=hkill r
        refine EffOk.appended (p:=⟨some ⟨w.heap.size,0,none⟩,grownCap w v.len 0 el,none⟩) hid (by omega) hids _ (by simp [x2,Addr.add]) ?_
        rw [cu]
        refine k1.new k2 ((Below.refl _ _).drew.alloc (Nat.le_refl _) _) w.heap.size _ el ei.size rr.body _ (Nat.le_refl _) (heap_alloc_new w.drew _) (fun j c hc => ?_) ?_ (fun _=>⟨?_,hcm⟩) (fun e=>by omega) (fun c hc => ?_)
        ·have e1:rr.body.cells.map (gc β)=v.els.cells.map (gc β):=by rw [Els.body_cells,jn1,x3];rfl
         have e2:(v.els.cells.map (gc β))[j]? = some (gc β c):=by rw [<- e1,List.getElem?_map,hc];rfl
         have hjl:j<(v.els.cells.map (gc β)).length:=(List.getElem?_eq_some_iff.1 e2).1
         rw [Array.getElem?_append_left (by simpa using hjl)]
         simpa using e2
        ·rw [hrlen,x2,Nat.zero_add];simp [size_zeroCells,hylen]
        ·simp only [Array.size_append,List.size_toArray,size_zeroCells,hzs,hylen',<- Nat.add_mul]
         congr 1
         omega
        ·have:=hrok (fun c hc=>by rw [x3] at hc;cases hc) c hc
         intro k hk
         have h2:=this k hk
         rcases hids with e | ⟨i,e,hne⟩
         ·rw [e];exact h2
         ·rw [e]
          simp only [gH,eg]
          by_cases e3:k=i
          ·subst e3;rw [ab];simp
          ·rw [ak _ _ e3];exact h2
     ·
      have hne:i ≠ id:=fun e=>by subst e;rw [x2] at hid;cases hid
      have hids:u.id = [] \/ ∃ i,u.id = [i]/\i ≠ id := .inr ⟨i,x1,hne⟩
      simp only at x1 x10 x11 x12
      have hwr:eg h (gH u.id ++ [(id,.live ⟨true,el,ei.size,rr.body,false⟩)])=upd (upd h i .dead) id (.live ⟨true,el,ei.size,rr.body,false⟩):=by rw [cu,x1];rfl
      have hbk:=r.blk i b x2
      unfold BlkOk at hbk
      rw [x5] at hbk
      have hnew:w0.new a.block:=(hbk.2.2.2.2 x3).1
      have hokall:=hrok hU.ok
      have blk : ∀ (w':World) (cur':Array Value),w'.heap[a.block]? = some (.cells cur' el (0,0))->cur'.size=cur.size->u.len+v.len<=(β i).cap->cur'.toList.take ((u.len+v.len)*ei.size)=u.els.cells.map (gc β)++v.els.cells.map (gc β) ->
        BlkOk (upd β id ⟨some a,(β i).cap,none⟩) w0 w' id ⟨true,el,ei.size,rr.body,false⟩:=by
       intro w' cur' g1 g2 g3 g4
       have hle:(u.len+v.len)*ei.size<=(β i).cap*ei.size:=Nat.mul_le_mul_right _ g3
       unfold BlkOk
       simp only [ab]
       refine ⟨fun _=>by rw [x6],fun j c hc => ?_,(by simp),fun _=>by rw [hrlen];exact hle,fun _=>⟨hnew,by rw [x6],cur',g1,by rw [hrlen,g2,x8];exact hle,fun _=>⟨by rw [g2,x8],x9⟩,fun e=>by omega⟩⟩
       have hjl:j<rr.body.cells.length:=(List.getElem?_eq_some_iff.1 hc).1
       have e2:(u.els.cells.map (gc β)++v.els.cells.map (gc β))[j]? = some (gc β c):=by
        rw [<- jn1,<- Els.body_cells,List.getElem?_map,hc];rfl
       rw [<- g4,List.getElem?_take,if_pos (by omega)] at e2
       rw [iG (hokall c (List.mem_of_getElem? hc)) hid]
       rw [show a.add j=⟨a.block,j,none⟩ by rw [x6,Addr.add_lit,Nat.zero_add],cell_of_row w' a.block j cur' el (0,0) g1]
       simpa using e2
      cases ybase with
      | none =>
       obtain ⟨m0,c0⟩:=hy2 rfl
       have m0:v.len=0:=m0
       refine ⟨.slice (some ⟨a.block,0,none⟩) u.len (β i).cap,w,?_,?_⟩
       ·rw [x10,hy1,m0,c0]
        simp [Builtin.append_,run_underlying ht,sizeOf,typeInfo,hi,Builtin.lenOf,Builtin.firstCells,x11,storeCells]
       ·refine EffOk.appended (p:=⟨some a,(β i).cap,none⟩) hid (by omega) hids _ (by simp only [];rw [m0,Nat.add_zero,x6];rfl) ?_
        rw [hwr]
        have hv0:v.els.cells = []:=List.length_eq_zero_iff.1 (by rw [hylen,m0];simp)
        refine r.reown x2 x3 x5 hid (Bel.refl ⟨w,_,fun _=>⟨none,0,none⟩⟩) _ rfl _ (blk w cur x7 rfl (by omega) ?_) hokall
        rw [m0,Nat.add_zero,x12,hv0];simp
      | some ya =>
       by_cases hroom:u.len+v.len<=(β i).cap
       ·have hfit:u.len*ei.size+(v.els.cells.map (gc β)).length<=cur.size:=by rw [hylen',x8,<- Nat.add_mul];exact Nat.mul_le_mul_right _ hroom
        have hrun:=run_append_room (P:=P) w t ty el ei ht hi a.block u.len (β i).cap cur x7 ya v.len ycap (v.els.cells.map (gc β)) hylen' (hy3 ya rfl) hone hroom hfit
        rw [x10,hy1]
        refine ⟨_,_,hrun,EffOk.appended (p:=⟨some a,(β i).cap,none⟩) hid (by omega) hids _ (by simp only [];rw [x6];rfl) ?_⟩
        rw [hwr]
        refine r.reown x2 x3 x5 hid ?_ _ rfl _ (blk _ _ (setRow_heap w a.block cur _ el _ x7) ?_ hroom ?_) hokall
        ·exact (Bel.refl ⟨w,fun g=>g=a.block,fun _=>⟨none,0,none⟩⟩).setRow _ (.inr rfl)
        ·simp only [List.size_toArray,List.length_append,List.length_take,List.length_drop,Array.length_toList]
         omega
        ·simp only []
         rw [x12]
         have:(u.els.cells.map (gc β)++v.els.cells.map (gc β)).length=(u.len+v.len)*ei.size:=by rw [List.length_append,List.length_map,hU.len,hylen',Nat.add_mul]
         rw [<- this]
         exact List.take_left
       ·have holds : ∀ j u',(u.els.cells.map (gc β))[j]? = some u'->w.cell? ((⟨a.block,0,none⟩:Addr).add j)=some u':=by
         intro j u' hj
         rw [<- x12,List.getElem?_take] at hj
         split at hj
         ·rw [Addr.add_lit,Nat.zero_add,cell_of_row w a.block j cur el (0,0) x7]
          simpa using hj
         ·cases hj
        have hrun:=run_append_grow (P:=P) w t ty el ei zv ht hi hzv ⟨a.block,0,none⟩ u.len (β i).cap (u.els.cells.map (gc β)) (by rw [List.length_map,hU.len]) holds ya v.len ycap (v.els.cells.map (gc β)) hylen' (hy3 ya rfl) (by omega) (by have:=hbound.1;unfold maxLen at this;omega) (growslice_fits (by omega) hbound.2)
        rw [x10,hy1]
        refine ⟨_,_,hrun,?_⟩
        have hge:=grownCap_ge w (u.len+v.len) (β i).cap el
        have hcm:=grownCap_le_maxLen w (u.len+v.len) (β i).cap el hbound.1
        refine EffOk.appended (p:=⟨some ⟨w.heap.size,0,none⟩,grownCap w (u.len+v.len) (β i).cap el,none⟩) hid (by omega) hids _ (by simp [Addr.add]) ?_
        rw [hwr]
        refine (r.kill i).new (by rw [ak _ _ (Ne.symm hne)];exact hid) ((Below.refl _ _).drew.alloc (Nat.le_refl _) _) w.heap.size _ el ei.size rr.body _ (Nat.le_refl _) (heap_alloc_new w.drew _) (fun j c hc => ?_) ?_ (fun _=>⟨?_,hcm⟩) (fun e=>by omega) (fun c hc => ?_)
        ·have e2:(u.els.cells.map (gc β)++v.els.cells.map (gc β))[j]? = some (gc β c):=by
          rw [<- jn1,<- Els.body_cells,List.getElem?_map,hc];rfl
         have hjl:=(List.getElem?_eq_some_iff.1 e2).1
         rw [Array.getElem?_append_left (by simpa using hjl)]
         rw [<- Array.getElem?_toList,Array.toList_append]
         simpa using e2
        ·rw [hrlen]
         simp only [Array.size_append,List.size_toArray,List.length_map,hU.len,hylen,Nat.add_mul]
         omega
        ·simp only [Array.size_append,List.size_toArray,size_zeroCells,hzs,hylen',List.length_map,hU.len,<- Nat.add_mul]
         congr 1
         omega
        ·intro k hk
         have h2:=hokall c hc k hk
         by_cases e3:k=i
         ·subst e3;rw [ab];simp
         ·rw [ak _ _ e3];exact h2
    ·cases he
   ·cases he
  ·cases he
 ·cases he
end Go.Proofs.Ytibfppbffdedoaa
namespace Go.Proofs.Ytibfppbffdedoaa
open Go.RowKit
theorem Jd {k:EK} (b:Bool) (x o:k.ty) (β:Nat->Pl):gc β (k.cell (gp b x o))=gp b (gc β (k.cell x)) (gc β (k.cell o)):=by cases b <;> rfl
theorem qF {k:EK} {ys:List k.ty} {m:Nat} {β:Nat->Pl} (hm:ys.length=m) : ∀ {cs ds:List Cell} {p:Nat},Gu k ys m p cs=some ds ->
  ds.length=cs.length/\(∀ c ∈ ds,c.idOf=none) /\ ∀ (j:Nat) (c:Cell),ds[j]? = some c->(if p+j<m then ((ys.map k.cell).map (gc β))[p+j]? else (cs.map (gc β))[j]?)=some (gc β c)
 | [],ds,p,h=>by cases h;exact ⟨rfl,by simp,fun j c hc=>by simp at hc⟩
 | c :: cs,ds,p,h=>by
  simp only [Gu] at h
  split at h
  ·rename_i o rest ho hr
   cases h
   obtain ⟨i1,i2,i3⟩:=qF (β:=β) hm hr
   refine ⟨by simp [i1],fun c' hc' => ?_,fun j c' hc' => ?_⟩
   ·rcases List.mem_cons.1 hc' with rfl | hc'
    ·exact k.cell_id _
    ·exact i2 c' hc'
   ·cases j with
    | zero =>
     simp at hc'
     subst hc'
     rw [Jd]
     by_cases hp:p<m
     ·have:Nat.blt p m=true:=Nat.ble_eq_true_of_le hp
      rw [Nat.add_zero,if_pos hp,this]
      simp only [gp,List.getElem?_map]
      have hpl:p<ys.length:=by omega
      simp only [List.getElem?_eq_getElem hpl]
      rfl
     ·have:Nat.blt p m=false:=by
       cases e:Nat.blt p m with
       | false=>rfl
       | true=>exact absurd (Nat.le_of_ble_eq_true e) hp
      rw [Nat.add_zero,if_neg hp,this]
      simp only [gp,List.map_cons,List.getElem?_cons_zero]
      exact congrArg some (k.rd_ok ho β)
    | succ j =>
     simp at hc'
     have:=i3 j c' hc'
     rw [show p+1+j=p+(j+1) by omega] at this
     rw [<- this]
     simp
  ·cases h
theorem xp {P:Program} {w0:W0} {β:Nat->Pl} {h:ah} {w:World} (r:HRel w0 β h w) {id:Nat} {t ty:TypeId} {x y:AV} {e:Eff} (he:il P h t x y=some e) (hp:e.pre.holds) :
  ∃ v w',(Builtin.copy_ #[t,t] ty #[gv β x,gv β y]).run P w = .ok v w'/\EffOk w0 β h id e.val e.wr v w':=by
 unfold il at he
 split at he
 ·rename_i i off len rc el ht
  split at he
  ·rename_i b ei q v hb hei hv
   have hi:=aj hb
   split at he
   ·rename_i cs hc hbody
    simp only [Bool.and_eq_true] at hc
    obtain ⟨ho,hz⟩:=hc
    have hz:=Nat.eq_of_beq_eq_true hz
    have hs:(P.info? el).map (·.size)=some 1:=by rw [hei];simp [hz]
    have main : ∀ (hq:q.holds) (kn:Bool) (ds:List Cell),off+len<=cs.length->ds.length=cs.length->(∀ c ∈ ds,okc h c) ->
      (∀ (j:Nat) (c:Cell),ds[j]? = some c->(if off<=j/\j<off+min v.len len then (v.els.cells.map (gc β))[j-off]? else (cs.map (gc β))[j]?)=some (gc β c)) ->
      ∃ u w',(Builtin.copy_ #[t,t] ty #[gv β (.one (.c (.slc i off len 1 rc true))),gv β y]).run P w = .ok u w'/\u = .int .i64 ((min v.len len:Nat):Int)/\HRel w0 β (upd h i (.live { b with body := .row ds })) w':=by
     intro hq kn ds hfit hdl hdok hds
     have hV:=cC r (by omega:0<1) hv hq
     obtain ⟨ybase,ycap,hy1,hy2,hy3⟩:=hV.ex
     have hylen:v.els.cells.length=v.len:=by have:=hV.len;simpa using this
     have hbk:=r.blk i b hi
     cases ha:(β i).base with
     | none =>
      unfold BlkOk at hbk
      rw [ha,hbody] at hbk
      have hcs0:cs = []:=hbk.1
      subst hcs0
      simp at hfit hdl
      subst hdl
      refine ⟨.int .i64 0,w,?_,by rw [hfit.2];simp,?_⟩
      ·rw [hy1]
       simp only [gv,g1,gc,ha]
       exact run_copy_none (P:=P) w t t ty el none ybase 0 0 v.len ycap ht hs (by simp [Nat.min_eq_right])
      ·have e1:({ b with body := .row [] }:Blk)=b:=by cases b;simp only at hbody;subst hbody;rfl
       rw [e1]
       have e2:upd h i (.live b)=h:=by rw [<- hi];exact GW h i
       rw [e2];exact r
     | some a =>
      unfold BlkOk at hbk
      rw [ha] at hbk
      obtain ⟨q0,q1,q2,q3,q4⟩:=hbk
      obtain ⟨r1,r2,cur,r3,r4,r5,r6⟩:=q4 ho
      have ha':=DI (q0 (.inr (.inr ho))) r2
      rw [hbody] at r4
      simp only [Body.cells] at r4
      have hadd:a.add off=⟨a.block,off,none⟩:=by rw [ha',Addr.add_lit,Nat.zero_add]
      have hcur : ∀ (j:Nat) (c:Cell),cs[j]? = some c->cur[j]? = some (gc β c):=by
       intro j c hc
       have:=q1 j c (by rw [hbody];exact hc)
       rw [show a.add j=⟨a.block,j,none⟩ by rw [ha',Addr.add_lit,Nat.zero_add],cell_of_row w a.block j cur b.ty (0,0) r3] at this
       exact this
      by_cases hm:min v.len len=0
      ·
       refine ⟨.int .i64 0,w,?_,by rw [hm];rfl,?_⟩
       ·rw [hy1]
        simp only [gv,g1,gc,ha]
        exact run_copy_none (P:=P) w t t ty el (some (a.add off)) ybase len (rc.val (β i)) v.len ycap ht hs hm
       ·have hput:=r.put hi ho ha (.row ds) cur cur r3 rfl (by rw [hbody];exact hdl) (fun j c hc => ?_) hdok
        ·rw [setRow_self w a.block cur b.ty (0,0) r3] at hput
         exact hput
        ·have:=hds j c hc
         rw [if_neg (by omega)] at this
         rw [List.getElem?_map] at this
         cases hcj:cs[j]? with
         | none=>rw [hcj] at this;cases this
         | some c' =>
          rw [hcj] at this
          rw [hcur j c' hcj]
          simpa using this
      ·cases ybase with
       | none=>exact absurd (by rw [(hy2 rfl).1];simp) hm
       | some ya =>
        have hn:((v.els.cells.map (gc β)).take (min v.len len)).length=Nat.min v.len len:=by
         rw [List.length_take,List.length_map,hylen]
         show min (min v.len len) v.len=min v.len len
         omega
        have hsrc : ∀ j u,((v.els.cells.map (gc β)).take (min v.len len))[j]? = some u->w.cell? (ya.add j)=some u:=by
         intro j u hj
         rw [List.getElem?_take] at hj
         split at hj
         ·exact hy3 ya rfl j u hj
         ·cases hj
        have hrun:=run_copy_row (P:=P) w t t ty el a.block off len (rc.val (β i)) ya v.len ycap cur b.ty _ ht hs r3 hn hsrc (by rw [hn];show off+min v.len len<=cur.size;omega) (fun u hu=>fv β _ u (List.mem_of_mem_take hu))
        rw [hy1]
        simp only [gv,g1,gc,ha,hadd]
        refine ⟨_,_,hrun,by rw [hn];rfl,?_⟩
        refine r.put hi ho ha (.row ds) cur _ r3 ?_ (by rw [hbody];exact hdl) (fun j c hc => ?_) hdok
        ·simp only [List.size_toArray,List.length_append,List.length_take,List.length_drop,Array.length_toList,List.length_map,hylen]
         omega
        ·have hj:=hds j c hc
         have hjl:=(List.getElem?_eq_some_iff.1 hc).1
         have hlen2:((v.els.cells.map (gc β)).take (min v.len len)).length=min v.len len:=hn
         rw [List.getElem?_toArray,List.append_assoc,List.getElem?_append,List.getElem?_append,hlen2]
         simp only [List.length_take,Array.length_toList,List.getElem?_take,List.getElem?_drop,Array.getElem?_toList]
         rw [Nat.min_eq_left (by omega)]
         by_cases h1:j<off
         ·rw [if_pos h1,if_pos h1]
          rw [if_neg (by omega),List.getElem?_map] at hj
          cases hcj:cs[j]? with
          | none=>rw [hcj] at hj;cases hj
          | some c' =>
           rw [hcj] at hj
           rw [hcur j c' hcj]
           simpa using hj
         ·rw [if_neg h1]
          by_cases h2:j-off<min v.len len
          ·rw [if_pos h2,if_pos h2]
           rw [if_pos (by omega)] at hj
           exact hj
          ·rw [if_neg h2]
           rw [if_neg (by omega),List.getElem?_map] at hj
           rw [show off+min v.len len+(j-off-min v.len len)=j by omega]
           cases hcj:cs[j]? with
           | none=>rw [hcj] at hj;cases hj
           | some c' =>
            rw [hcj] at hj
            rw [hcur j c' hcj]
            simpa using hj
    have fin : ∀ (c:Cell) (ds:List Cell),c.idOf=none->gc β c = .int .i64 ((min v.len len:Nat):Int)->(∃ u w',(Builtin.copy_ #[t,t] ty #[gv β (.one (.c (.slc i off len 1 rc true))),gv β y]).run P w = .ok u w'/\u = .int .i64 ((min v.len len:Nat):Int)/\HRel w0 β (upd h i (.live { b with body := .row ds })) w') ->
      ∃ v w',(Builtin.copy_ #[t,t] ty #[gv β (.one (.c (.slc i off len 1 rc true))),gv β y]).run P w = .ok v w'/\EffOk w0 β h id (.one (.c c)) [(i,.live { b with body := .row ds })] v w':=by
     rintro c ds hc hg ⟨u,w',h1,h2,h3⟩
     subst h2
     refine ⟨_,w',h1,?_⟩
     rw [<- hg]
     exact EffOk.same (val := .one (.c c)) h3 (al hc)
    split at he
    ·rename_i dsrc hfit hels hkn
     cases he
     have hq:q.holds:=hp
     have hfit:=aT hfit
     have hV:=cC r (by omega:0<1) hv hq
     have hylen:dsrc.length=v.len:=by have:=hV.len;rw [hels] at this;simpa [Els.cells] using this
     refine fin _ _ rfl rfl (main hq true _ hfit ?_ ?_ ?_)
     ·simp only [List.length_append,List.length_take,List.length_drop]
      omega
     ·intro c hc
      rcases List.mem_append.1 hc with hc | hc
      ·rcases List.mem_append.1 hc with hc | hc
       ·exact r.okc i b hi c (by rw [hbody];exact List.mem_of_mem_take hc)
       ·exact hV.ok c (by rw [hels];exact List.mem_of_mem_take hc)
      ·exact r.okc i b hi c (by rw [hbody];exact List.mem_of_mem_drop hc)
     ·intro j c hc
      rw [hels]
      simp only [Els.cells]
      rw [List.append_assoc,List.getElem?_append,List.getElem?_append] at hc
      simp only [List.length_take,List.getElem?_take,List.getElem?_drop] at hc
      rw [Nat.min_eq_left (by omega:off<=cs.length),Nat.min_eq_left (by omega:min v.len len<=dsrc.length)] at hc
      by_cases h1:j<off
      ·rw [if_pos h1,if_pos h1] at hc
       rw [if_neg (by omega),List.getElem?_map,hc];rfl
      ·rw [if_neg h1] at hc
       by_cases h2:j-off<min v.len len
       ·rw [if_pos h2,if_pos h2] at hc
        rw [if_pos (by omega),List.getElem?_map,hc];rfl
       ·rw [if_neg h2,show off+min v.len len+(j-off-min v.len len)=j by omega] at hc
        rw [if_neg (by omega),List.getElem?_map,hc];rfl
    ·rename_i kn k ys hfit hels
     split at he
     ·rename_i ds hds
      cases he
      have hq:q.holds:=hp
      have hfit:=aT hfit
      have hV:=cC r (by omega:0<1) hv hq
      have hylen:ys.length=v.len:=by have:=hV.len;rw [hels] at this;simpa [Els.cells] using this
      obtain ⟨o1,o2,o3⟩:=qF (β:=β) hylen hds
      have hdl:ds.length=len:=by rw [o1,List.length_take,List.length_drop];omega
      refine fin _ _ rfl rfl (main hq true _ hfit ?_ ?_ ?_)
      ·simp only [List.length_append,List.length_take,List.length_drop]
       omega
      ·intro c hc
       rcases List.mem_append.1 hc with hc | hc
       ·rcases List.mem_append.1 hc with hc | hc
        ·exact r.okc i b hi c (by rw [hbody];exact List.mem_of_mem_take hc)
        ·exact al (o2 c hc)
       ·exact r.okc i b hi c (by rw [hbody];exact List.mem_of_mem_drop hc)
      ·intro j c hc
       rw [hels]
       simp only [Els.cells]
       rw [List.append_assoc,List.getElem?_append,List.getElem?_append] at hc
       simp only [List.length_take,List.getElem?_take,List.getElem?_drop] at hc
       rw [Nat.min_eq_left (by omega:off<=cs.length),hdl] at hc
       by_cases h1:j<off
       ·rw [if_pos h1,if_pos h1] at hc
        rw [if_neg (by omega),List.getElem?_map,hc];rfl
       ·rw [if_neg h1] at hc
        by_cases h2:j-off<len
        ·rw [if_pos h2] at hc
         have:=o3 (j-off) c hc
         rw [Nat.zero_add] at this
         by_cases h3:j-off<v.len
         ·rw [if_pos h3] at this
          rw [if_pos (by omega)];exact this
         ·rw [if_neg h3,List.getElem?_map,List.getElem?_take,if_pos h2,List.getElem?_drop,show off+(j-off)=j by omega] at this
          rw [if_neg (by omega),List.getElem?_map];exact this
        ·rw [if_neg h2,show off+len+(j-off-len)=j by omega] at hc
         rw [if_neg (by omega),List.getElem?_map,hc];rfl
     ·cases he
    ·cases he
   ·cases he
  ·cases he
 ·cases he
theorem ru : ∀ (xs:List UInt8) (s:ByteArray),((xs.map fun x=>(x.toNat:Int)).foldl (fun r n=>r.push (UInt8.ofNat n.toNat)) s).data.toList=s.data.toList++xs
 | [],s=>by simp
 | x :: xs,s=>by
  simp only [List.map_cons,List.foldl_cons]
  rw [ru xs]
  simp [ByteArray.push]
theorem At {P:Program} {w0:W0} {β:Nat->Pl} {h:ah} {w:World} (r:HRel w0 β h w) {src dst:TypeId} {x:AV} {e:Eff} (he:lE P h src dst x=some e) (hp:e.pre.holds) :
  (convert src dst (gv β x)).run P w = .ok (gv β e.val) w/\okv h e.val/\e.wr = []:=by
 unfold lE at he
 split at he
 ·rename_i p v hc hv
  simp only [Bool.and_eq_true] at hc
  obtain ⟨h1,h2⟩:=hc
  obtain ⟨el,hs,hel,hsz⟩ : ∃ el,P.underlying src=some (.slice el)/\P.underlying el=some (.int .u8) /\ ∃ ei,P.info? el=some ei/\ei.size=1:=by
   unfold KT at h1
   split at h1
   ·rename_i el hs
    split at h1
    ·rename_i ei hel hei
     exact ⟨el,hs,hel,ei,hei,Nat.eq_of_beq_eq_true h1⟩
    ·cases h1
   ·cases h1
  have hd:P.underlying dst=some .string:=by
   unfold CN at h2
   split at h2
   ·assumption
   ·cases h2
  have main : ∀ (xs:List UInt8),p.holds->v.els.cells.map (gc β)=xs.map (fun x=>Value.int .u8 (x.toNat:Int))->(convert src dst (gv β x)).run P w = .ok (.string ⟨xs.toArray⟩) w:=by
   intro xs hq hx
   have hV:=cC r (by omega:0<1) hv hq
   obtain ⟨base,cap,hy1,hy2,hy3⟩:=hV.ex
   have hlen:v.len=xs.length:=by
    have:=congrArg List.length hx
    simp only [List.length_map] at this
    have h3:=hV.len
    simp only [Nat.mul_one] at h3
    omega
   rw [hy1,run_convert_bytes_string w src dst el base _ cap hs hel hd]
   cases base with
   | none =>
    obtain ⟨z1,z2⟩:=hy2 rfl
    have:xs = []:=List.length_eq_zero_iff.1 (by rw [<- hlen];exact z1)
    subst this
    rw [z1]
    rfl
   | some a =>
    have hl:=run_loadCells_list (P:=P) w a (v.els.cells.map (gc β)) (hy3 a rfl)
    rw [hx] at hl
    have e1:(xs.map (fun x=>Value.int .u8 (x.toNat:Int)))=(xs.map fun x=>(x.toNat:Int)).map (Value.int .u8):=by rw [List.map_map];rfl
    rw [e1,List.length_map,List.length_map] at hl
    rw [hlen,run_bytesToString w a xs.length cap _ hl]
    congr 2
    have:=ru xs ByteArray.empty
    generalize (xs.map fun x=>(x.toNat:Int)).foldl (fun r n=>r.push (UInt8.ofNat n.toNat)) ByteArray.empty=s at this
    cases s with
    | mk d =>
     simp only at this
     congr 1
     apply Array.ext'
     simpa using this
  split at he
  ·rename_i xs hels
   cases he
   refine ⟨main xs hp ?_,al rfl,rfl⟩
   rw [hels]
   simp only [Els.cells,List.map_map]
   rfl
  ·rename_i cs hels
   split at he
   ·rename_i xs hxs
    cases he
    refine ⟨main xs hp ?_,al rfl,rfl⟩
    rw [hels]
    simp only [Els.cells]
    exact (eM (fun c y e=>(mq β e).symm) hxs).symm
   ·cases he
  ·cases he
 ·cases he
end Go.Proofs.Ytibfppbffdedoaa
namespace Go.Proofs.Ytibfppbffdedoaa
open Go.RowKit
theorem OpRuns.value {P:Program} {o:Oper} {ρ:Operand->Value} {w w':World} {R:Value->World->Prop} {s:Sem Value} (he:execOp ρ o=(do pure (.value (<- s)):Sem Next)) {v:Value}
  (hs:s.run P w = .ok v w') (hr:R v w'):OpRuns P o ρ w R := .inl ⟨v,w',by rw [he,Sem.run_bind,hs];rfl,hr⟩
theorem OpRuns.unit {P:Program} {o:Oper} {ρ:Operand->Value} {w w':World} {R:Value->World->Prop} {s:Sem Unit} (he:execOp ρ o=(do s;pure .skip:Sem Next))
  (hs:s.run P w = .ok () w') (hr:R Go.undef w'):OpRuns P o ρ w R := .inr (.inl ⟨w',by rw [he,Sem.run_bind,hs];rfl,hr⟩)
theorem rh {ev:Operand->Option AV} {ρ:Operand->Value} {β:Nat->Pl} {h:ah} : ∀ {xs:List Operand} {vs:List AV},cP ev xs=some vs->(∀ x ∈ xs,∀ v,ev x=some v->gv β v=ρ x/\okv h v) ->
  vs.map (gv β)=xs.map ρ /\ ∀ v ∈ vs,okv h v
 | [],vs,e,_=>by cases e;simp
 | x :: xs,vs,e,H=>by
  simp only [cP] at e
  split at e
  ·rename_i y ys hy hys
   cases e
   obtain ⟨h1,h2⟩:=rh hys (fun z hz=>H z (by simp [hz]))
   obtain ⟨h3,h4⟩:=H x (by simp) y hy
   refine ⟨by simp [h1,h3],fun v hv => ?_⟩
   rcases List.mem_cons.1 hv with rfl | hv
   ·exact h4
   ·exact h2 v hv
  ·cases e
theorem kA (b:Bool):(lj b).idOf=none:=by cases b <;> rfl
theorem Ku (k n r:Bool):(mkB k n r).idOf=none:=by
 cases k
 ·rfl
 ·exact kA _
theorem qg (l:Bool) (k:IntKind) (r:Int ⊕ Bool):(JW l k r).idOf=none:=by
 cases r <;> cases l <;> first | rfl | exact kA _
theorem GY {op:BinOp} {x y:UInt64} {c:Cell} (h:z0 op x y=some c):c.idOf=none:=by cases op <;> simp [z0] at h <;> subst h <;> rfl
theorem GZ {op:BinOp} {x y:UInt32} {c:Cell} (h:z4 op x y=some c):c.idOf=none:=by cases op <;> simp [z4] at h <;> subst h <;> rfl
theorem LN {op:BinOp} {x y:UInt8} {c:Cell} (h:LO op x y=some c):c.idOf=none:=by cases op <;> simp [LO] at h <;> subst h <;> rfl
theorem DW {op:BinOp} {x:UInt64} {b c:Cell} (h:sJ op x b=some c):c.idOf=none:=by
 unfold sJ at h
 split at h
 ·split at h
  ·cases h
  ·split at h
   ·cases h;rfl
   ·cases h;rfl
   ·cases h
 ·cases h
theorem GX {op:BinOp} {x:UInt8} {b c:Cell} (h:zZ op x b=some c):c.idOf=none:=by
 unfold zZ at h
 split at h
 ·split at h
  ·cases h
  ·split at h
   ·cases h;rfl
   ·cases h;rfl
   ·cases h;rfl
   ·cases h
 ·cases h
theorem sA {op:BinOp} {a b:Cell} {r:Cond Cell} (h:oV op a b=some r):r.val.idOf=none:=by
 unfold oV at h
 split at h
 ·split at h
  ·cases h
  ·split at h
   ·split at h
    ·split at h
     ·cases h
     ·cases h;dsimp only;apply qg
    ·cases h;dsimp only;apply qg
    ·cases h;dsimp only;apply qg
   ·cases h
 ·cases h
theorem HG {op:BinOp} {a b:Cell} {r:Cond Cell} (h:tq op a b=some r):r.val.idOf=none:=by
 unfold tq at h
 split at h
 ·split at h
  ·split at h
   ·cases h;rfl
   ·cases h
  ·cases h
 ·exact sA h
theorem tX {right:Bool} {a b:Cell} {r:Cond Cell} (h:kW right a b=some r):r.val.idOf=none:=by
 unfold kW at h
 split at h
 ·cases a with
  | lit k x=>cases b <;> (simp only [Option.some.injEq] at h;subst h;rfl)
  | u64 x=>simp only [Option.some.injEq] at h;subst h;rfl
  | u32 x=>simp only [Option.some.injEq] at h;subst h;rfl
  | u8 x=>simp only [Option.some.injEq] at h;subst h;rfl
  | bit x=>simp only [Option.some.injEq] at h;subst h;rfl
  | int k x=>simp only [Option.some.injEq] at h;subst h;rfl
  | _=>simp at h
 ·cases h
theorem Iq {op:BinOp} {a b:Cell} {r:Cond Cell} (h:tA op a b=some r):r.val.idOf=none:=by
 unfold tA at h
 split at h
 ·exact tX h
 ·exact tX h
 ·split at h
  ·split at h
   ·unfold Gw at h
    split at h
    ·cases h
    ·split at h
     ·cases h;dsimp only;apply qg
     ·cases h
   ·cases h
  ·split at h
   ·split at h
    ·rename_i c hc;cases h;exact GY hc
    ·split at h
     ·rename_i c hc;cases h;exact DW hc
     ·exact sA h
   ·split at h
    ·split at h
     ·rename_i c hc;cases h;exact LN hc
     ·split at h
      ·rename_i c hc;cases h;exact GX hc
      ·exact sA h
    ·split at h
     ·unfold Lz at h
      split at h
      ·rename_i c hc;cases h;exact GZ hc
      ·cases h
     ·exact HG h
theorem NR {P:Program} {op:BinOp} {t:TypeId} {a b:AV} {r:Cond Cell} (h:NS P op t a b=some r):r.val.idOf=none:=by
 unfold NS at h
 split at h
 ·split at h
  ·rename_i r' hr;cases h;exact Iq hr
  ·split at h
   ·cases h
   ·split at h
    ·cases h;rfl
    ·split at h
     ·cases h;exact Ku _ _ _
     ·cases h
 ·split at h
  ·cases h
  ·split at h
   ·cases h
   ·split at h
    ·cases h;exact Ku _ _ _
    ·cases h
 ·cases h
theorem O7 {op:UnOp} {a:AV} {r:Cell} (h:unC op a=some r):r.idOf=none:=by
 unfold unC at h
 split at h
 ·split at h
  ·split at h <;> cases h <;> rfl
  ·split at h
   ·cases h;rfl
   ·cases h;rfl
   ·split at h
    ·cases h;rfl
    ·cases h
  ·split at h <;> cases h <;> rfl
  ·cases h
 ·cases h
theorem Jt {k:IntKind} {x r:Cell} (h:w5 k x=some r):r.idOf=none:=by
 cases x <;> cases k <;> simp [w5] at h <;> subst h <;> rfl
theorem Ju {P:Program} {src dst:TypeId} {a:AV} {r:Cell} (h:BH P src dst a=some r):r.idOf=none:=by
 unfold BH at h
 split at h
 ·split at h
  ·split at h
   ·cases h
   ·exact Jt h
  ·cases h
 ·cases h
theorem xx {β:Nat->Pl} {h:ah} {ev:Operand->Option AV} {ρ:Operand->Value} : ∀ (l:List (Nat × Operand)) (ps:List (Nat × List Cell)),(∀ p ∈ l,∀ v,ev p.2=some v->gv β v=ρ p.2/\okv h v)->iC ev l=some ps ->
  (l.map fun p=>(p.1,ρ p.2)).map (fun p=>(p.1,p.2.cells))=ps.map (fun p=>(p.1,(p.2.map (gc β)).toArray)) /\ ∀ p ∈ ps,∀ c ∈ p.2,okc h c:=by
 intro l
 induction l with
 | nil=>intro ps _ hl;cases hl;simp
 | cons p l ih =>
  intro ps H hl
  unfold iC at hl
  simp only [cP] at hl
  split at hl
  ·rename_i q qs hq hqs
   cases hl
   obtain ⟨i1,i2⟩:=ih qs (fun p' hp'=>H p' (by simp [hp'])) hqs
   split at hq
   ·rename_i v hv
    split at hq
    ·rename_i vs hvs
     cases hq
     obtain ⟨g1',g2'⟩:=H p (by simp) v hv
     refine ⟨?_,fun p' hp' => ?_⟩
     ·simp only [List.map_cons,i1]
      rw [<- g1',fw hvs β]
     ·rcases List.mem_cons.1 hp' with rfl | hp'
      ·exact gX hvs g2'
      ·exact i2 p' hp'
    ·cases hq
   ·cases hq
  ·cases hl
theorem uA {place:Nat->Option (Nat × Nat)} : ∀ {ps:List (Nat × List Cell)} {zc cs:List Cell},tI place zc ps=some cs->cs.length=zc.length
 | [],zc,cs,h=>by cases h;rfl
 | (i,vs) :: ps,zc,cs,h=>by
  simp only [tI] at h
  split at h
  ·cases h
  ·rename_i off size hp
   split at h
   ·rename_i hc
    simp only [Bool.and_eq_true] at hc
    have c1:=Nat.eq_of_beq_eq_true hc.1
    have c2:=aT hc.2
    rw [uA h]
    simp only [List.length_append,List.length_take,List.length_drop]
    omega
   ·cases h
theorem rC (z:List Cell) (n:Nat):(cyc z n).length=n:=by simp [cyc]
theorem nc {z:List Cell} {zv:Array Value} {β:Nat->Pl} (hz:zv=(z.map (gc β)).toArray) (h0:0<z.length) (n:Nat):madeCells zv n=((cyc z n).map (gc β)).toArray:=by
 subst hz
 apply Array.ext'
 simp only [madeCells,cyc,Array.toList_map,List.toList_toArray,List.map_map,Array.toList_range]
 refine List.map_congr_left fun i hi => ?_
 have hlt:i % z.length<z.length:=Nat.mod_lt _ h0
 simp [hlt,List.getD_eq_getElem?_getD]
theorem KN {z:List Cell} {n:Nat} {h:ah} (hz : ∀ c ∈ z,okc h c) : ∀ c ∈ cyc z n,okc h c:=by
 intro c hc
 simp only [cyc,List.mem_map] at hc
 obtain ⟨i,_,rfl⟩:=hc
 rw [List.getD_eq_getElem?_getD]
 cases hg:z[i % z.length]? with
 | none=>exact al rfl
 | some x=>exact hz x (List.mem_of_getElem? hg)
theorem sP {P:Program} {w0:W0} {β:Nat->Pl} {h:ah} {w:World} (r:HRel w0 β h w) {t:TypeId} {id j sz k ssz q:Nat} {lo hi mx:Option Operand} {ev:Operand->Option AV} {ρ:Operand->Value} {e:Eff}
  (he:en P h t id j sz ssz q (lo.map ev) (hi.map ev) (mx.map ev)=some e) (hp:e.pre.holds) :
  (Instr.sliceAt t (gv β (.one (.c (.pte id j sz k ssz q)))) (lo.map ρ) (hi.map ρ) (mx.map ρ)).run P w = .ok (gv β e.val) w/\okv h e.val/\e.wr = []:=by
 unfold en at he
 split at he
 ·rename_i n el hu
  split at he
  ·rename_i ei b hei hb hlo hhi hmx
   have hi':=aj hb
   split at he
   ·rename_i hsz
    cases he
    obtain ⟨a,ha,hs⟩:=je r hi' hp
    have e1:lo=none:=by cases lo with | none=>rfl | some x=>cases hlo
    have e2:hi=none:=by cases hi with | none=>rfl | some x=>cases hhi
    have e3:mx=none:=by cases mx with | none=>rfl | some x=>cases hmx
    subst e1 e2 e3
    refine ⟨?_,MT hi',rfl⟩
    have hrun:=wA (P:=P) false n n none none none 0 n n (.inl ⟨rfl,rfl⟩) (.inl ⟨rfl,rfl,rfl⟩) (.inl ⟨rfl,rfl⟩) (Nat.zero_le _) (Nat.le_refl _) (Nat.le_refl _) w
    have hg:gc β (.pte id j sz k 0 q) = .pointer (some (a.add (j*sz+q))):=by simp [gc,ha]
    simp only [Option.map_none,Instr.sliceAt,Sem.run_bind,run_underlying hu,Result.andThen_ok,gv,g1,hg,Instr.sureAddr,Sem.run_pure,hrun,aC hei]
    simp [gc,ha,bi a hs]
   ·cases he
  ·cases he
 ·cases he
theorem EffOk.made {w0:W0} {β:Nat->Pl} {h:ah} {w:World} (r:HRel w0 β h w) {id:Nat} (hid:h id = .un) (e:TypeId) (sz:Nat) (h0:sz ≠ 0) (n m:Nat) (hm:m<=maxLen) (body:Body) (cur:Array Value)
  (hcur:cur.size=m*sz) (hbody:body.cells.length=m*sz) (hpre : ∀ (i:Nat) (c:Cell),body.cells[i]? = some c->cur[i]? = some (gc β c)) (hok : ∀ c ∈ body.cells,okc h c) (kn:Bool) :
  EffOk w0 β h id (.one (.c (.slc id 0 n sz (.of 0) kn))) [(id,.live ⟨true,e,sz,body,false⟩)] (.slice (some ⟨w.heap.size,0,none⟩) n m) (w.alloc (.cells cur e)):=by
 refine .one hid ⟨some ⟨w.heap.size,0,none⟩,m,none⟩ ?_ ?_ ?_
 ·simp [gv,g1,gc,ab,Addr.add,RC.val]
 ·exact r.new hid ((Below.refl _ _).alloc (Nat.le_refl _) _) w.heap.size m e sz body cur (Nat.le_refl _) (heap_alloc_new w _) hpre (by omega) (fun _=>⟨hcur,hm⟩) (fun e=>absurd e h0) hok
 ·intro i hi
  simp [Cell.idOf] at hi
  subst hi
  simp [eg,ab]
theorem md {P:Program} {w0:W0} {β:Nat->Pl} {h:ah} {w:World} (r:HRel w0 β h w) {id:Nat} (hid:h id = .un) {t:TypeId} {len:Nat} {parts:Array (Nat × Operand)} {ev:Operand->Option AV} {ρ:Operand->Value} {e:Eff}
  (he:fj P id t len (iC ev parts.toList)=some e) (hev : ∀ p ∈ parts.toList,∀ v,ev p.2=some v->gv β v=ρ p.2/\okv h v) :
  ∃ v w',(Instr.buildSlice t len (parts.map fun (i,x)=>(i,ρ x))).run P w = .ok v w'/\EffOk w0 β h id e.val e.wr v w':=by
 unfold fj at he
 split at he
 ·rename_i el ps ht hps
  split at he
  ·rename_i ei z hi hz
   split at he
   ·rename_i cs hc hcs
    cases he
    simp only [Bool.and_eq_true] at hc
    obtain ⟨⟨c1,c2⟩,c3⟩:=hc
    have c1:=aT c1
    have c2:=Nat.eq_of_beq_eq_true c2
    have c3:0<ei.size:=Nat.le_of_ble_eq_true c3
    obtain ⟨i',zv,hi',hzv,hzc⟩:=eT hz β
    obtain rfl:ei=i':=by rw [hi] at hi';cases hi';rfl
    obtain ⟨q1,q2⟩:=xx parts.toList ps hev hps
    obtain ⟨f1,f2⟩:=l6 hcs q1
    have hl:=uA hcs
    rw [rC] at hl
    have hle:len<=16777216:=Nat.le_trans (Nat.le_mul_of_pos_right len c3) c1
    refine ⟨_,_,?_,EffOk.made r hid el ei.size (by omega) len len (by simp [maxLen];omega) (.row cs) (cs.map (gc β)).toArray (by simpa using hl) hl (fun i c hc=>by simp only [Body.cells] at hc;simp [hc]) (f2 h (KN (mE hz h)) q2) true⟩
    have hn : ¬ 16777216<len*ei.size:=by omega
    have hparts:(parts.map fun (i,x)=>(i,ρ x)).toList=parts.toList.map fun p=>(p.1,ρ p.2):=by simp
    by_cases h0:len*ei.size=0
    ·have hlen0:len=0:=by rcases Nat.mul_eq_zero.1 h0 with h | h <;> omega
     subst hlen0
     simp only [Nat.zero_mul,cyc,List.range_zero,List.map_nil] at f1
     have f1':Instr.fill (fun i=>some (i*ei.size,ei.size)) #[] (parts.toList.map fun p=>(p.1,ρ p.2))=some (cs.map (gc β)).toArray:=f1
     simp [Instr.buildSlice,run_underlying ht,sizeOf,typeInfo,hi,newRow,Array.range_zero',f1']
    ·have f1':Instr.fill (fun i=>some (i*ei.size,ei.size)) ((Array.range (len*ei.size)).map (zv.cells[· % zv.cells.size]!)) (parts.toList.map fun p=>(p.1,ρ p.2))=some (cs.map (gc β)).toArray:=by
      have:=nc hzc (by omega) (len*ei.size)
      unfold madeCells at this
      rw [this]
      exact f1
     simp [Instr.buildSlice,run_underlying ht,sizeOf,typeInfo,hi,zeroValue,hzv,hn,h0,newRow,f1']
   ·cases he
  ·cases he
 ·cases he
theorem uy (β:Nat->Pl) : ∀ n:Nat,(ac .fr (List.replicate n (⟨0,0,0,0⟩:Fr))).map (gc β)=List.replicate (n*4) (Value.int .u64 0)
 | 0=>rfl
 | n+1=>by
  have e:(RK.fr.cs (⟨0,0,0,0⟩:Fr)).map (gc β)=List.replicate 4 (Value.int .u64 0):=rfl
  rw [List.replicate_succ,cf,List.map_append,uy β n,e,List.replicate_append_replicate]
  congr 1
  omega
theorem BE (β:Nat->Pl) (m:Nat):(cyc [.lit .u64 (.ofNat 0),.lit .u64 (.ofNat 0),.lit .u64 (.ofNat 0),.lit .u64 (.ofNat 0)] m).map (gc β)=List.replicate m (Value.int .u64 0):=by
 refine List.eq_replicate_iff.2 ⟨by simp [cyc],fun b hb => ?_⟩
 obtain ⟨c,hc,rfl⟩:=List.mem_map.1 hb
 obtain ⟨i,_,rfl⟩:=List.mem_map.1 hc
 have h:i % 4<4:=Nat.mod_lt _ (by decide)
 show gc β ([Cell.lit .u64 (.ofNat 0),.lit .u64 (.ofNat 0),.lit .u64 (.ofNat 0),.lit .u64 (.ofNat 0)].getD (i % 4) .nilp)=_
 generalize i % 4=j at h
 match j,h with
 | 0,_=>rfl
 | 1,_=>rfl
 | 2,_=>rfl
 | 3,_=>rfl
theorem mg {z:List Cell} {n:Nat} {body:Body} (h:qe z n=some body) (β:Nat->Pl):0<z.length/\body.cells.length=n*z.length/\body.cells.map (gc β)=(cyc z (n*z.length)).map (gc β) /\ ∀ c ∈ body.cells,c.idOf=none:=by
 have key : ∀ (k:EK) (x:k.ty) (c:Cell),z = [c]->(∀ β,gc β (k.cell x)=gc β c)->body = .elts k (List.replicate n x)->0<z.length/\body.cells.length=n*z.length/\body.cells.map (gc β)=(cyc z (n*z.length)).map (gc β) /\ ∀ c ∈ body.cells,c.idOf=none:=by
  rintro k x c rfl hg rfl
  refine ⟨Nat.one_pos,by simp [Body.cells],?_,?_⟩
  ·apply List.ext_getElem?
   intro i
   simp only [Body.cells,List.map_map,List.getElem?_map,List.map_replicate,cyc,List.length_singleton,Nat.mod_one,Nat.mul_one]
   rcases Nat.lt_or_ge i n with h | h
   ·simp [List.getElem?_replicate,h,hg]
   ·simp [List.getElem?_replicate,Nat.not_lt.2 h,List.getElem?_eq_none,h]
  ·intro c hc
   simp only [Body.cells,List.map_replicate,List.mem_replicate] at hc
   rw [hc.2];exact k.cell_id x
 unfold qe at h
 split at h
 ·cases h;exact key .u64 _ _ rfl (fun _=>rfl) rfl
 ·cases h;exact key .u8 _ _ rfl (fun _=>rfl) rfl
 ·cases h;exact key .bool _ _ rfl (fun _=>rfl) rfl
 ·cases h;exact key .int _ _ rfl (fun _=>rfl) rfl
 ·cases h
  refine ⟨by decide,?_,?_,cM .fr _⟩
  ·show (ac .fr (List.replicate n (⟨0,0,0,0⟩:Fr))).length=n*4
   rw [aY,List.length_replicate]
   rfl
  ·show (ac .fr (List.replicate n (⟨0,0,0,0⟩:Fr))).map (gc β)=_
   rw [uy]
   exact (BE β _).symm
 ·cases h
theorem nq {P:Program} {w0:W0} {β:Nat->Pl} {h:ah} {w:World} (r:HRel w0 β h w) {id:Nat} (hid:h id = .un) {t:TypeId} {l c:AV} {e:Eff}
  (he:fU P id t l c=some e) (hp:e.pre.holds) :
  ∃ v w',(Instr.makeSlice t (gv β l) (gv β c)).run P w = .ok v w'/\EffOk w0 β h id e.val e.wr v w':=by
 unfold fU at he
 split at he
 ·rename_i el ht
  split at he
  ·rename_i ei z hi hz
   obtain ⟨i',zv,hi',hzv,hzc⟩:=eT hz β
   obtain rfl:ei=i':=by rw [hi] at hi';cases hi';rfl
   split at he
   ·rename_i kl n kc m
    split at he
    ·rename_i hc
     cases he
     simp only [Bool.and_eq_true,decide_eq_true_eq] at hc
     obtain ⟨⟨⟨⟨⟨c1,c2⟩,c3⟩,c4⟩,c5⟩,c6⟩:=hc
     have c3:=aT c3
     have c4:=aT c4
     have c5:=Nat.eq_of_beq_eq_true c5
     have c6:0<ei.size:=Nat.le_of_ble_eq_true c6
     have hmt:m.toNat<=16777216:=Nat.le_trans (Nat.le_mul_of_pos_right _ c6) c3
     obtain ⟨M,rfl⟩:=Int.eq_ofNat_of_zero_le (show 0<=m by omega)
     simp only [Int.toNat_natCast] at *
     have c4':(ei.bytes:Int)*(M:Int)<=281474976710656:=by
      have:((ei.bytes*M:Nat):Int)<=281474976710656:=by omega
      rwa [Int.natCast_mul] at this
     have hrun:=run_make (P:=P) w t el ei zv ht hi hzv kl kc n (M:Int) c1 c2 c4' (by omega)
     simp only [Int.toNat_natCast] at hrun
     refine ⟨_,_,hrun,EffOk.made r hid el ei.size (by omega) n.toNat M (by simp [maxLen];omega) (.row (cyc z (M*ei.size))) _ (size_madeCells _ _) (rC _ _) (fun i c hc => ?_) (KN (mE hz h)) true⟩
     rw [nc hzc (by omega)]
     simp only [Body.cells] at hc
     simp [hc]
    ·cases he
   ·rename_i a b _
    split at he
    ·rename_i ka n kb m ha hb hsz
     split at he
     ·rename_i body hbody
      cases he
      obtain ⟨p1,p2,p3,p4⟩:=hp
      simp only [Bool.and_eq_true] at hsz
      obtain ⟨hz1,hz2⟩:=hsz
      have hz1:=Nat.eq_of_beq_eq_true hz1
      have hz2:0<ei.size:=Nat.le_of_ble_eq_true hz2
      obtain ⟨M,rfl⟩:=Int.eq_ofNat_of_zero_le (show 0<=m by omega)
      simp only [Int.toNat_natCast] at *
      obtain ⟨s1,s2,s3,s4⟩:=mg hbody β
      rw [hz1] at s2 s3
      have hrun:=run_make (P:=P) w t el ei zv ht hi hzv ka kb n (M:Int) p1 p2 p3 (by omega)
      simp only [Int.toNat_natCast] at hrun
      have ea:gv β (.one (.c a)) = .int ka n:=cR β ha
      have eb:gv β (.one (.c b)) = .int kb (M:Int):=cR β hb
      rw [ea,eb]
      refine ⟨_,_,hrun,EffOk.made r hid el ei.size (by omega) n.toNat M (by simp [maxLen];omega) body _ (size_madeCells _ _) s2 (fun i c hc => ?_) (fun c hc=>al (s4 c hc)) false⟩
      rw [nc hzc (by omega),<- s3]
      simp [hc]
     ·cases he
    ·cases he
   ·cases he
  ·cases he
 ·cases he
section
variable {P : Program} (w : World)
theorem sM (t t' ty e:TypeId) (k k':IntKind) (i:TypeInfo) (z:Value) (ht:P.underlying t=some (.slice e)) (ht':P.underlying t'=some (.int k)) (hi:P.info? e=some i) (hz:i.zero=some z) :
  (Builtin.append_ #[t,t'] ty #[.slice none 0 0,.int k' 0]).run P w = .ok (.slice none 0 0) w:=by
 have hw:IntKind.i64.wrap 0=0:=by decide
 simp [Builtin.append_,run_underlying ht,run_underlying ht',sizeOf,typeInfo,hi,asInt,asIntOf,hw]
theorem sL (t t' ty e:TypeId) (k k':IntKind) (i:TypeInfo) (z:Value) (ht:P.underlying t=some (.slice e)) (ht':P.underlying t'=some (.int k)) (hi:P.info? e=some i) (hz:i.zero=some z) (g sLen sCap:Nat) (h:sLen<=sCap) :
  (Builtin.append_ #[t,t'] ty #[.slice (some ⟨g,0,none⟩) sLen sCap,.int k' 0]).run P w = .ok (.slice (some ⟨g,0,none⟩) sLen sCap) w:=by
 have hw:IntKind.i64.wrap 0=0:=by decide
 simp [Builtin.append_,run_underlying ht,run_underlying ht',sizeOf,typeInfo,hi,asInt,asIntOf,hw,h,storeCells]
theorem uN (t t' ty e:TypeId) (k k':IntKind) (i:TypeInfo) (z:Value) (ht:P.underlying t=some (.slice e)) (ht':P.underlying t'=some (.int k)) (hi:P.info? e=some i) (hz:i.zero=some z) (n:Nat) (hw:IntKind.i64.wrap (n:Int)=n) (hs:0<i.size)
  (h0:0<n) (h63:(n:Int)<=9223372036854775807) (h48:n*i.bytes<=281474976710656) :
  (Builtin.append_ #[t,t'] ty #[.slice none 0 0,.int k' (n:Int)]).run P w =
   .ok (.slice (some ⟨w.heap.size,0,none⟩) n (grownCap w n 0 e)) (w.drew.alloc (.cells (Builtin.zeroCells z.cells n++Builtin.zeroCells z.cells (grownCap w n 0 e-n)) e)):=by
 have hn:n ≠ 0:=by omega
 have hns : ¬ (n*i.size=0):=by rw [Nat.mul_eq_zero];omega
 have h63' : ¬ (9223372036854775807<(n:Int)):=by omega
 have h48' : ¬ (281474976710656<Builtin.nextslicecap n 0*i.bytes):=by rw [nextslicecap_zero h0];omega
 have hneg : ¬ ((n:Int)<0):=by omega
 have h48i : ¬ (281474976710656<(n:Int)*(i.bytes:Int)):=by
  have:((n*i.bytes:Nat):Int)<=281474976710656:=by omega
  rw [Int.natCast_mul] at this
  omega
 simp [Builtin.append_,run_underlying ht,run_underlying ht',sizeOf,typeInfo,zeroValue,hi,hz,asInt,asIntOf,hw,hn,hneg,h48i,hns,h63',h48',Question.forced,run_firstCells_none,newRow,grownCap]
theorem sN (t t' ty e:TypeId) (k k':IntKind) (i:TypeInfo) (z:Value) (ht:P.underlying t=some (.slice e)) (ht':P.underlying t'=some (.int k)) (hi:P.info? e=some i) (hz:i.zero=some z) (n:Nat) (hw:IntKind.i64.wrap (n:Int)=n) (hs:0<i.size)
  (b:Addr) (sLen sCap:Nat) (olds:List Value) (hlo:olds.length=sLen*i.size) (holds : ∀ j v,olds[j]? = some v->w.cell? (b.add j)=some v)
  (h0:0<n) (hg:sCap<sLen+n) (h63:((sLen+n:Nat):Int)<=9223372036854775807) (hb:n*i.bytes<=281474976710656) (hfit:Builtin.nextslicecap (sLen+n) sCap*i.bytes<=281474976710656) :
  (Builtin.append_ #[t,t'] ty #[.slice (some b) sLen sCap,.int k' (n:Int)]).run P w =
   .ok (.slice (some ⟨w.heap.size,0,none⟩) (sLen+n) (grownCap w (sLen+n) sCap e))
    (w.drew.alloc (.cells (olds.toArray++Builtin.zeroCells z.cells n++Builtin.zeroCells z.cells (grownCap w (sLen+n) sCap e-(sLen+n))) e)):=by
 have hn : ¬ (sLen+n<=sCap):=by omega
 have hns : ¬ (n*i.size=0):=by rw [Nat.mul_eq_zero];omega
 have h63' : ¬ (9223372036854775807<((sLen:Int)+(n:Int))):=by omega
 have h48' : ¬ (281474976710656<Builtin.nextslicecap (sLen+n) sCap*i.bytes):=by omega
 have hneg : ¬ ((n:Int)<0):=by omega
 have h48i : ¬ (281474976710656<(n:Int)*(i.bytes:Int)):=by
  have:((n*i.bytes:Nat):Int)<=281474976710656:=by omega
  rw [Int.natCast_mul] at this
  omega
 have hfo:=run_firstCells_some (P:=P) w.drew i.size sLen b sLen sCap olds hlo (by simpa using holds)
 have hn0:n ≠ 0:=by omega
 have hs0:i.size ≠ 0:=by omega
 simp [Builtin.append_,run_underlying ht,run_underlying ht',sizeOf,typeInfo,zeroValue,hi,hz,asInt,asIntOf,hw,hn,hn0,hs0,hneg,h48i,hns,h63',h48',Question.forced,hfo,newRow,grownCap]
theorem sK (t t' ty e:TypeId) (k k':IntKind) (i:TypeInfo) (z:Value) (ht:P.underlying t=some (.slice e)) (ht':P.underlying t'=some (.int k)) (hi:P.info? e=some i) (hz:i.zero=some z) (n:Nat) (hw:IntKind.i64.wrap (n:Int)=n) (hs:0<i.size)
  (g sLen sCap:Nat) (cur:Array Value) (hg:w.heap[g]? = some (.cells cur e (0,0)))
  (h0:0<n) (hb:n*i.bytes<=281474976710656) (hl:(Builtin.zeroCells z.cells n).size=n*i.size) (h1 : ∀ u ∈ (Builtin.zeroCells z.cells n).toList,u.oneCell'=true)
  (hroom:sLen+n<=sCap) (hfit:sLen*i.size+(Builtin.zeroCells z.cells n).toList.length<=cur.size) :
  (Builtin.append_ #[t,t'] ty #[.slice (some ⟨g,0,none⟩) sLen sCap,.int k' (n:Int)]).run P w =
   .ok (.slice (some ⟨g,0,none⟩) (sLen+n) sCap) (w.setRow g (cur.toList.take (sLen*i.size)++(Builtin.zeroCells z.cells n).toList++cur.toList.drop (sLen*i.size+(Builtin.zeroCells z.cells n).toList.length)).toArray):=by
 have hns : ¬ (n*i.size=0):=by rw [Nat.mul_eq_zero];omega
 have hneg : ¬ ((n:Int)<0):=by omega
 have h48i : ¬ (281474976710656<(n:Int)*(i.bytes:Int)):=by
  have:((n*i.bytes:Nat):Int)<=281474976710656:=by omega
  rw [Int.natCast_mul] at this
  omega
 have hn0:n ≠ 0:=by omega
 have hs0:i.size ≠ 0:=by omega
 have hst:=run_storeCells_at P g (sLen*i.size) e (Builtin.zeroCells z.cells n).toList 0 cur w hg (by simpa using hfit) h1
 simp only [Nat.add_zero] at hst
 simp [Builtin.append_,run_underlying ht,run_underlying ht',sizeOf,typeInfo,zeroValue,hi,hz,asInt,asIntOf,hw,hn0,hs0,hneg,h48i,hns,hroom,Addr.add_lit,hst]
end
theorem Body.els_cells (b:Body):b.els.cells=b.cells:=by cases b <;> rfl
theorem DQ (z:Array Value) (n:Nat):Builtin.zeroCells z n=madeCells z (n*z.size):=rfl
theorem zW {n:Nat} (h:n<=maxLen):IntKind.i64.wrap (n:Int)=(n:Int):=IntWalk.i64_in _ (by unfold maxLen at h;omega)
theorem pu {P:Program} {w0:W0} {β:Nat->Pl} {h:ah} {w:World} (r:HRel w0 β h w) {id:Nat} (hid:h id = .un) {t t' ty:TypeId} {x y:AV} {e:Eff} (he:dg P h id t t' x y=some e) (hp:e.pre.holds) :
  ∃ v w',(Builtin.append_ #[t,t'] ty #[gv β x,gv β y]).run P w = .ok v w'/\EffOk w0 β h id e.val e.wr v w':=by
 unfold dg at he
 split at he
 ·rename_i el kk ht ht'
  split at he
  ·rename_i ei z hi hz
   obtain ⟨i',zv,hi',hzv,hzc⟩:=eT hz β
   obtain rfl:ei=i':=by rw [hi] at hi';cases hi';rfl
   split at he
   ·rename_i cy
    split at he
    ·rename_i ky ny hcy
     split at he
     ·rename_i p u zb hc hu hzb
      split at he
      ·rename_i rr hj
       cases he
       simp only [Bool.and_eq_true] at hc
       obtain ⟨⟨c1,c2⟩,c3⟩:=hc
       have c1:=Nat.eq_of_beq_eq_true c1
       have c2:0<ei.size:=Nat.le_of_ble_eq_true c2
       obtain ⟨hp1,b0,b1,b2⟩:=Pr.and_holds hp
       have hzs:zv.cells.size=ei.size:=by rw [hzc];simp [c1]
       obtain ⟨N,rfl⟩:=Int.eq_ofNat_of_zero_le b0
       simp only [Int.toNat_natCast] at *
       have hbound:u.len+N<=maxLen/\(u.len+N)*ei.bytes<=140737488355328:=⟨b1,b2⟩
       have hw:IntKind.i64.wrap (N:Int)=(N:Int):=zW (by omega)
       have hNb:N*ei.bytes<=281474976710656:=Nat.le_trans (Nat.mul_le_mul_right _ (Nat.le_add_left N u.len)) (by omega)
       have hy:gv β (.one (.c cy)) = .int ky (N:Int):=cR β hcy
       obtain ⟨s1,s2,s3,s4⟩:=mg hzb β
       rw [c1] at s2 s3
       obtain ⟨jn1,jn2⟩:=Els.join_spec hj β
       rw [Body.els_cells] at jn1 jn2
       have hylen:zb.cells.length=N*ei.size:=s2
       have hnews:(Builtin.zeroCells zv.cells N).toList=zb.cells.map (gc β):=by
        rw [DQ,hzs,nc hzc (by omega),s3]
       have hnewsA:Builtin.zeroCells zv.cells N=(zb.cells.map (gc β)).toArray:=by
        apply Array.ext'
        rw [hnews]
       have hrok:(∀ c ∈ u.els.cells,okc h c) -> ∀ c ∈ rr.body.cells,okc h c:=fun hu=>by
        rw [Els.body_cells]
        exact jn2 h hu (fun c hc=>al (s4 c hc))
       have hU:=cC r c2 hu hp1
       have hrlen:rr.body.cells.length=(u.len+N)*ei.size:=by
        have:=congrArg List.length jn1
        simp only [List.length_map,List.length_append] at this
        rw [Els.body_cells,this,hU.len,hylen,Nat.add_mul]
       have hone : ∀ c ∈ zb.cells.map (gc β),c.oneCell'=true:=fv β _
       have hylen':(zb.cells.map (gc β)).length=N*ei.size:=by rw [List.length_map,hylen]
       rcases rR r c2 c3 hu hp1 with ⟨x1,x2,x3,x4⟩ | ⟨i,b,a,cur,x1,x2,x3,x4,x5,x6,x7,x8,x9,x10,x11,x12⟩
       ·
        have hids:u.id = [] \/ ∃ i,u.id = [i]/\i ≠ id:=by
         rcases x4 with x4 | ⟨i,b,x4,x5⟩
         ·exact .inl x4
         ·exact .inr ⟨i,x4,fun e=>by subst e;rw [hid] at x5;cases x5⟩
        have hkill : ∀ {w'':World} {β':Nat->Pl},HRel w0 β' h w''->HRel w0 β' (eg h (gH u.id)) w''/\(eg h (gH u.id)) id = .un:=by
         intro w'' β' r'
         rcases hids with e | ⟨i,e,hne⟩
         ·rw [e];exact ⟨r',hid⟩
         ·rw [e]
          exact ⟨r'.kill i,by simp only [gH,eg];rw [ak _ _ (Ne.symm hne)];exact hid⟩
        simp only at x2 x3
        by_cases hm:N=0
        ·
         have hr0:rr.body.cells = []:=List.length_eq_zero_iff.1 (by rw [hrlen,x2,hm];simp)
         refine ⟨.slice none 0 0,w,?_,?_⟩
         ·rw [x1,hy,hm]
          exact sM w t t' ty el kk ky ei zv ht ht' hi hzv
         ·obtain ⟨k1,k2⟩:=hkill r
          refine EffOk.appended (p:=⟨none,0,none⟩) hid (by omega) hids _ rfl ?_
          rw [cu]
          exact k1.newNil k2 (Below.refl _ _) el ei.size (by omega) rr.body hr0
        ·
         have hrun:=uN w t t' ty el kk ky ei zv ht ht' hi hzv N hw c2 (by omega) (by have:=hbound.1;unfold maxLen at this;omega) hNb
         rw [hnewsA] at hrun
         rw [x1,hy]
         refine ⟨_,_,hrun,?_⟩
         have hge:=grownCap_ge w N 0 el
         have hcm:=grownCap_le_maxLen w N 0 el (by have:=hbound.1;omega)
         obtain ⟨k1,k2⟩:=hkill r
         refine EffOk.appended (p:=⟨some ⟨w.heap.size,0,none⟩,grownCap w N 0 el,none⟩) hid (by omega) hids _ (by simp [x2,Addr.add]) ?_
         rw [cu]
         refine k1.new k2 ((Below.refl _ _).drew.alloc (Nat.le_refl _) _) w.heap.size _ el ei.size rr.body _ (Nat.le_refl _) (heap_alloc_new w.drew _) (fun j c hc => ?_) ?_ (fun _=>⟨?_,hcm⟩) (fun e=>by omega) (fun c hc => ?_)
         ·have e1:rr.body.cells.map (gc β)=zb.cells.map (gc β):=by rw [Els.body_cells,jn1,x3];rfl
          have e2:(zb.cells.map (gc β))[j]? = some (gc β c):=by rw [<- e1,List.getElem?_map,hc];rfl
          have hjl:j<(zb.cells.map (gc β)).length:=(List.getElem?_eq_some_iff.1 e2).1
          rw [Array.getElem?_append_left (by simpa using hjl)]
          simpa using e2
         ·rw [hrlen,x2,Nat.zero_add];simp [size_zeroCells,hylen]
         ·simp only [Array.size_append,List.size_toArray,size_zeroCells,hzs,hylen',<- Nat.add_mul]
          congr 1
          omega
         ·have:=hrok (fun c hc=>by rw [x3] at hc;cases hc) c hc
          intro k hk
          have h2:=this k hk
          rcases hids with e | ⟨i,e,hne⟩
          ·rw [e];exact h2
          ·rw [e]
           simp only [gH,eg]
           by_cases e3:k=i
           ·subst e3;rw [ab];simp
           ·rw [ak _ _ e3];exact h2
       ·
        have hne:i ≠ id:=fun e=>by subst e;rw [x2] at hid;cases hid
        have hids:u.id = [] \/ ∃ i,u.id = [i]/\i ≠ id := .inr ⟨i,x1,hne⟩
        simp only at x1 x10 x11 x12
        have hwr:eg h (gH u.id ++ [(id,.live ⟨true,el,ei.size,rr.body,false⟩)])=upd (upd h i .dead) id (.live ⟨true,el,ei.size,rr.body,false⟩):=by rw [cu,x1];rfl
        have hbk:=r.blk i b x2
        unfold BlkOk at hbk
        rw [x5] at hbk
        have hnew:w0.new a.block:=(hbk.2.2.2.2 x3).1
        have hokall:=hrok hU.ok
        have blk : ∀ (w':World) (cur':Array Value),w'.heap[a.block]? = some (.cells cur' el (0,0))->cur'.size=cur.size->u.len+N<=(β i).cap->cur'.toList.take ((u.len+N)*ei.size)=u.els.cells.map (gc β)++zb.cells.map (gc β) ->
          BlkOk (upd β id ⟨some a,(β i).cap,none⟩) w0 w' id ⟨true,el,ei.size,rr.body,false⟩:=by
         intro w' cur' g1 g2 g3 g4
         have hle:(u.len+N)*ei.size<=(β i).cap*ei.size:=Nat.mul_le_mul_right _ g3
         unfold BlkOk
         simp only [ab]
         refine ⟨fun _=>by rw [x6],fun j c hc => ?_,(by simp),fun _=>by rw [hrlen];exact hle,fun _=>⟨hnew,by rw [x6],cur',g1,by rw [hrlen,g2,x8];exact hle,fun _=>⟨by rw [g2,x8],x9⟩,fun e=>by omega⟩⟩
         have hjl:j<rr.body.cells.length:=(List.getElem?_eq_some_iff.1 hc).1
         have e2:(u.els.cells.map (gc β)++zb.cells.map (gc β))[j]? = some (gc β c):=by
          rw [<- jn1,<- Els.body_cells,List.getElem?_map,hc];rfl
         rw [<- g4,List.getElem?_take,if_pos (by omega)] at e2
         rw [iG (hokall c (List.mem_of_getElem? hc)) hid]
         rw [show a.add j=⟨a.block,j,none⟩ by rw [x6,Addr.add_lit,Nat.zero_add],cell_of_row w' a.block j cur' el (0,0) g1]
         simpa using e2
        by_cases m0:N=0
        ·refine ⟨.slice (some ⟨a.block,0,none⟩) u.len (β i).cap,w,?_,?_⟩
         ·rw [x10,hy,m0]
          exact sL w t t' ty el kk ky ei zv ht ht' hi hzv a.block u.len _ x11
         ·refine EffOk.appended (p:=⟨some a,(β i).cap,none⟩) hid (by omega) hids _ (by simp only [];rw [m0,Nat.add_zero,x6];rfl) ?_
          rw [hwr]
          have hv0:zb.cells = []:=List.length_eq_zero_iff.1 (by rw [hylen,m0];simp)
          refine r.reown x2 x3 x5 hid (Bel.refl ⟨w,_,fun _=>⟨none,0,none⟩⟩) _ rfl _ (blk w cur x7 rfl (by omega) ?_) hokall
          rw [m0,Nat.add_zero,x12,hv0];simp
        ·have hN0:0<N:=by omega
         by_cases hroom:u.len+N<=(β i).cap
         ·have hfit:u.len*ei.size+(zb.cells.map (gc β)).length<=cur.size:=by rw [hylen',x8,<- Nat.add_mul];exact Nat.mul_le_mul_right _ hroom
          have hrun:=sK w t t' ty el kk ky ei zv ht ht' hi hzv N hw c2 a.block u.len (β i).cap cur x7 (by omega) hNb (by rw [hnewsA,List.size_toArray,hylen']) (by rw [hnews];exact hone) hroom (by rw [hnews];exact hfit)
          rw [hnews] at hrun
          rw [x10,hy]
          refine ⟨_,_,hrun,EffOk.appended (p:=⟨some a,(β i).cap,none⟩) hid (by omega) hids _ (by simp only [];rw [x6];rfl) ?_⟩
          rw [hwr]
          refine r.reown x2 x3 x5 hid ?_ _ rfl _ (blk _ _ (setRow_heap w a.block cur _ el _ x7) ?_ hroom ?_) hokall
          ·exact (Bel.refl ⟨w,fun g=>g=a.block,fun _=>⟨none,0,none⟩⟩).setRow _ (.inr rfl)
          ·simp only [List.size_toArray,List.length_append,List.length_take,List.length_drop,Array.length_toList]
           omega
          ·simp only []
           rw [x12]
           have:(u.els.cells.map (gc β)++zb.cells.map (gc β)).length=(u.len+N)*ei.size:=by rw [List.length_append,List.length_map,hU.len,hylen',Nat.add_mul]
           rw [<- this]
           exact List.take_left
         ·have holds : ∀ j u',(u.els.cells.map (gc β))[j]? = some u'->w.cell? ((⟨a.block,0,none⟩:Addr).add j)=some u':=by
           intro j u' hj
           rw [<- x12,List.getElem?_take] at hj
           split at hj
           ·rw [Addr.add_lit,Nat.zero_add,cell_of_row w a.block j cur el (0,0) x7]
            simpa using hj
           ·cases hj
          have hrun:=sN w t t' ty el kk ky ei zv ht ht' hi hzv N hw c2 ⟨a.block,0,none⟩ u.len (β i).cap (u.els.cells.map (gc β)) (by rw [List.length_map,hU.len]) holds (by omega) (by omega) (by have:=hbound.1;unfold maxLen at this;omega) hNb (growslice_fits (by omega) hbound.2)
          rw [hnewsA] at hrun
          rw [x10,hy]
          refine ⟨_,_,hrun,?_⟩
          have hge:=grownCap_ge w (u.len+N) (β i).cap el
          have hcm:=grownCap_le_maxLen w (u.len+N) (β i).cap el hbound.1
          refine EffOk.appended (p:=⟨some ⟨w.heap.size,0,none⟩,grownCap w (u.len+N) (β i).cap el,none⟩) hid (by omega) hids _ (by simp [Addr.add]) ?_
          rw [hwr]
          refine (r.kill i).new (by rw [ak _ _ (Ne.symm hne)];exact hid) ((Below.refl _ _).drew.alloc (Nat.le_refl _) _) w.heap.size _ el ei.size rr.body _ (Nat.le_refl _) (heap_alloc_new w.drew _) (fun j c hc => ?_) ?_ (fun _=>⟨?_,hcm⟩) (fun e=>by omega) (fun c hc => ?_)
          ·have e2:(u.els.cells.map (gc β)++zb.cells.map (gc β))[j]? = some (gc β c):=by
            rw [<- jn1,<- Els.body_cells,List.getElem?_map,hc];rfl
           have hjl:=(List.getElem?_eq_some_iff.1 e2).1
           rw [Array.getElem?_append_left (by simpa using hjl)]
           rw [<- Array.getElem?_toList,Array.toList_append]
           simpa using e2
          ·rw [hrlen]
           simp only [Array.size_append,List.size_toArray,List.length_map,hU.len,hylen,Nat.add_mul]
           omega
          ·simp only [Array.size_append,List.size_toArray,size_zeroCells,hzs,hylen',List.length_map,hU.len,<- Nat.add_mul]
           congr 1
           omega
          ·intro k hk
           have h2:=hokall c hc k hk
           by_cases e3:k=i
           ·subst e3;rw [ab];simp
           ·rw [ak _ _ e3];exact h2
      ·cases he
     ·cases he
    ·cases he
   ·cases he
  ·cases he
 ·cases he
theorem Gh {E:Env} (hE:EnvOk E) {w0:W0} {β:Nat->Pl} {h:ah} {w:World} (r:HRel w0 β h w) {id:Nat} {o:Oper} (hids:GP h id (ck E o)) {ev:Operand->Option AV} {ρ:Operand->Value}
  (hev : ∀ x ∈ o.op.operands.toList,∀ v,ev x=some v->gv β v=ρ x/\okv h v) {e:Eff} (he:act E id ev h o=some e) (hp:e.pre.holds) :
  OpRuns E.P o ρ w (EffOk w0 β h id e.val e.wr):=by
 have hpure : ∀ (c:Cell),c.idOf=none->EffOk w0 β h id (.one (.c c)) [] (gc β c) w:=fun c hc=>EffOk.pure r (al hc)
 have hid:=hids.1
 unfold act at he
 split at he
 case h_1 x hop =>
  split at he
  ·rename_i v hv
   cases he
   obtain ⟨e1,e2⟩:=hev x (by rw [hop];simp [Op.operands]) v hv
   exact .inl ⟨ρ x,w,by simp [execOp,hop],e1 ▸ EffOk.pure r e2⟩
  ·cases he
 case h_2 x hop =>
  split at he
  ·rename_i v hv
   cases he
   obtain ⟨e1,e2⟩:=hev x (by rw [hop];simp [Op.operands]) v hv
   exact .inl ⟨ρ x,w,by simp [execOp,hop],e1 ▸ EffOk.pure r e2⟩
  ·cases he
 case h_3 c a b hop =>
  split at he
  ·rename_i cc hc
   obtain ⟨e1,e2⟩:=hev c (by rw [hop];simp [Op.operands]) _ hc
   have ha:=fun v hv=>hev a (by rw [hop];simp [Op.operands]) v hv
   have hb:=fun v hv=>hev b (by rw [hop];simp [Op.operands]) v hv
   have go : ∀ (p:Bool) (u:Value),ρ c = .bool p->u=(if p then ρ a else ρ b)->(execOp ρ o).run E.P w = .ok (.value u) w:=by
    intro p u h1 h2
    subst h2
    simp only [execOp,hop,h1,asBool]
    cases p <;> simp
   unfold wv at he
   split at he
   ·split at he
    ·rename_i v hv
     cases he
     obtain ⟨e3,e4⟩:=ha v hv
     exact .inl ⟨ρ a,w,go true _ (by rw [<- e1];rfl) rfl,e3 ▸ EffOk.pure r e4⟩
    ·cases he
   ·split at he
    ·rename_i v hv
     cases he
     obtain ⟨e3,e4⟩:=hb v hv
     exact .inl ⟨ρ b,w,go false _ (by rw [<- e1];rfl) rfl,e3 ▸ EffOk.pure r e4⟩
    ·cases he
   ·rename_i p
    split at he
    ·rename_i x y hx hy
     split at he
     ·rename_i bx bY hbx hby
      cases he
      obtain ⟨e3,_⟩:=ha _ hx
      obtain ⟨e5,_⟩:=hb _ hy
      have e3':ρ a = .bool bx:=by rw [<- e3];exact cK β hbx
      have e5':ρ b = .bool bY:=by rw [<- e5];exact cK β hby
      refine .inl ⟨_,w,go p _ (by rw [<- e1];rfl) rfl,?_⟩
      have:=hpure (.bool (match p with | true=>bx | false=>bY)) rfl
      cases p
      ·simpa [gc,e5',jF] using this
      ·simpa [gc,e3',jF] using this
     ·cases he
    ·cases he
   ·cases he
  ·cases he
 case h_4 t hop =>
  split at he
  ·rename_i cs hcs
   cases he
   obtain ⟨i,z,hi,hz,hzc⟩:=eT hcs β
   refine OpRuns.value (s:=Instr.alloc t true (.tuple #[])) (by simp [execOp,hop]) ?_ (EffOk.alloc r hid t cs (mE hcs h))
   simp only [Instr.alloc,zeroValue,typeInfo,Sem.run_bind,run_program,Result.andThen_ok,hi,Sem.run_pure,hz,newVar,newRow,run_newObj,hzc]
   rfl
  ·cases he
 case h_5 t x hop =>
  split at he
  ·rename_i v hv
   split at he
   ·rename_i cs hcs
    cases he
    obtain ⟨e1,e2⟩:=hev x (by rw [hop];simp [Op.operands]) v hv
    refine OpRuns.value (s:=Instr.box t (ρ x)) (by simp [execOp,hop]) ?_ (EffOk.alloc r hid t cs (gX hcs e2))
    rw [<- e1]
    simp only [Instr.box,Sem.run_bind,newVar,newRow,run_newObj,Result.andThen_ok,Sem.run_pure,fw hcs β]
    rfl
   ·cases he
  ·cases he
 case h_6 t parts hop =>
  obtain ⟨h1,h2,h3⟩:=uU (ρ:=ρ) (h:=h) (β:=β) he (fun p hp' v hv=>hev p.2 (by
   rw [hop]
   simp only [Op.operands]
   exact List.mem_map_of_mem hp') v hv) w
  refine OpRuns.value (by simp [execOp,hop]) h1 ?_
  rw [h3]
  exact EffOk.pure r h2
 case h_7 t a hop =>
  split at he
  ·rename_i i off ha
   obtain ⟨e1,_⟩:=hev a (by rw [hop];simp [Op.operands]) _ ha
   obtain ⟨h1,h2,h3⟩:=ow r he hp
   refine OpRuns.value (by simp only [execOp,hop,<- e1];rfl) h1 ?_
   rw [h3]
   exact EffOk.pure r h2
  ·rename_i i j sz k ssz q ha
   obtain ⟨e1,_⟩:=hev a (by rw [hop];simp [Op.operands]) _ ha
   unfold fN at he
   split at he
   ·rename_i kk l hi
    split at he
    ·obtain ⟨u,h1,h2⟩:=uQ r hid hi he hp
     exact OpRuns.value (by simp only [execOp,hop,<- e1];rfl) h1 h2
    ·cases he
   ·obtain ⟨h1,h2,h3⟩:=uR r he hp
    refine OpRuns.value (by simp only [execOp,hop,<- e1];rfl) h1 ?_
    rw [h3]
    exact EffOk.pure r h2
  ·cases he
 case h_8 t a x hop =>
  split at he
  ·rename_i i off v ha hx
   obtain ⟨e1,_⟩:=hev a (by rw [hop];simp [Op.operands]) _ ha
   obtain ⟨e2,e3⟩:=hev x (by rw [hop];simp [Op.operands]) _ hx
   obtain ⟨w',h1,h2,h3⟩:=uO r he hp e3
   refine OpRuns.unit (by simp only [execOp,hop,<- e1,<- e2];rfl) h1 ?_
   rw [h3]
   exact EffOk.same h2 (by intro v hv;cases hv)
  ·rename_i i j sz k ssz q v ha hx
   obtain ⟨e1,_⟩:=hev a (by rw [hop];simp [Op.operands]) _ ha
   obtain ⟨e2,e3⟩:=hev x (by rw [hop];simp [Op.operands]) _ hx
   obtain ⟨w',h1,h2,h3⟩:=sO r he hp e3
   refine OpRuns.unit (by simp only [execOp,hop,<- e1,<- e2];rfl) h1 ?_
   rw [h3]
   exact EffOk.same h2 (by intro v hv;cases hv)
  ·cases he
 case h_9 x hop =>
  split at he
  ·rename_i i j sz k ssz q hv
   obtain ⟨e1,e2⟩:=hev x (by rw [hop];simp [Op.operands]) _ hv
   unfold jq at he
   split at he
   ·rename_i b hb
    cases he
    obtain ⟨a,ha,_⟩:=je r (aj hb) hp
    have h1:gv β (.one (.c (.pte i j sz k ssz q))) = .pointer (some (a.add (j*sz+(k*ssz+q)))):=by simp [gv,g1,gc,ha]
    refine .inl ⟨ρ x,w,by simp only [execOp,hop,<- e1,h1];rfl,?_⟩
    rw [<- e1]
    exact EffOk.pure r e2
   ·cases he
  ·rename_i v hv
   obtain ⟨e1,e2⟩:=hev x (by rw [hop];simp [Op.operands]) _ hv
   obtain ⟨⟨a,h1⟩,h2,h3,h4⟩:=oO (P:=E.P) r he
   refine .inl ⟨ρ x,w,by simp only [execOp,hop,<- e1,h1];rfl,?_⟩
   rw [h4,h2,<- e1]
   exact EffOk.pure r e2
  ·cases he
 case h_10 op t x y yt hop =>
  split at he
  ·rename_i a b ha hb
   split at he
   ·rename_i c hc
    cases he
    obtain ⟨e1,_⟩:=hev x (by rw [hop];simp [Op.operands]) _ ha
    obtain ⟨e2,_⟩:=hev y (by rw [hop];simp [Op.operands]) _ hb
    have hrun:=Hw β hc hp x y w
    refine OpRuns.value (by simp only [execOp,hop,<- e1,<- e2]) hrun (hpure _ (NR hc))
   ·cases he
  ·cases he
 case h_11 op t x hop =>
  split at he
  ·rename_i a ha
   split at he
   ·rename_i c hc
    cases he
    obtain ⟨e1,_⟩:=hev x (by rw [hop];simp [Op.operands]) _ ha
    refine OpRuns.value (by simp only [execOp,hop,<- e1]) (Mg β hc w) (hpure _ (O7 hc))
   ·cases he
  ·cases he
 case h_12 src dst x hop =>
  split at he
  ·rename_i a ha
   split at he
   ·rename_i c hc
    cases he
    obtain ⟨e1,_⟩:=hev x (by rw [hop];simp [Op.operands]) _ ha
    refine OpRuns.value (by simp only [execOp,hop,<- e1]) (Ek β hc w) (hpure _ (Ju hc))
   ·obtain ⟨e1,_⟩:=hev x (by rw [hop];simp [Op.operands]) _ ha
    obtain ⟨h1,h2,h3⟩:=At r he hp
    refine OpRuns.value (by simp only [execOp,hop,<- e1]) h1 ?_
    rw [h3]
    exact EffOk.pure r h2
  ·cases he
 case h_13 t x hop =>
  split at he
  ·rename_i v hv
   obtain ⟨e1,_⟩:=hev x (by rw [hop];simp [Op.operands]) _ hv
   obtain ⟨h1,h2,h3⟩:=pr r he
   refine OpRuns.value (by simp only [execOp,hop,<- e1]) h1 ?_
   rw [h3]
   exact EffOk.pure r h2
  ·cases he
 case h_14 t x lo hi mx hop =>
  split at he
  ·rename_i i j sz k ssz q hv
   obtain ⟨e1,_⟩:=hev x (by rw [hop];simp [Op.operands]) _ hv
   obtain ⟨h1,h2,h3⟩:=sP (lo:=lo) (hi:=hi) (mx:=mx) (ρ:=ρ) (k:=k) r he hp
   refine OpRuns.value (by simp only [execOp,hop,<- e1]) h1 ?_
   rw [h3]
   exact EffOk.pure r h2
  ·rename_i v hv
   obtain ⟨e1,_⟩:=hev x (by rw [hop];simp [Op.operands]) _ hv
   obtain ⟨u,h1,h2⟩:=uP r hid (x:=x) (ρ:=ρ) (lo:=lo) (hi:=hi) (mx:=mx) he hp e1
    (fun y hy v hv=>(hev y (by rw [hop];simp only [Op.operands];simp at hy ⊢;simp [hy]) v hv).1)
    (fun y hy v hv=>(hev y (by rw [hop];simp only [Op.operands];simp at hy ⊢;simp [hy]) v hv).1)
    (fun y hy v hv=>(hev y (by rw [hop];simp only [Op.operands];simp at hy ⊢;simp [hy]) v hv).1)
   exact OpRuns.value (by simp only [execOp,hop]) h1 h2
  ·cases he
 case h_15 s x f hop =>
  split at he
  ·rename_i i j sz k ssz q hv
   obtain ⟨e1,_⟩:=hev x (by rw [hop];simp [Op.operands]) _ hv
   obtain ⟨h1,h2,h3⟩:=sS r he hp
   refine OpRuns.value (by simp only [execOp,hop,<- e1,gv,g1]) h1 ?_
   rw [h3]
   exact EffOk.pure r h2
  ·rename_i v hv
   obtain ⟨e1,_⟩:=hev x (by rw [hop];simp [Op.operands]) _ hv
   obtain ⟨h1,h2,h3⟩:=nu r he
   refine OpRuns.value (by simp only [execOp,hop,<- e1]) h1 ?_
   rw [h3]
   exact EffOk.pure r h2
  ·cases he
 case h_16 t x f hop =>
  split at he
  ·rename_i v hv
   obtain ⟨e1,e2⟩:=hev x (by rw [hop];simp [Op.operands]) _ hv
   obtain ⟨h1,h2,h3⟩:=uT (β:=β) he e2 w
   refine OpRuns.value (by simp only [execOp,hop,<- e1]) h1 ?_
   rw [h3]
   exact EffOk.pure r h2
  ·cases he
 case h_17 t x ix hop =>
  split at he
  ·rename_i i j sz l ssz q k hv hk
   obtain ⟨e1,_⟩:=hev x (by rw [hop];simp [Op.operands]) _ hv
   obtain ⟨e2,_⟩:=hev ix (by rw [hop];simp [Op.operands]) _ hk
   obtain ⟨h1,h2,h3⟩:=sR r he hp
   refine OpRuns.value (by simp only [execOp,hop,<- e1,<- e2,gv,g1]) h1 ?_
   rw [h3]
   exact EffOk.pure r h2
  ·rename_i v k hv hk
   obtain ⟨e1,_⟩:=hev x (by rw [hop];simp [Op.operands]) _ hv
   obtain ⟨e2,_⟩:=hev ix (by rw [hop];simp [Op.operands]) _ hk
   split at he
   ·rename_i ii len kl hl
    obtain ⟨h1,h2,h3⟩:=sQ r hl he hp
    refine OpRuns.value (by simp only [execOp,hop,<- e1,<- e2]) h1 ?_
    rw [h3]
    exact EffOk.pure r h2
   ·obtain ⟨h1,h2,h3⟩:=nt r he hp
    refine OpRuns.value (by simp only [execOp,hop,<- e1,<- e2]) h1 ?_
    rw [h3]
    exact EffOk.pure r h2
  ·cases he
 case h_18 t x ix hop =>
  split at he
  ·rename_i v k hv hk
   obtain ⟨e1,e3⟩:=hev x (by rw [hop];simp [Op.operands]) _ hv
   obtain ⟨e2,_⟩:=hev ix (by rw [hop];simp [Op.operands]) _ hk
   obtain ⟨h1,h2,h3⟩:=uS (β:=β) he hp e3 w
   refine OpRuns.value (by simp only [execOp,hop,<- e1,<- e2]) h1 ?_
   rw [h3]
   exact EffOk.pure r h2
  ·cases he
 case h_19 x k hop =>
  split at he
  ·rename_i v hv
   obtain ⟨e1,e3⟩:=hev x (by rw [hop];simp [Op.operands]) _ hv
   obtain ⟨h1,h2,h3⟩:=pq (β:=β) he e3 w
   refine OpRuns.value (by simp only [execOp,hop,<- e1]) h1 ?_
   rw [h3]
   exact EffOk.pure r h2
  ·cases he
 case h_20 c hop =>
  split at he
  ·rename_i f hcallee
   split at he
   ·rename_i fn args hf hargs
    split at he
    ·rename_i res hres
     obtain ⟨e1,_⟩:=hev f (by rw [hop];simp [Op.operands,Call.operands,hcallee]) _ hf
     obtain ⟨e2,e3⟩:=rh (ρ:=ρ) (β:=β) (h:=h) hargs (fun x hx v hv=>hev x (by rw [hop];simp only [Op.operands,Call.operands];simp at hx ⊢;simp [hx]) v hv)
     have hrun:execOp ρ o=callFunc fn (args.map (gv β)).toArray:=by
      have e4:(args.map (gv β)).toArray=c.args.map ρ:=by
       apply Array.ext'
       rw [Array.toList_map]
       exact e2
      have e5:ρ f = .func (.func fn) #[] #[]:=by rw [<- e1];rfl
      simp only [execOp,hop,resolve,hcallee,e5,Deferred.ofValue,e4]
      simp [invoke]
     have fin:res.new.length<=ck E o->res.pre.holds->OpRuns E.P o ρ w (EffOk w0 β h id res.val (oE id res.new++res.wrote)):=by
      intro hl hp
      have hc:=hE.call fn id h args res hres hp w0 β w r ⟨hid,fun j hj=>hids.2 j (Nat.lt_of_lt_of_le hj hl)⟩ e3
      unfold OpRuns
      rw [hrun]
      rcases hc with ⟨v,w',h1,h2⟩ | ⟨h1,h2⟩
      ·exact .inl ⟨v,w',h1,h2⟩
      ·exact .inr (.inr ⟨_,_,_,h1,h2⟩)
     split at he
     ·rename_i hnew
      cases he
      exact fin (Nat.le_of_ble_eq_true hnew) hp
     ·cases he
    ·cases he
   ·rename_i fn i off args hf hargs
    split at he
    ·rename_i res hres
     split at he
     ·rename_i hnew
      cases he
      obtain ⟨e1,e1ok⟩:=hev f (by rw [hop];simp [Op.operands,Call.operands,hcallee]) _ hf
      obtain ⟨e2,e3⟩:=rh (ρ:=ρ) (β:=β) (h:=h) hargs (fun x hx v hv=>hev x (by rw [hop];simp only [Op.operands,Call.operands];simp at hx ⊢;simp [hx]) v hv)
      have hrun:execOp ρ o=callFunc fn ((args ++ [AV.one (.c (.ptr i off))]).map (gv β)).toArray:=by
       have e4:(args.map (gv β)).toArray=c.args.map ρ:=by
        apply Array.ext'
        rw [Array.toList_map]
        exact e2
       have e5:ρ f = .func (.func fn) #[] #[gv β (.one (.c (.ptr i off)))]:=by rw [<- e1];rfl
       simp only [execOp,hop,resolve,hcallee,e5,Deferred.ofValue,<- e4]
       simp [invoke]
      have hc:=hE.call fn id h _ res hres hp w0 β w r ⟨hid,fun j hj=>by rw [hnew] at hj;cases hj⟩ fun v hv=>by
       rcases List.mem_append.1 hv with hv | hv
       ·exact e3 v hv
       ·rw [List.mem_singleton.1 hv]
        exact e1ok
      rw [hnew] at hc
      unfold OpRuns
      rw [hrun]
      rcases hc with ⟨v,w',h1,h2⟩ | ⟨h1,h2⟩
      ·exact .inl ⟨v,w',h1,h2⟩
      ·exact .inr (.inr ⟨_,_,_,h1,h2⟩)
     ·cases he
    ·cases he
   ·cases he
  ·rename_i b hcallee
   split at he
   ·rename_i args hargs
    obtain ⟨e2,e3⟩:=rh (ρ:=ρ) (β:=β) (h:=h) hargs (fun x hx v hv=>hev x (by rw [hop];simp only [Op.operands,Call.operands];simp at hx ⊢;simp [hx]) v hv)
    have e4:c.args.map ρ=(args.map (gv β)).toArray:=by
     apply Array.ext'
     rw [Array.toList_map]
     exact e2.symm
    have hex:execOp ρ o=builtin b c.argTypes o.type (c.args.map fun | .const _=>true | _=>false) (args.map (gv β)).toArray:=by
     simp only [execOp,hop,resolve,hcallee,e4]
     simp [invoke]
     rfl
    split at he
    ·rename_i x t ht
     split at he
     ·rename_i ii len kl hl
      obtain ⟨h1,h2,h3⟩:=xo (ty:=o.type) r hl he hp
      refine OpRuns.value (s:=Builtin.len_ c.argTypes o.type #[gv β x]) (by rw [hex];rfl) ?_ (by rw [h3];exact EffOk.pure r h2)
      have:c.argTypes = #[t]:=by apply Array.ext';exact ht
      rw [this]
      exact h1
     obtain ⟨h1,h2,h3⟩:=Au (ty:=o.type) r he hp
     refine OpRuns.value (s:=Builtin.len_ c.argTypes o.type #[gv β x]) (by rw [hex];rfl) ?_ (by rw [h3];exact EffOk.pure r h2)
     have:c.argTypes = #[t]:=by apply Array.ext';exact ht
     rw [this]
     exact h1
    ·unfold xa at he
     split at he
     ·rename_i cc rest
      split at he
      ·rename_i d hd
       cases he
       obtain ⟨h1,h2⟩:=iN (P:=E.P) (β:=β) w hd
       refine OpRuns.value (s:=Builtin.max_ c.argTypes o.type ((AV.one (.c cc) :: rest).map (gv β)).toArray) (by rw [hex];rfl) h1 ?_
       exact EffOk.pure r (h2 h (e3 (.one (.c cc)) (by simp)))
      ·cases he
     ·cases he
    ·unfold xa at he
     split at he
     ·rename_i cc rest
      split at he
      ·rename_i d hd
       cases he
       obtain ⟨h1,h2⟩:=iN (P:=E.P) (β:=β) w hd
       refine OpRuns.value (s:=Builtin.min_ c.argTypes o.type ((AV.one (.c cc) :: rest).map (gv β)).toArray) (by rw [hex];rfl) h1 ?_
       exact EffOk.pure r (h2 h (e3 (.one (.c cc)) (by simp)))
      ·cases he
     ·cases he
    ·rename_i x y t t' ht
     split at he
     ·rename_i htt
      have htt:=Nat.eq_of_beq_eq_true htt
      subst htt
      obtain ⟨v,w',h1,h2⟩:=sT (ty:=o.type) r hid he hp
      refine OpRuns.value (s:=Builtin.append_ c.argTypes o.type #[gv β x,gv β y]) (by rw [hex];rfl) ?_ h2
      have:c.argTypes = #[t,t]:=by apply Array.ext';exact ht
      rw [this]
      exact h1
     ·obtain ⟨v,w',h1,h2⟩:=pu (ty:=o.type) r hid he hp
      refine OpRuns.value (s:=Builtin.append_ c.argTypes o.type #[gv β x,gv β y]) (by rw [hex];rfl) ?_ h2
      have:c.argTypes = #[t,t']:=by apply Array.ext';exact ht
      rw [this]
      exact h1
    ·rename_i x y t t' ht
     split at he
     ·rename_i htt
      have htt:=Nat.eq_of_beq_eq_true htt
      subst htt
      obtain ⟨v,w',h1,h2⟩:=xp (id:=id) (ty:=o.type) r he hp
      refine OpRuns.value (s:=Builtin.copy_ c.argTypes o.type #[gv β x,gv β y]) (by rw [hex];rfl) ?_ h2
      have:c.argTypes = #[t,t]:=by apply Array.ext';exact ht
      rw [this]
      exact h1
     ·cases he
    ·cases he
   ·cases he
  ·cases he
 case h_21 t len parts hop =>
  obtain ⟨v,w',h1,h2⟩:=md r hid (ρ:=ρ) he (fun p hp' v hv=>hev p.2 (by
   rw [hop]
   simp only [Op.operands]
   exact List.mem_map_of_mem hp') v hv)
  exact OpRuns.value (by simp [execOp,hop]) h1 h2
 case h_22 t l c hop =>
  split at he
  ·rename_i a b ha hb
   obtain ⟨e1,_⟩:=hev l (by rw [hop];simp [Op.operands]) _ ha
   obtain ⟨e2,_⟩:=hev c (by rw [hop];simp [Op.operands]) _ hb
   obtain ⟨v,w',h1,h2⟩:=nq (P:=E.P) r hid he hp
   exact OpRuns.value (by simp only [execOp,hop,<- e1,<- e2]) h1 h2
  ·cases he
 case h_23 fn first captured hop =>
  split at he
  ·rename_i f x hf hc
   split at he
   ·rename_i i off hx
    cases he
    have hfirst:first = #[]:=Array.toList_inj.1 hf
    have hcap:captured = #[x]:=Array.toList_inj.1 hc
    subst hfirst hcap
    obtain ⟨e1,e1ok⟩:=hev x (by rw [hop];simp [Op.operands]) _ hx
    refine OpRuns.value (s:=Instr.makeFunc (.func f) #[] #[ρ x]) (v := .func (.func f) #[] #[ρ x]) (by simp [execOp,hop]) rfl ?_
    have:=EffOk.pure (id:=id) (val := .one (.c (.clo f i off))) r e1ok
    rw [show gv β (.one (.c (.clo f i off))) = .func (.func f) #[] #[ρ x] by rw [<- e1];rfl] at this
    exact this
   ·cases he
  ·cases he
 case h_24=>cases he
end Go.Proofs.Ytibfppbffdedoaa
namespace Go.Proofs.Ytibfppbffdedoaa
open Go.RowKit
theorem iX {α β:Type} {f g:α->Option β} : ∀ {xs:List α},(∀ x ∈ xs,f x=g x)->cP f xs=cP g xs
 | [],_=>rfl
 | x :: xs,h=>by
  have e:=iX (f:=f) (g:=g) (xs:=xs) (fun y hy=>h y (by simp [hy]))
  simp only [cP,h x (by simp),e]
theorem am {h h':ah} {i:Nat} (e:h i=h' i):aH h i=aH h' i:=by unfold aH;rw [e]
theorem K4 {E:Env} {id:Nat} {ev ev':Operand->Option AV} {h:ah} {o:Oper} (H : ∀ x ∈ o.op.operands.toList,ev x=ev' x):act E id ev h o=act E id ev' h o:=by
 unfold act
 cases hop:o.op with
 | move x=>simp only [H x (by rw [hop];simp [Op.operands])]
 | assign x=>simp only [H x (by rw [hop];simp [Op.operands])]
 | pick c a b=>simp only [H c (by rw [hop];simp [Op.operands]),H a (by rw [hop];simp [Op.operands]),H b (by rw [hop];simp [Op.operands])]
 | box t x=>simp only [H x (by rw [hop];simp [Op.operands])]
 | build t parts =>
  simp only []
  congr 1
  unfold iC
  exact iX fun p hp=>by
   rw [H p.2 (by rw [hop];simp only [Op.operands];exact List.mem_map_of_mem hp)]
 | load t a=>simp only [H a (by rw [hop];simp [Op.operands])]
 | store t a x=>simp only [H a (by rw [hop];simp [Op.operands]),H x (by rw [hop];simp [Op.operands])]
 | nilCheck x=>simp only [H x (by rw [hop];simp [Op.operands])]
 | binOp op t x y yt=>simp only [H x (by rw [hop];simp [Op.operands]),H y (by rw [hop];simp [Op.operands])]
 | unOp op t x=>simp only [H x (by rw [hop];simp [Op.operands])]
 | convert s d x=>simp only [H x (by rw [hop];simp [Op.operands])]
 | sliceToArrayPointer t x=>simp only [H x (by rw [hop];simp [Op.operands])]
 | slice t x lo hi mx =>
  have e1:lo.map ev=lo.map ev':=by cases lo with | none=>rfl | some y=>simp [H y (by rw [hop];simp [Op.operands])]
  have e2:hi.map ev=hi.map ev':=by cases hi with | none=>rfl | some y=>simp [H y (by rw [hop];simp [Op.operands])]
  have e3:mx.map ev=mx.map ev':=by cases mx with | none=>rfl | some y=>simp [H y (by rw [hop];simp [Op.operands])]
  simp only [H x (by rw [hop];simp [Op.operands]),e1,e2,e3]
 | fieldAddr s x f=>simp only [H x (by rw [hop];simp [Op.operands])]
 | field t x f=>simp only [H x (by rw [hop];simp [Op.operands])]
 | indexAddr t x ix=>simp only [H x (by rw [hop];simp [Op.operands]),H ix (by rw [hop];simp [Op.operands])]
 | index t x ix=>simp only [H x (by rw [hop];simp [Op.operands]),H ix (by rw [hop];simp [Op.operands])]
 | extract x k=>simp only [H x (by rw [hop];simp [Op.operands])]
 | call c =>
  have e1:cP ev c.args.toList=cP ev' c.args.toList:=iX fun x hx=>H x (by rw [hop];simp only [Op.operands,Call.operands];simp at hx ⊢;simp [hx])
  simp only [e1]
  cases hc:c.callee with
  | value f=>simp only [H f (by rw [hop];simp [Op.operands,Call.operands,hc])]
  | builtin b=>rfl
  | invoke _ _=>rfl
 | buildSlice t len parts =>
  simp only []
  congr 1
  unfold iC
  exact iX fun p hp=>by
   rw [H p.2 (by rw [hop];simp only [Op.operands];exact List.mem_map_of_mem hp)]
 | makeSlice t l c=>simp only [H l (by rw [hop];simp [Op.operands]),H c (by rw [hop];simp [Op.operands])]
 | makeFunc fn first captured =>
  simp only []
  split
  ·rename_i f x hf hc
   rw [H x (by
    rw [hop]
    have hcap:captured = #[x]:=Array.toList_inj.1 hc
    subst hcap
    simp [Op.operands])]
  ·rfl
 | _=>rfl
theorem ft {h h':ah} {sz:Nat} {v:AV} {c:Cond SlV} (hv:ec h sz v=some c) (H : ∀ i ∈ c.val.id,h i=h' i):ec h' sz v=some c:=by
 unfold ec at hv ⊢
 split at hv
 ·exact hv
 ·rename_i i off len sz' rc kn
  have hi:i ∈ c.val.id:=by
   split at hv
   ·split at hv
    ·cases hv;simp
    ·cases hv
   ·cases hv
  simp only [<- am (H i hi)]
  exact hv
 ·rename_i i j s r len cap
  have hi:i ∈ c.val.id:=by
   split at hv
   ·split at hv
    ·cases hv;simp
    ·cases hv
   ·cases hv
  simp only [<- am (H i hi)]
  exact hv
 ·cases hv
theorem rT {h h':ah} {e:TypeId} {sz:Nat} {v:AV} {c:Cond SlV} (hv:ec h sz v=some c) (H : ∀ i ∈ c.val.id,h i=h' i):ma h' e sz v=ma h e sz v:=by
 unfold ec at hv
 unfold ma
 split at hv
 ·rfl
 ·rename_i i off len sz' rc kn
  have hi:i ∈ c.val.id:=by
   split at hv
   ·split at hv
    ·cases hv;simp
    ·cases hv
   ·cases hv
  simp only [<- am (H i hi)]
 ·rfl
 ·cases hv
theorem pM {P:Program} {h h':ah} {id:Nat} {t:TypeId} {x y:AV} {e:Eff} (he:et P h id t x y=some e) (H : ∀ i ∈ e.reads,h i=h' i):et P h' id t x y=some e:=by
 unfold et at he ⊢
 split at he
 ·rename_i el ht
  split at he
  ·rename_i ei z hi hz
   split at he
   ·rename_i p u q v hc hu hv
    have hr:e.reads=u.id++v.id:=by
     split at he
     ·cases he;rfl
     ·cases he
    rw [hr] at H
    have hu':=ft hu (fun i hi=>H i (by simp [hi]))
    have hv':=ft hv (fun i hi=>H i (by simp [hi]))
    have ha:=rT (h':=h') (e:=el) hu (fun i hi=>H i (by simp [hi]))
    have hc':(Nat.beq z.length ei.size && Nat.blt 0 ei.size && ma h' el ei.size x)=true:=by rw [ha];exact hc
    simp only [hu',hv',hc']
    exact he
   ·cases he
  ·cases he
 ·cases he
theorem oY {P:Program} {h h':ah} {id:Nat} {t t':TypeId} {x y:AV} {e:Eff} (he:dg P h id t t' x y=some e) (H : ∀ i ∈ e.reads,h i=h' i):dg P h' id t t' x y=some e:=by
 unfold dg at he ⊢
 split at he
 ·rename_i el kk ht ht'
  split at he
  ·rename_i ei z hi hz
   split at he
   ·rename_i cy
    split at he
    ·rename_i ky ny hcy
     split at he
     ·rename_i p u zb hc hu hzb
      split at he
      ·rename_i rr hj
       have hr:e.reads=u.id:=by cases he;rfl
       rw [hr] at H
       have hu':=ft hu H
       have ha:=rT (h':=h') (e:=el) hu H
       have hc':(Nat.beq z.length ei.size && Nat.blt 0 ei.size && ma h' el ei.size x)=true:=by rw [ha];exact hc
       simp only [hu',hc',hzb,hj]
       exact he
      ·cases he
     ·cases he
    ·cases he
   ·cases he
  ·cases he
 ·cases he
theorem vB {P:Program} {h h':ah} {t:TypeId} {x y:AV} {e:Eff} (he:il P h t x y=some e) (H : ∀ i ∈ e.reads,h i=h' i):il P h' t x y=some e:=by
 unfold il at he ⊢
 split at he
 ·rename_i i off len rc el ht
  split at he
  ·rename_i b ei q v hb hei hv
   have hr:e.reads=i :: v.id:=by
    split at he
    ·split at he
     ·cases he;rfl
     ·split at he
      ·cases he;rfl
      ·cases he
     ·cases he
    ·cases he
   rw [hr] at H
   have hv':=ft hv (fun i hi=>H i (by simp [hi]))
   have hb':aH h' i=some b:=by rw [<- am (H i (by simp))];exact hb
   simp only [hv',hb',hei]
   exact he
  ·cases he
 ·cases he
theorem ye {P:Program} {h h':ah} {src dst:TypeId} {x:AV} {e:Eff} (he:lE P h src dst x=some e) (H : ∀ i ∈ e.reads,h i=h' i):lE P h' src dst x=some e:=by
 unfold lE at he ⊢
 split at he
 ·rename_i p v hc hv
  have hr:e.reads=v.id:=by
   split at he
   ·cases he;rfl
   ·split at he
    ·cases he;rfl
    ·cases he
   ·cases he
  rw [hr] at H
  have hv':=ft hv H
  simp only [hv',hc]
  exact he
 ·cases he
theorem Gi {P:Program} {h:ah} {src dst:TypeId} {x:AV} {e:Eff} (he:lE P h src dst x=some e):e.wr = []:=by
 unfold lE at he
 split at he
 ·split at he
  ·cases he;rfl
  ·split at he
   ·cases he;rfl
   ·cases he
  ·cases he
 ·cases he
theorem om {h:ah} {sz:Nat} {v:AV} {c:Cond SlV} (hv:ec h sz v=some c) : ∀ i ∈ c.val.id,h i ≠ .un:=by
 unfold ec at hv
 split at hv
 ·cases hv;simp
 ·split at hv
  ·rename_i b hb hsz
   split at hv
   ·cases hv
    intro i hi
    simp at hi
    subst hi
    rw [aj hb];simp
   ·cases hv
  ·cases hv
 ·split at hv
  ·rename_i b hb hsz
   split at hv
   ·cases hv
    intro i hi
    simp at hi
    subst hi
    rw [aj hb];simp
   ·cases hv
  ·cases hv
 ·cases hv
theorem kJ : ∀ {is:List Nat} {p:Nat × HE},p ∈ gH is->p.1 ∈ is/\p.2 = .dead
 | i :: is,p,h=>by
  simp only [gH,List.mem_cons] at h
  rcases h with rfl | h
  ·exact ⟨by simp,rfl⟩
  ·exact ⟨by simp [(kJ h).1],(kJ h).2⟩
theorem vC {P:Program} {h:ah} {id:Nat} {t:TypeId} {x y:AV} {e:Eff} (he:et P h id t x y=some e) : ∀ p ∈ e.wr,p.2 ≠ .un/\(p.1=id \/ h p.1 ≠ .un):=by
 unfold et at he
 split at he
 ·split at he
  ·split at he
   ·rename_i p u q v hc hu hv
    split at he
    ·cases he
     intro p hp
     simp only [List.mem_append,List.mem_singleton] at hp
     rcases hp with hp | rfl
     ·obtain ⟨h1,h2⟩:=kJ hp
      exact ⟨by rw [h2];simp,.inr (om hu _ h1)⟩
     ·exact ⟨by simp,.inl rfl⟩
    ·cases he
   ·cases he
  ·cases he
 ·cases he
theorem tn {P:Program} {h:ah} {id:Nat} {t t':TypeId} {x y:AV} {e:Eff} (he:dg P h id t t' x y=some e) : ∀ p ∈ e.wr,p.2 ≠ .un/\(p.1=id \/ h p.1 ≠ .un):=by
 unfold dg at he
 split at he
 ·split at he
  ·split at he
   ·split at he
    ·split at he
     ·rename_i p u zb hc hu hzb
      split at he
      ·cases he
       intro p hp
       simp only [List.mem_append,List.mem_singleton] at hp
       rcases hp with hp | rfl
       ·obtain ⟨h1,h2⟩:=kJ hp
        exact ⟨by rw [h2];simp,.inr (om hu _ h1)⟩
       ·exact ⟨by simp,.inl rfl⟩
      ·cases he
     ·cases he
    ·cases he
   ·cases he
  ·cases he
 ·cases he
theorem BV {P:Program} {h:ah} {t:TypeId} {x y:AV} {e:Eff} (he:il P h t x y=some e) : ∀ p ∈ e.wr,p.2 ≠ .un/\h p.1 ≠ .un:=by
 unfold il at he
 split at he
 ·rename_i i off len rc el ht
  split at he
  ·rename_i b ei q v hb hei hv
   split at he
   ·split at he
    ·cases he
     intro p hp
     simp at hp
     subst hp
     exact ⟨by simp,by rw [aj hb];simp⟩
    ·split at he
     ·cases he
      intro p hp
      simp at hp
      subst hp
      exact ⟨by simp,by rw [aj hb];simp⟩
     ·cases he
    ·cases he
   ·cases he
  ·cases he
 ·cases he
theorem tm {P:Program} {h h':ah} {t:TypeId} {id j sz i ssz q:Nat} {e:Eff} (he:dR P h t id j sz i ssz q=some e) (H : ∀ i ∈ e.reads,h i=h' i):dR P h' t id j sz i ssz q=some e:=by
 have hr:id ∈ e.reads:=by
  unfold dR at he
  split at he
  ·split at he
   ·cases he
   ·split at he
    ·split at he
     ·cases he;simp
     ·cases he
    ·cases he
  ·cases he
 unfold dR at he ⊢
 rw [<- am (H id hr)]
 exact he
theorem tk {E:Env} {h h':ah} {n:Nat} {t:TypeId} {id j sz i ssz q:Nat} {e:Eff} (he:fN E h n t id j sz i ssz q=some e) (H : ∀ i ∈ e.reads,h i=h' i):fN E h' n t id j sz i ssz q=some e:=by
 unfold fN at he
 split at he
 ·rename_i k l hi
  split at he
  ·have hr:id ∈ e.reads:=by
    unfold ke at he
    split at he
    ·split at he
     ·cases he;simp
     ·cases he
    ·cases he
   unfold fN
   rw [<- H id hr,hi]
   exact he
  ·cases he
 ·rename_i hne
  have hr:id ∈ e.reads:=by
   unfold dR at he
   split at he
   ·split at he
    ·cases he
    ·split at he
     ·split at he
      ·cases he;simp
      ·cases he
     ·cases he
   ·cases he
  have hh:=H id hr
  unfold fN
  split
  ·rename_i k l hi
   exact absurd (hh.trans hi) (hne k l)
  ·exact tm he H
theorem pJ {P:Program} {h h':ah} {t:TypeId} {i len:Nat} {v ix:AV} {kl:Σ k:RK,List (List k.ty)} (hl:gU h v=some (i,len,kl)) {e:Eff} (he:fq P t i len kl ix=some e) (H : ∀ i ∈ e.reads,h i=h' i):gU h' v=some (i,len,kl):=by
 have hr:i ∈ e.reads:=by
  unfold fq at he
  split at he
  ·split at he
   ·split at he
    ·cases he;simp
    ·cases he
   ·cases he
  ·cases he
 obtain ⟨⟨rc,kn,rfl⟩,hi⟩:=iZ hl
 unfold gU
 simp only [<- H i hr,hi]
theorem vt {P:Program} {t:TypeId} {i len:Nat} {ix:AV} {kl:Σ k:RK,List (List k.ty)} {e:Eff} (he:fq P t i len kl ix=some e):e.wr = []:=by
 unfold fq at he
 split at he
 ·split at he
  ·split at he
   ·cases he;rfl
   ·cases he
  ·cases he
 ·cases he
theorem vq {P:Program} {h:ah} {t:TypeId} {i off len sz:Nat} {rc:RC} {kn:Bool} {e:Eff} (he:mB P h t (.one (.c (.slc i off len sz rc kn)))=some e):i ∈ e.reads:=by
 unfold mB at he
 split at he
 ·rename_i heq _
  cases heq
  split at he
  ·split at he
   ·split at he
    ·cases he;simp
    ·cases he
   ·cases he;simp
  ·cases he
 all_goals first | (cases he;done) | (rename_i heq _;cases heq)
theorem lG {P:Program} {h:ah} {t:TypeId} {i off len sz:Nat} {rc:RC} {kn:Bool} {ix:AV} {e:Eff} (he:cH P h t (.one (.c (.slc i off len sz rc kn))) ix=some e):i ∈ e.reads:=by
 unfold cH at he
 split at he
 ·rename_i heq _
  cases heq
 ·rename_i heq _
  cases heq
  split at he
  ·split at he
   ·split at he
    ·cases he;simp
    ·cases he
   ·cases he;simp
   ·cases he;simp
   ·cases he
  ·cases he
 ·cases he
theorem rj {h h':ah} {v:AV} (hl:gU h v=none) (H : ∀ i off len sz rc kn,v = .one (.c (.slc i off len sz rc kn))->h i=h' i):gU h' v=none:=by
 unfold gU at hl ⊢
 split at hl
 ·rename_i i len rc kn
  rw [<- H i 0 len 1 rc kn rfl]
  exact hl
 ·rfl
theorem yf {P:Program} {h:ah} {t:TypeId} {id j sz i ssz q:Nat} {e:Eff} (he:dR P h t id j sz i ssz q=some e):e.wr = []:=by
 unfold dR at he
 split at he
 ·split at he
  ·cases he
  ·split at he
   ·split at he
    ·cases he;rfl
    ·cases he
   ·cases he
 ·cases he
theorem pH {P:Program} {h h':ah} {t:TypeId} {id j sz i ssz q:Nat} {v:AV} {e:Eff} (he:du P h t id j sz i ssz q v=some e) (H : ∀ i ∈ e.reads,h i=h' i):du P h' t id j sz i ssz q v=some e:=by
 have hr:id ∈ e.reads:=by
  unfold du at he
  split at he
  ·split at he
   ·split at he
    ·cases he;simp
    ·cases he
   ·cases he
  ·cases he
 unfold du at he ⊢
 rw [<- am (H id hr)]
 exact he
theorem vm {P:Program} {h:ah} {t:TypeId} {id j sz i ssz q:Nat} {v:AV} {e:Eff} (he:du P h t id j sz i ssz q v=some e) : ∀ p ∈ e.wr,p.2 ≠ .un/\h p.1 ≠ .un:=by
 unfold du at he
 split at he
 ·rename_i b ti vs hb hti hvs
  split at he
  ·split at he
   ·cases he
    intro p hp
    simp at hp
    subst hp
    exact ⟨by simp,by rw [aj hb];simp⟩
   ·cases he
  ·cases he
 ·cases he
theorem pK {P:Program} {h h':ah} {t:TypeId} {id j sz i ssz q:Nat} {v:AV} {e:Eff} (he:eo P h t id j sz i ssz q v=some e) (H : ∀ i ∈ e.reads,h i=h' i):eo P h' t id j sz i ssz q v=some e:=by
 unfold eo at he ⊢
 split at he
 ·have hr:id ∈ e.reads:=by
   split at he
   ·split at he
    ·cases he;simp
    ·split at he
     ·cases he;simp
     ·cases he
   ·cases he
  simp only [<- am (H id hr)]
  exact he
 ·cases he
theorem vw {P:Program} {h:ah} {t:TypeId} {id j sz i ssz q:Nat} {v:AV} {e:Eff} (he:eo P h t id j sz i ssz q v=some e):e.wr = []:=by
 unfold eo at he
 split at he
 ·split at he
  ·split at he
   ·cases he;rfl
   ·split at he
    ·cases he;rfl
    ·cases he
  ·cases he
 ·cases he
theorem pL {P:Program} {h h':ah} {s:TypeId} {id j sz i ssz q f:Nat} {e:Eff} (he:es P h s id j sz i ssz q f=some e) (H : ∀ i ∈ e.reads,h i=h' i):es P h' s id j sz i ssz q f=some e:=by
 unfold es at he ⊢
 split at he
 ·have hr:id ∈ e.reads:=by
   split at he
   ·split at he
    ·split at he
     ·cases he
     ·cases he;simp
    ·cases he
   ·cases he
  simp only [<- am (H id hr)]
  exact he
 ·cases he
theorem vA {P:Program} {h:ah} {s:TypeId} {id j sz i ssz q f:Nat} {e:Eff} (he:es P h s id j sz i ssz q f=some e):e.wr = []:=by
 unfold es at he
 split at he
 ·split at he
  ·split at he
   ·split at he
    ·cases he
    ·cases he;rfl
   ·cases he
  ·cases he
 ·cases he
theorem vp {h h':ah} {id j sz i ssz q:Nat} {e:Eff} (he:jq h id j sz i ssz q=some e) (H : ∀ i ∈ e.reads,h i=h' i):jq h' id j sz i ssz q=some e:=by
 unfold jq at he ⊢
 have hr:id ∈ e.reads:=by
  split at he
  ·cases he;simp
  ·cases he
 rw [<- am (H id hr)]
 exact he
theorem BT {h:ah} {id j sz i ssz q:Nat} {e:Eff} (he:jq h id j sz i ssz q=some e):e.wr = []:=by
 unfold jq at he
 split at he
 ·cases he;rfl
 ·cases he
theorem pI {P:Program} {h h':ah} {t:TypeId} {id j sz ssz q:Nat} {lo hi mx:Option (Option AV)} {e:Eff} (he:en P h t id j sz ssz q lo hi mx=some e) (H : ∀ i ∈ e.reads,h i=h' i):en P h' t id j sz ssz q lo hi mx=some e:=by
 unfold en at he ⊢
 split at he
 ·have hr:id ∈ e.reads:=by
   split at he
   ·split at he
    ·cases he;simp
    ·cases he
   ·cases he
  simp only [<- am (H id hr)]
  exact he
 ·cases he
theorem vo {P:Program} {h:ah} {t:TypeId} {id j sz ssz q:Nat} {lo hi mx:Option (Option AV)} {e:Eff} (he:en P h t id j sz ssz q lo hi mx=some e):e.wr = []:=by
 unfold en at he
 split at he
 ·split at he
  ·split at he
   ·cases he;rfl
   ·cases he
  ·cases he
 ·cases he
theorem zT {E:Env} (hE:EnvOk E) {id:Nat} {ev:Operand->Option AV} {h h':ah} {o:Oper} {e:Eff} (he:act E id ev h o=some e) (H : ∀ i ∈ e.reads,h i=h' i):act E id ev h' o=some e:=by
 unfold act at he ⊢
 split at he
 case h_1=>exact he
 case h_2=>exact he
 case h_3=>exact he
 case h_4=>exact he
 case h_5=>exact he
 case h_6=>exact he
 case h_7 t a hop =>
  split at he
  ·rename_i i off ha
   have hr:i ∈ e.reads:=by
    unfold ik at he
    split at he
    ·split at he
     ·cases he
     ·split at he
      ·split at he
       ·cases he;simp
       ·cases he
      ·cases he
    ·cases he
   unfold ik at he ⊢
   rw [<- am (H i hr)]
   exact he
  ·exact tk he H
  ·cases he
 case h_8 t a x hop =>
  split at he
  ·rename_i i off v ha hx
   have hr:i ∈ e.reads:=by
    unfold iM at he
    split at he
    ·split at he
     ·split at he
      ·cases he;simp
      ·cases he
     ·cases he
    ·cases he
   unfold iM at he ⊢
   rw [<- am (H i hr)]
   exact he
  ·exact pH he H
  ·cases he
 case h_9 x hop =>
  split at he
  ·exact vp he H
  ·rename_i v hv
   unfold fy at he ⊢
   split at he
   ·rename_i i off
    have hr:i ∈ e.reads:=by
     split at he
     ·split at he
      ·cases he;simp
      ·cases he
     ·cases he
    simp only [<- am (H i hr)]
    exact he
   ·cases he
  ·cases he
 case h_10=>exact he
 case h_11=>exact he
 case h_12 =>
  split at he
  ·split at he
   ·exact he
   ·exact ye he H
  ·cases he
 case h_13 t x hop =>
  split at he
  ·rename_i v hv
   unfold gI at he ⊢
   split at he
   ·rename_i i off len sz rc n el hu
    have hr:i ∈ e.reads:=by
     split at he
     ·split at he
      ·split at he
       ·cases he;simp
       ·cases he
      ·cases he
     ·cases he
    simp only [<- am (H i hr)]
    exact he
   ·cases he
  ·cases he
 case h_14 t x lo hi mx hop =>
  split at he
  ·exact pI he H
  ·rename_i v hv
   unfold kd at he ⊢
   split at he
   ·rename_i i off n el hu
    have hr:i ∈ e.reads:=by
     split at he
     ·split at he
      ·split at he
       ·split at he
        ·split at he
         ·cases he;simp
         ·cases he;simp
        ·cases he
       ·split at he
        ·cases he;simp
        ·cases he
       ·cases he
      ·cases he
     ·cases he
    simp only [<- am (H i hr)]
    exact he
   ·rename_i i off len sz rc kn el hu
    have hr:i ∈ e.reads:=by
     split at he
     ·split at he
      ·split at he
       ·split at he
        ·split at he
         ·split at he
          ·split at he
           ·cases he;simp
           ·cases he;simp
          ·cases he
         ·cases he
        ·cases he;simp
       ·cases he
      ·cases he
     ·cases he
    simp only [<- am (H i hr)]
    exact he
   ·cases he
  ·cases he
 case h_15 s x f hop =>
  split at he
  ·exact pL he H
  ·rename_i v hv
   unfold eJ at he ⊢
   split at he
   ·rename_i i off fs hu
    have hr:i ∈ e.reads:=by
     split at he
     ·split at he
      ·split at he
       ·cases he
       ·cases he;simp
      ·cases he
     ·cases he
    simp only [<- am (H i hr)]
    exact he
   ·cases he
  ·cases he
 case h_16=>exact he
 case h_17 t x ix hop =>
  split at he
  ·exact pK he H
  ·rename_i v k hneg hv hk
   cases hL:gU h v with
   | some q =>
    obtain ⟨i,len,kl⟩:=q
    rw [hL] at he
    rw [pJ hL he H]
    exact he
   | none =>
   rw [hL] at he
   dsimp only at he
   rw [rj hL fun i off len sz rc kn hv'=>by
    subst hv'
    exact H i (lG he)]
   dsimp only
   unfold cH at he ⊢
   split at he
   ·rename_i i off n el hu
    have hr:i ∈ e.reads:=by
     split at he
     ·split at he
      ·cases he;simp
      ·cases he
     ·cases he
    simp only [<- am (H i hr)]
    exact he
   ·rename_i i off len sz rc kn el hu
    have hr:i ∈ e.reads:=by
     split at he
     ·split at he
      ·split at he
       ·cases he;simp
       ·cases he
      ·cases he;simp
      ·cases he;simp
      ·cases he
     ·cases he
    simp only [<- am (H i hr)]
    exact he
   ·cases he
  ·cases he
 case h_18=>exact he
 case h_19=>exact he
 case h_20 c hop =>
  split at he
  ·rename_i f hcallee
   split at he
   ·rename_i fn args hf hargs
    split at he
    ·rename_i r hr
     have hreads : ∀ i ∈ r.reads,h i=h' i:=by
      split at he
      ·cases he;exact H
      ·cases he
     rw [hE.near fn id h h' args r hr hreads]
     exact he
    ·cases he
   ·rename_i fn i off args hf hargs
    split at he
    ·rename_i r hr
     have hreads : ∀ i ∈ r.reads,h i=h' i:=by
      split at he
      ·cases he;exact H
      ·cases he
     rw [hE.near fn id h h' _ r hr hreads]
     exact he
    ·cases he
   ·cases he
  ·rename_i b hcallee
   split at he
   ·rename_i args hargs
    split at he
    ·rename_i x t ht
     cases hL:gU h x with
     | some q =>
      obtain ⟨i,len,kl⟩:=q
      rw [hL] at he
      dsimp only at he
      have hi:i ∈ e.reads:=by
       unfold nM at he
       split at he
       ·cases he;simp
       ·cases he
      have hL2:gU h' x=some (i,len,kl):=by
       obtain ⟨⟨rc,kn,rfl⟩,hl⟩:=iZ hL
       unfold gU
       simp only [<- H i hi,hl]
      rw [hL2]
      exact he
     | none =>
     rw [hL] at he
     dsimp only at he
     rw [rj hL fun i off len sz rc kn hv'=>by
      subst hv'
      exact H i (vq he)]
     dsimp only
     unfold mB at he ⊢
     split at he
     ·rename_i i off len sz rc kn el hu
      have hr:i ∈ e.reads:=by
       split at he
       ·split at he
        ·split at he
         ·cases he;simp
         ·cases he
        ·cases he;simp
       ·cases he
      simp only [<- am (H i hr)]
      exact he
     all_goals exact he
    ·exact he
    ·exact he
    ·split at he
     ·exact pM he H
     ·exact oY he H
    ·split at he
     ·exact vB he H
     ·cases he
    ·cases he
   ·cases he
  ·cases he
 case h_21=>exact he
 case h_22=>exact he
 case h_23=>exact he
 case h_24=>cases he
theorem BU {P:Program} {h:ah} {t:TypeId} {i off:Nat} {e:Eff} (he:ik P h t i off=some e):e.wr = []:=by
 unfold ik at he
 split at he
 ·split at he
  ·cases he
  ·split at he
   ·split at he
    ·cases he;rfl
    ·cases he
   ·cases he
 ·cases he
theorem y9 : ∀ {bs:List Blk} {id:Nat} {p:Nat × HE},p ∈ oE id bs->p.2 ≠ .un/\id<=p.1/\p.1<id+bs.length
 | b :: bs,id,p,h=>by
  rcases List.mem_cons.1 h with rfl | h
  ·exact ⟨by simp,Nat.le_refl _,by simp⟩
  ·obtain ⟨h1,h2,h3⟩:=y9 h
   exact ⟨h1,by omega,by simp only [List.length_cons];omega⟩
theorem KZ {E:Env} (hE:EnvOk E) {id:Nat} {ev:Operand->Option AV} {h:ah} {o:Oper} {e:Eff} (he:act E id ev h o=some e) :
  ∀ p ∈ e.wr,p.2 ≠ .un/\((id<=p.1/\p.1<id+ck E o) \/ h p.1 ≠ .un):=by
 have nil:e.wr = [] -> ∀ p ∈ e.wr,p.2 ≠ .un/\((id<=p.1/\p.1<id+ck E o) \/ h p.1 ≠ .un):=fun e0 p hp=>by rw [e0] at hp;cases hp
 unfold act at he
 split at he
 case h_1=>split at he <;> cases he <;> exact nil rfl
 case h_2=>split at he <;> cases he <;> exact nil rfl
 case h_3 =>
  split at he
  ·unfold wv at he
   split at he
   ·split at he <;> cases he <;> exact nil rfl
   ·split at he <;> cases he <;> exact nil rfl
   ·split at he
    ·split at he <;> cases he <;> exact nil rfl
    ·cases he
   ·cases he
  ·cases he
 case h_4 t hop =>
  split at he <;> cases he
  intro p hp
  simp at hp
  subst hp
  exact ⟨by simp,.inl ⟨Nat.le_refl _,by simp [ck,hop]⟩⟩
 case h_5 t x hop =>
  split at he
  ·split at he <;> cases he
   intro p hp
   simp at hp
   subst hp
   exact ⟨by simp,.inl ⟨Nat.le_refl _,by simp [ck,hop]⟩⟩
  ·cases he
 case h_6 =>
  unfold nk at he
  split at he
  ·split at he <;> cases he <;> exact nil rfl
  ·cases he
 case h_7 t a hop =>
  split at he
  ·exact nil (BU he)
  ·rename_i i' j sz i ssz q ha
   unfold fN at he
   split at he
   ·split at he
    ·unfold ke at he
     split at he
     ·rename_i hn hu hti hg
      split at he
      ·cases he
       intro p hp
       simp at hp
       subst hp
       exact ⟨by simp,.inl ⟨Nat.le_refl _,by simp [ck,hop,hn]⟩⟩
      ·cases he
     ·cases he
    ·cases he
   ·exact nil (yf he)
  ·cases he
 case h_8 =>
  split at he
  ·rename_i i off v ha hx
   unfold iM at he
   split at he
   ·rename_i b ti vs hb hti hvs
    split at he
    ·split at he
     ·cases he
      intro p hp
      simp at hp
      subst hp
      exact ⟨by simp,.inr (by rw [aj hb];simp)⟩
     ·cases he
    ·cases he
   ·cases he
  ·intro p hp
   obtain ⟨h1,h2⟩:=vm he p hp
   exact ⟨h1,.inr h2⟩
  ·cases he
 case h_9 =>
  split at he
  ·exact nil (BT he)
  ·unfold fy at he
   split at he
   ·split at he
    ·split at he <;> cases he <;> exact nil rfl
    ·cases he
   ·cases he
  ·cases he
 case h_10 =>
  split at he
  ·split at he <;> cases he <;> exact nil rfl
  ·cases he
 case h_11 =>
  split at he
  ·split at he <;> cases he <;> exact nil rfl
  ·cases he
 case h_12 =>
  split at he
  ·split at he
   ·cases he;exact nil rfl
   ·exact nil (Gi he)
  ·cases he
 case h_13 =>
  split at he
  ·unfold gI at he
   split at he
   ·split at he
    ·split at he
     ·split at he <;> cases he <;> exact nil rfl
     ·cases he
    ·cases he
   ·cases he
  ·cases he
 case h_14 t x lo hi mx hop =>
  split at he
  ·exact nil (vo he)
  ·unfold kd at he
   split at he
   ·split at he
    ·split at he
     ·split at he
      ·split at he
       ·split at he <;> cases he <;> exact nil rfl
       ·cases he
      ·split at he <;> cases he <;> exact nil rfl
      ·cases he
     ·cases he
    ·cases he
   ·split at he
    ·split at he
     ·split at he
      ·split at he
       ·split at he
        ·split at he
         ·split at he
          ·cases he;exact nil rfl
          ·cases he
           intro p hp
           simp at hp
           subst hp
           exact ⟨by simp,.inl ⟨Nat.le_refl _,by simp [ck,hop]⟩⟩
         ·cases he
        ·cases he
       ·cases he;exact nil rfl
      ·cases he
     ·cases he
    ·cases he
   ·cases he
  ·cases he
 case h_15 =>
  split at he
  ·exact nil (vA he)
  ·unfold eJ at he
   split at he
   ·split at he
    ·split at he
     ·split at he <;> cases he <;> exact nil rfl
     ·cases he
    ·cases he
   ·cases he
  ·cases he
 case h_16 =>
  split at he
  ·unfold nj at he
   split at he
   ·split at he
    ·split at he <;> cases he <;> exact nil rfl
    ·cases he
   ·cases he
  ·cases he
 case h_17 =>
  split at he
  ·exact nil (vw he)
  ·split at he
   ·exact nil (vt he)
   unfold cH at he
   split at he
   ·split at he
    ·split at he <;> cases he <;> exact nil rfl
    ·cases he
   ·split at he
    ·split at he
     ·split at he <;> cases he <;> exact nil rfl
     ·cases he;exact nil rfl
     ·cases he;exact nil rfl
     ·cases he
    ·cases he
   ·cases he
  ·cases he
 case h_18 =>
  split at he
  ·unfold ni at he
   split at he
   ·split at he
    ·split at he <;> cases he <;> exact nil rfl
    ·cases he
   ·cases he
  ·cases he
 case h_19 =>
  split at he
  ·unfold jf at he
   split at he
   ·split at he <;> cases he <;> exact nil rfl
   ·cases he
  ·cases he
 case h_20 c hop =>
  split at he
  ·split at he
   ·split at he
    ·rename_i r hr
     have hw:=hE.wrote _ _ _ _ _ hr
     split at he
     ·rename_i ht
      cases he
      have ht:=Nat.le_of_ble_eq_true ht
      intro p hp
      rcases List.mem_append.1 hp with hp | hp
      ·obtain ⟨q1,q2,q3⟩:=y9 hp
       exact ⟨q1,.inl ⟨q2,by omega⟩⟩
      ·exact ⟨(hw p hp).1,.inr (hw p hp).2⟩
     ·cases he
    ·cases he
   ·split at he
    ·rename_i r hr
     have hw:=hE.wrote _ _ _ _ _ hr
     split at he
     ·cases he
      intro p hp
      exact ⟨(hw p hp).1,.inr (hw p hp).2⟩
     ·cases he
    ·cases he
   ·cases he
  ·split at he
   ·split at he
    ·split at he
     ·unfold nM at he
      split at he
      ·cases he;exact nil rfl
      ·cases he
     unfold mB at he
     split at he
     ·split at he
      ·split at he
       ·split at he <;> cases he <;> exact nil rfl
       ·cases he;exact nil rfl
      ·cases he
     all_goals first | (cases he;done) | (cases he;exact nil rfl)
    ·unfold xa at he
     split at he
     ·split at he <;> cases he <;> exact nil rfl
     ·cases he
    ·unfold xa at he
     split at he
     ·split at he <;> cases he <;> exact nil rfl
     ·cases he
    ·split at he
     ·intro p hp
      obtain ⟨h1,h2⟩:=vC he p hp
      refine ⟨h1,?_⟩
      rcases h2 with h2 | h2
      ·exact .inl ⟨by omega,by simp only [ck,hop];simp_all⟩
      ·exact .inr h2
     ·intro p hp
      obtain ⟨h1,h2⟩:=tn he p hp
      refine ⟨h1,?_⟩
      rcases h2 with h2 | h2
      ·exact .inl ⟨by omega,by simp only [ck,hop];simp_all⟩
      ·exact .inr h2
    ·split at he
     ·intro p hp
      obtain ⟨h1,h2⟩:=BV he p hp
      exact ⟨h1,.inr h2⟩
     ·cases he
    ·cases he
   ·cases he
  ·cases he
 case h_21 t len parts hop =>
  unfold fj at he
  split at he
  ·split at he
   ·split at he
    ·cases he
     intro p hp
     simp at hp
     subst hp
     exact ⟨by simp,.inl ⟨Nat.le_refl _,by simp [ck,hop]⟩⟩
    ·cases he
   ·cases he
  ·cases he
 case h_22 t l c hop =>
  split at he
  ·unfold fU at he
   split at he
   ·split at he
    ·split at he
     ·split at he
      ·cases he
       intro p hp
       simp at hp
       subst hp
       exact ⟨by simp,.inl ⟨Nat.le_refl _,by simp [ck,hop]⟩⟩
      ·cases he
     ·split at he
      ·split at he
       ·cases he
        intro p hp
        simp at hp
        subst hp
        exact ⟨by simp,.inl ⟨Nat.le_refl _,by simp [ck,hop]⟩⟩
       ·cases he
      ·cases he
     ·cases he
    ·cases he
   ·cases he
  ·cases he
 case h_23 fn first captured hop =>
  split at he
  ·split at he
   ·cases he;exact nil rfl
   ·cases he
  ·cases he
 case h_24=>cases he
end Go.Proofs.Ytibfppbffdedoaa
namespace Go.Proofs.Ytibfppbffdedoaa
open Go.RowKit
theorem jU {α:Type} : ∀ (xs:List α) (i:Nat) (y:α),tY xs i y=xs.set i y
 | [],_,_=>rfl
 | x :: xs,0,y=>rfl
 | x :: xs,i+1,y=>by simp [tY,jU xs i y]
theorem oo {α:Type} (xs:List α) (i:Nat) (y:α):(tY xs i y).length=xs.length:=by rw [jU];simp
theorem bV (heap:List HE) (i:Nat):hpS heap i=(heap[i]?).getD .un:=by
 unfold hpS
 rw [nB]
 cases heap[i]? <;> rfl
theorem Nw (heap:List HE) {i:Nat} (x:HE) (h:i<heap.length):hpS (tY heap i x)=upd (hpS heap) i x:=by
 funext j
 rw [bV,jU,List.getElem?_set]
 by_cases e:i=j
 ·subst e
  simp [h,ab]
 ·rw [if_neg e,ak _ _ (Ne.symm e),bV]
theorem zl : ∀ (wr:List (Nat × HE)) (heap:List HE),(∀ p ∈ wr,p.1<heap.length)->hpS (gQ heap wr)=eg (hpS heap) wr
 | [],heap,_=>rfl
 | (i,x) :: rest,heap,h=>by
  have h1:=h (i,x) (by simp)
  simp only [gQ,eg]
  rw [zl rest _ (fun p hp=>by rw [oo];exact h p (by simp [hp])),Nw heap x h1]
theorem oq : ∀ (wr:List (Nat × HE)) (heap:List HE),(gQ heap wr).length=heap.length
 | [],_=>rfl
 | (i,x) :: rest,heap=>by simp only [gQ,oq rest,oo]
theorem Cg {heap:List HE} {i:Nat} (h:hpS heap i ≠ .un):i<heap.length:=by
 rcases Nat.lt_or_ge i heap.length with h1 | h1
 ·exact h1
 ·rw [bV,List.getElem?_eq_none h1] at h
  exact absurd rfl h
theorem p9 : ∀ (wr:List (Nat × HE)) (h:ah),(∀ p ∈ wr,p.2 ≠ .un)->Grows h (eg h wr)
 | [],h,_=>Grows.refl h
 | (i,x) :: rest,h,H=>(Grows.upd h i (H (i,x) (by simp))).trans (p9 rest _ fun p hp=>H p (by simp [hp]))
theorem Tr.get_zero (t:Tr):t.get 0=t.val:=by cases t <;> rfl
theorem Tr.get_succ (t:Tr) (k:Nat):t.get (k+1)=match Nat.beq (k % 2) 0 with | true=>t.lf.get (k / 2) | false=>t.rt.get (k / 2):=by
 cases t with
 | nil=>simp only [Tr.get,Tr.lf,Tr.rt];split <;> rfl
 | nd v l r=>rfl
theorem Tr.get_setF : ∀ (n:Nat) (t:Tr) (k j:Nat) (x:AV),k<=n->(Tr.setF n t k x).get j=if j=k then some x else t.get j:=by
 intro n
 induction n with
 | zero =>
  intro t k j x h
  obtain rfl:k=0:=by omega
  cases j with
  | zero=>rfl
  | succ j=>rw [if_neg (by omega),Tr.get_succ,Tr.get_succ];rfl
 | succ n ih =>
  intro t k j x h
  cases k with
  | zero =>
   cases j with
   | zero=>rfl
   | succ j=>rw [if_neg (by omega),Tr.get_succ,Tr.get_succ];rfl
  | succ k =>
   cases j with
   | zero =>
    rw [if_neg (by omega),Tr.get_zero,Tr.get_zero]
    simp only [Tr.setF]
    split <;> rfl
   | succ j =>
    rw [Tr.get_succ,Tr.get_succ]
    simp only [Tr.setF]
    cases hk:Nat.beq (k % 2) 0 with
    | true =>
     have hk':=Nat.eq_of_beq_eq_true hk
     simp only [Tr.lf,Tr.rt]
     cases hj:Nat.beq (j % 2) 0 with
     | true =>
      have hj':=Nat.eq_of_beq_eq_true hj
      simp only []
      rw [ih _ _ _ _ (by omega)]
      by_cases e:j / 2=k / 2
      ·rw [if_pos e,if_pos (by omega)]
      ·rw [if_neg e,if_neg (by omega)]
     | false =>
      have hj':=Nat.ne_of_beq_eq_false hj
      rw [if_neg (by omega)]
    | false =>
     have hk':=Nat.ne_of_beq_eq_false hk
     simp only [Tr.lf,Tr.rt]
     cases hj:Nat.beq (j % 2) 0 with
     | false =>
      have hj':=Nat.ne_of_beq_eq_false hj
      simp only []
      rw [ih _ _ _ _ (by omega)]
      by_cases e:j / 2=k / 2
      ·rw [if_pos e,if_pos (by omega)]
      ·rw [if_neg e,if_neg (by omega)]
     | true =>
      have hj':=Nat.eq_of_beq_eq_true hj
      rw [if_neg (by omega)]
theorem Tr.get_set (t:Tr) (k j:Nat) (x:AV):(t.set k x).get j=if j=k then some x else t.get j:=Tr.get_setF k t k j x (Nat.le_refl _)
theorem Tr.setF_comm : ∀ (m n:Nat) (t:Tr) (i j:Nat) (a b:AV),i<=m->j<=n->i ≠ j->Tr.setF n (Tr.setF m t i a) j b=Tr.setF m (Tr.setF n t j b) i a:=by
 intro m
 induction m with
 | zero =>
  intro n t i j a b hi hj hne
  obtain rfl:i=0:=by omega
  cases n with
  | zero=>omega
  | succ n =>
   cases j with
   | zero=>omega
   | succ j=>simp only [Tr.setF];split <;> rfl
 | succ m ih =>
  intro n t i j a b hi hj hne
  cases i with
  | zero =>
   cases n with
   | zero=>omega
   | succ n =>
    cases j with
    | zero=>omega
    | succ j=>simp only [Tr.setF];split <;> rfl
  | succ i =>
   cases n with
   | zero =>
    obtain rfl:j=0:=by omega
    simp only [Tr.setF];split <;> rfl
   | succ n =>
    cases j with
    | zero=>simp only [Tr.setF];split <;> rfl
    | succ j =>
     simp only [Tr.setF]
     cases hk:Nat.beq (i % 2) 0 with
     | true =>
      have hk':=Nat.eq_of_beq_eq_true hk
      cases hj':Nat.beq (j % 2) 0 with
      | true =>
       have hj'':=Nat.eq_of_beq_eq_true hj'
       simp only [Tr.lf,Tr.rt,Tr.val]
       rw [ih _ _ _ _ _ _ (by omega) (by omega) (by omega)]
      | false=>rfl
     | false =>
      have hk':=Nat.ne_of_beq_eq_false hk
      cases hj':Nat.beq (j % 2) 0 with
      | true=>rfl
      | false =>
       have hj'':=Nat.ne_of_beq_eq_false hj'
       simp only [Tr.lf,Tr.rt,Tr.val]
       rw [ih _ _ _ _ _ _ (by omega) (by omega) (by omega)]
theorem Tr.set_comm (t:Tr) {i j:Nat} (a b:AV) (h:i ≠ j):(t.set i a).set j b=(t.set j b).set i a :=
 Tr.setF_comm i j t i j a b (Nat.le_refl _) (Nat.le_refl _) h
structure TRel (β : Nat -> Pl) (h : ah) (tmps : Tm) (a : Act) : Prop where
 size:a.tmps.size=tmps.n
 defers:a.defers = []
 ok : ∀ t v,tmps.tr.get t=some v->a.tmps[t]? = some (gv β v)/\okv h v
def SRel (w0:W0) (st:St) (a:Act) (w:World):Prop := ∃ β,HRel w0 β (hpS st.heap) w/\TRel β (hpS st.heap) st.tmps a
theorem pj {β:Nat->Pl} {h:ah} {tmps:Tm} {a:Act} (r:TRel β h tmps a) (x:Operand) (v:AV) (hv:evS tmps x=some v):gv β v=a.eval x/\okv h v:=by
 cases x with
 | tmp t =>
  obtain ⟨h1,h2⟩:=r.ok t v hv
  refine ⟨?_,h2⟩
  simp only [Act.eval,Array.getD_eq_getD_getElem?,h1,Option.getD_some]
 | const c=>exact ⟨A8 hv β,A7 hv h⟩
 | global g=>cases hv
 | func f=>cases hv;exact ⟨rfl,al rfl⟩
theorem ut {β:Nat->Pl} {h:ah} {tmps:Tm} {a:Act} (r:TRel β h tmps a) {ops:List Oper} {j:Nat} {b:Option Bool} (hg:pi ops tmps j=some b):yielded ops.toArray a.tmps j=b:=by
 unfold pi at hg
 rw [nB] at hg
 split at hg
 ·rename_i o ho
  split at hg
  ·rename_i d hd
   unfold yielded
   have e1:ops.toArray[j]? = some o:=by simpa using ho
   rw [e1]
   simp only [Option.bind_some,hd]
   split at hg
   ·rename_i ht
    cases hg
    rw [(r.ok _ _ ht).1]
    rfl
   ·rename_i ht
    cases hg
    rw [(r.ok _ _ ht).1]
    rfl
   ·rename_i ht
    cases hg
    rw [(r.ok _ _ ht).1]
    rfl
   ·cases hg
  ·cases hg
 ·cases hg
theorem pT {β:Nat->Pl} {h:ah} {tmps:Tm} {a:Act} (r:TRel β h tmps a) {ops:List Oper} {o:Oper} {b:Bool} (hw:cY ops tmps o=some b):Region.wanted o (yielded ops.toArray a.tmps)=b:=by
 unfold cY at hw
 unfold Region.wanted
 split at hw
 ·rename_i hg
  cases hw
  rw [hg]
 ·rename_i j want hg
  rw [hg]
  split at hw
  ·rename_i b' hb
   simp only [ut r hb]
   cases hw
   cases b' <;> cases want <;> rfl
  ·rename_i hb
   simp only [ut r hb]
   cases hw
   rfl
  ·cases hw
theorem TRel.put {β:Nat->Pl} {h:ah} {tmps:Tm} {a:Act} (r:TRel β h tmps a) (dst:Option Tmp) {v:AV} (hv:okv h v):TRel β h (ir tmps dst v) (a.put dst (gv β v)):=by
 cases dst with
 | none=>exact r
 | some d =>
  refine ⟨by simp only [Act.put,ir,Array.size_setIfInBounds];exact r.size,r.defers,fun t u hu => ?_⟩
  simp only [Act.put,ir] at hu ⊢
  rw [Array.getElem?_setIfInBounds]
  cases hb:Nat.blt d tmps.n with
  | true =>
   rw [hb] at hu
   simp only [] at hu
   rw [Tr.get_set] at hu
   have hlt:d<a.tmps.size:=by rw [r.size];exact Nat.le_of_ble_eq_true hb
   by_cases e:t=d
   ·subst e
    rw [if_pos rfl] at hu
    cases hu
    rw [if_pos rfl,if_pos hlt]
    exact ⟨rfl,hv⟩
   ·rw [if_neg e] at hu
    rw [if_neg (Ne.symm e)]
    exact r.ok t u hu
  | false =>
   rw [hb] at hu
   simp only [] at hu
   obtain ⟨h1,h2⟩:=r.ok t u hu
   have hlt : ¬ d<a.tmps.size:=by
    rw [r.size]
    intro h
    rw [show Nat.blt d tmps.n=true from Nat.ble_eq_true_of_le h] at hb
    cases hb
   by_cases e:d=t
   ·subst e
    rw [Array.getElem?_eq_none (Nat.le_of_not_lt hlt)] at h1
    cases h1
   ·rw [if_neg e]
    exact ⟨h1,h2⟩
theorem Nx {β β':Nat->Pl} {h:ah} (hb : ∀ i,h i ≠ .un->β' i=β i) {v:AV} (hv:okv h v):gv β' v=gv β v:=by
 have hc : ∀ c,okc h c->gc β' c=gc β c:=fun c hc=>bX fun i hi=>hb i (hc i hi)
 have h1 : ∀ u,ok1 h u->g1 β' u=g1 β u:=by
  intro u hu
  cases u with
  | c x=>exact hc x hu
  | agg xs=>simp only [g1];congr 2;exact List.map_congr_left fun c hx=>hc c (hu c hx)
 cases v with
 | one u=>exact h1 u hv
 | tup us=>simp only [gv];congr 2;exact List.map_congr_left fun c hx=>h1 c (hv c hx)
theorem TRel.agree {β β':Nat->Pl} {h h':ah} {tmps:Tm} {a:Act} (r:TRel β h tmps a) (hb : ∀ i,h i ≠ .un->β' i=β i) (hg:Grows h h'):TRel β' h' tmps a:=by
 refine ⟨r.size,r.defers,fun t v hv => ?_⟩
 obtain ⟨h1,h2⟩:=r.ok t v hv
 exact ⟨by rw [h1,Nx hb h2],h2.grow hg⟩
theorem TRel.upd {β:Nat->Pl} {h h':ah} {tmps:Tm} {a:Act} (r:TRel β h tmps a) {id:Nat} (hid:h id = .un) (p:Pl) (hg:Grows h h'):TRel (upd β id p) h' tmps a:=by
 refine ⟨r.size,r.defers,fun t v hv => ?_⟩
 obtain ⟨h1,h2⟩:=r.ok t v hv
 exact ⟨by rw [h1,P9 h2 hid p],h2.grow hg⟩
structure Ent where
 j:Nat
 o:Oper
 id:Nat
 out:Option Eff
def bH (o:Oper) (st:St):Option Eff->St
 | none=>⟨ir st.tmps o.dst AV.undef,st.heap⟩
 | some e=>⟨ir st.tmps o.dst e.val,gQ st.heap e.wr⟩
def Step1 (E:Env) (ops:List Oper) (id:Nat) (o:Oper) (st:St):Option Eff->Prop
 | none=>cY ops st.tmps o=some false
 | some e=>cY ops st.tmps o=some true/\e.pre.holds /\ ∃ v,act E id (evS st.tmps) (hpS st.heap) o=some ⟨v,e.pre,e.reads,e.wr⟩ /\
   (e.val=v \/ ∃ b,v = .one (.c (.bool b))/\e.val = .one (.c (lj b)))
theorem qi {E:Env} (hE:EnvOk E) {ops:List Oper} {Q:Exit->Act->World->Prop} {w0:W0} {st:St} {a:Act} {w:World} (r:SRel w0 st a w) {j id:Nat} {o:Oper} (ho:ops[j]? = some o)
  (hid:GP (hpS st.heap) id (ck E o)) (hlt : ∀ j,j<ck E o->id+j<st.heap.length) {out:Option Eff} (hs:Step1 E ops id o st out) {K:Act->World->Prop} (hK : ∀ a' w',SRel w0 (bH o st out) a' w'->K a' w') :
  wpOp E.P ops.toArray Q j K a w:=by
 obtain ⟨β,hr,tr⟩:=r
 unfold wpOp
 have e1:ops.toArray[j]? = some o:=by simpa using ho
 rw [e1]
 simp only []
 cases out with
 | none =>
  rw [pT tr hs]
  simp only [Bool.false_eq_true,if_false]
  exact hK _ _ ⟨β,hr,tr.put o.dst (v:=AV.undef) (by intro v hv;cases hv)⟩
 | some e =>
  obtain ⟨hw,hp,v,hact,hval⟩:=hs
  rw [pT tr hw]
  simp only [if_true]
  refine .inl ?_
  have hop:=Gh hE hr hid (ρ:=a.eval) (fun x _ u hu=>pj tr x u hu) hact hp
  refine hop.wp fun u w' ⟨β',hβ,hu,hr',hok⟩=>hK _ _ ?_
  have hwr:=KZ hE hact
  have hrange : ∀ q ∈ e.wr,q.1<st.heap.length:=fun q hq=>by
   rcases (hwr q hq).2 with ⟨h1,h2⟩ | h1
   ·have:=hlt (q.1-id) (by omega)
    omega
   ·exact Cg h1
  have hheap:hpS (gQ st.heap e.wr)=eg (hpS st.heap) e.wr:=zl e.wr st.heap hrange
  refine ⟨β',by show HRel w0 _ (hpS (gQ st.heap e.wr)) w';rw [hheap];exact hr',?_⟩
  show TRel β' (hpS (gQ st.heap e.wr)) (ir st.tmps o.dst e.val) (a.put o.dst u)
  rw [hheap]
  have tr':=tr.agree hβ (p9 e.wr (hpS st.heap) fun q hq=>(hwr q hq).1)
  have hval2:gv β' e.val=u/\okv (eg (hpS st.heap) e.wr) e.val:=by
   rcases hval with h1 | ⟨b,h1,h2⟩
   ·rw [h1];exact ⟨hu.symm,hok⟩
   ·rw [h2,hu,h1]
    exact ⟨iv _ b,al (kA b)⟩
  rw [<- hval2.1]
  exact tr'.put o.dst hval2.2
def Runs (E:Env) (ops:List Oper):List Ent->St->St->Prop
 | [],s,s'=>s=s'
 | x :: xs,s,s'=>Step1 E ops x.id x.o s x.out/\Runs E ops xs (bH x.o s x.out) s'
def dH:Option Eff->pp
 | none=>([],[])
 | some e=>(e.reads,e.wr.map (·.1))
def Shape (E:Env) (L:Nat):List Oper->Nat->Nat->List Ent->Prop
 | [],_,_,xs=>xs = []
 | o :: rest,j,id,xs=>match xs with
  | []=>False
  | x :: xs=>x.o=o/\x.j=j/\x.id=M4 E o L id/\Shape E L rest (j+1) (jG E o id) xs
theorem lM {E:Env} {ops:List Oper} {L:Nat} {Q:St × List pp->Prop} : ∀ (rest:List Oper) (j id:Nat) (st:St) (log:List pp),(hH E ops L rest j id st log).sat Q ->
  ∃ ents st',Runs E ops ents st st'/\Shape E L rest j id ents/\Q (st',(ents.map fun x=>dH x.out).reverse++log)
 | [],j,id,st,log,h=>⟨[],st,rfl,rfl,by simpa [hH,Tree.sat] using h⟩
 | o :: rest,j,id,st,log,h=>by
  unfold hH at h
  split at h
  ·exact h.elim
  ·rename_i hw
   obtain ⟨ents,st',h1,h2,h3⟩:=lM rest _ _ _ _ h
   exact ⟨⟨j,o,M4 E o L id,none⟩ :: ents,st',⟨hw,h1⟩,⟨rfl,rfl,rfl,h2⟩,by simpa [dH] using h3⟩
  ·rename_i hw
   split at h
   ·exact h.elim
   ·rename_i e hact
    simp only [] at h
    have fin:e.pre.holds -> ∀ u:AV,(e.val=u \/ ∃ b,e.val = .one (.c (.bool b))/\u = .one (.c (lj b))) ->
      (hH E ops L rest (j+1) (jG E o id) ⟨ir st.tmps o.dst u,gQ st.heap e.wr⟩ ((e.reads,e.wr.map (·.1)) :: log)).sat Q ->
      ∃ ents st',Runs E ops ents st st'/\Shape E L (o :: rest) j id ents/\Q (st',(ents.map fun x=>dH x.out).reverse++log):=by
     intro hp u hu hq
     obtain ⟨ents,st',h1,h2,h3⟩:=lM rest _ _ _ _ hq
     refine ⟨⟨j,o,M4 E o L id,some ⟨u,e.pre,e.reads,e.wr⟩⟩ :: ents,st',⟨⟨hw,hp,e.val,hact,?_⟩,h1⟩,⟨rfl,rfl,rfl,h2⟩,by simpa [dH] using h3⟩
     rcases hu with h | ⟨b,h,h'⟩
     ·exact .inl h.symm
     ·exact .inr ⟨b,h,h'⟩
    have ways:e.pre.holds->(match e.val with
      | .one (.c (.bool b))=>match rk ops j with
       | true=>Tree.br b (hH E ops L rest (j+1) (jG E o id) ⟨ir st.tmps o.dst (.one (.c .tt)),gQ st.heap e.wr⟩ ((e.reads,e.wr.map Prod.fst) :: log))
         (hH E ops L rest (j+1) (jG E o id) ⟨ir st.tmps o.dst (.one (.c .ff)),gQ st.heap e.wr⟩ ((e.reads,e.wr.map Prod.fst) :: log))
       | false=>hH E ops L rest (j+1) (jG E o id) ⟨ir st.tmps o.dst e.val,gQ st.heap e.wr⟩ ((e.reads,e.wr.map Prod.fst) :: log)
      | _=>hH E ops L rest (j+1) (jG E o id) ⟨ir st.tmps o.dst e.val,gQ st.heap e.wr⟩ ((e.reads,e.wr.map Prod.fst) :: log)).sat Q ->
      ∃ ents st',Runs E ops ents st st'/\Shape E L (o :: rest) j id ents/\Q (st',(ents.map fun x=>dH x.out).reverse++log):=by
     intro hp hq
     split at hq
     ·rename_i b hb
      split at hq
      ·cases b with
       | true=>exact fin hp _ (.inr ⟨true,hb,rfl⟩) (hq.1 rfl)
       | false=>exact fin hp _ (.inr ⟨false,hb,rfl⟩) (hq.2 rfl)
      ·exact fin hp _ (.inl rfl) hq
     ·exact fin hp _ (.inl rfl) hq
    split at h
    ·rename_i hpre
     exact ways (by rw [hpre];trivial) h
    ·rename_i x hpre
     exact ways (by rw [hpre];exact h.1) (h.2 h.1)
end Go.Proofs.Ytibfppbffdedoaa
