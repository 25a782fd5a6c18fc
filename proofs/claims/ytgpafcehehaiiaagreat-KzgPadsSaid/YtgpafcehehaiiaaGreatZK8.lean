/- Texts of the proof, joined. -/
import Derived.Test.YtgpafcehehaiiaaGreatZK7
set_option linter.unusedSectionVars false
set_option linter.unusedSimpArgs false
set_option linter.unusedVariables false
set_option maxRecDepth 100000
namespace Go.Proofs.YtgpafcehehaiiaaGreat
open Go.RowKit
section
variable {hF : Fr -> Pg2} {oF : UInt64 -> Fr} {gF : Fr -> Pg1} {mF : Fr -> Fr -> Fr}
def powK (o:Fr) (mF:Fr->Fr->Fr) (x:Fr):Nat->Fr
 | 0=>o
 | n+1=>mF (powK o mF x n) x
theorem powK_succ (o:Fr) (mF:Fr->Fr->Fr) (x:Fr) (n:Nat):powK o mF x (n+1)=mF (powK o mF x n) x:=rfl
def powL (o:Fr) (gF:Fr->Pg1) (mF:Fr->Fr->Fr) (x:Fr) (n:Nat):List Pg1:=(List.range n).map fun i=>gF (powK o mF x i)
theorem powL_len (o:Fr) (gF:Fr->Pg1) (mF:Fr->Fr->Fr) (x:Fr) (n:Nat):(powL o gF mF x n).length=n:=by unfold powL;rw [List.length_map,List.length_range]
theorem powL_succ (o:Fr) (gF:Fr->Pg1) (mF:Fr->Fr->Fr) (x:Fr) (n:Nat):powL o gF mF x (n+1)=powL o gF mF x n ++ [gF (powK o mF x n)]:=by unfold powL;rw [List.range_succ,List.map_append];rfl
theorem po_does (hE:EnvOk (poE hF oF gF mF)) (x:Fr) (n:Nat) (hn:n<65536):DoesL (poE hF oF gF mF) (flat (codeOf Tryz.f17)) (startSt Tryz.f17 [v4 x,vI n] [])
  (EndsAs (poE hF oF gF mF) Tryz.f17 (Reads oPow (powL (oF 1) gF mF x n,hF x))):=by
 have st:=po_start hF oF gF mF x n
 generalize hF x=t at *
 refine DoesL.stageN hE 100 4 _ _ _ _ _ _ st ?_
 refine (?_:DoesL _ _ (poSt x (powK (oF 1) mF x 0) t n ((0:Nat):Int) 0 (powL (oF 1) gF mF x 0)) _)
 refine DoesL.blockLoop (B:=loopAt Tryz.f17 0) (rest:=poC.drop 5) (id:=0) (by kernel_rfl) (fun j : { j:Nat // j<=n }=>poSt x (powK (oF 1) mF x j.1) t n (j.1:Int) j.1 (powL (oF 1) gF mF x j.1)) (fun j=>n-j.1) ⟨0,Nat.zero_le _⟩ fun j => ?_
 obtain ⟨j,hj⟩:=j
 refine (?_:Does _ _ (poSt x (powK (oF 1) mF x j) t n (j:Int) j (powL (oF 1) gF mF x j)) _)
 have hlen:=powL_len (oF 1) gF mF x j
 refine Does.roundP hE 300 _ (po_round hF oF gF mF x (powK (oF 1) mF x j) t n (j:Int) j (powL (oF 1) gF mF x j)) ⟨fun h => ?_,fun h => ?_⟩
 ·simp only [decide_eq_true_eq] at h
  refine ⟨⟨⟨by rw [rowsC_g1,hlen];omega,rfl⟩,by omega,by omega⟩,fun _ => ?_⟩
  refine ⟨⟨j+1,by omega⟩,by show n-(j+1)<n-j;omega,?_⟩
  rw [wrapU j (by omega),wholeAppG1 hlen,<- powL_succ,<- powK_succ (oF 1) mF x j]
  rfl
 ·simp only [decide_eq_false_iff_not] at h
  obtain rfl:j=n:=by omega
  refine ⟨rfl,DoesL.ends hE 100 (po_end hF oF gF mF x _ t _ _ _ _) ?_⟩
  rw [List.take_of_length_le (Nat.le_of_eq hlen)]
  exact ⟨_,rfl,Nat.le_of_eq hlen.symm⟩
end
def fewI (i:Int):Prop:=0<=i/\i<65536
def powsF (x:Fr) (n:Int):List Pg1 × Pg2:=(powL (ofRF 1) commG mulRF x n.toNat,commH x)
theorem powsF_ok:CallOk Tryz.prog 17 (K2 (kRow Fr).arg (kInt.arg.such fewI) oPow.res powsF) :=
 G2 (E:=poE commH ofRF commG mulRF) Tryz.func17 (c:=codeOf Tryz.f17) (by kernel_rfl) (bodied Tryz.func17 (by kernel_rfl) (by kernel_rfl)) (kRow Fr).inp (kInt.inp.such fewI) oPow powsF fun x n _ hn=>by
  obtain ⟨h1,h2⟩:fewI n:=hn.2
  obtain ⟨m,rfl⟩ : ∃ m:Nat,n=(m:Int):=⟨n.toNat,by omega⟩
  exact po_does (En_ok (.cons commH_ok (.cons ofRF_ok (.cons commG_ok (.cons mulR_ok .nil))))) x m (by omega)
abbrev fewP (p:List Pg1 × Pg2):Prop:=few p.1
abbrev aPow:Arg (List Pg1 × Pg2):=(argHd .g1 Pg2).such fewP
abbrev iPow:Inp (List Pg1 × Pg2):=(inpHd .g1 Pg2).such fewP
def kCommit_T (f0:List Fr->List Fr) (f1:List Pg1->List Fr->Pg1) (p:List Pg1 × Pg2) (f:List Fr):Tree (Option ((Pg1 × Int) × Pr)) :=
 (.vc ((0+f.length*4<=(rowsC RK.fr f).length/\0=0/\f.length<1125899906842624/\0=0/\4=4)/\fewR (List.take f.length (List.drop 0 f)))
  (.vc (0+(f0 (List.take f.length (List.drop 0 f))).length*4<=(rowsC RK.fr (f0 (List.take f.length (List.drop 0 f)))).length/\0<4)
   (.vc (0+p.fst.length*13<=(rowsC RK.g1 p.fst).length/\0<13)
    (.br (decide ((↑(f0 (List.take f.length (List.drop 0 f))).length:Int) > (↑p.fst.length:Int)))
     (.leaf (some ((({ x := { l0:=UInt64.ofNat 0,l1:=UInt64.ofNat 0,l2:=UInt64.ofNat 0,l3:=UInt64.ofNat 0,l4:=UInt64.ofNat 0,l5:=UInt64.ofNat 0 },y := { l0:=UInt64.ofNat 0,l1:=UInt64.ofNat 0,l2:=UInt64.ofNat 0,l3:=UInt64.ofNat 0,l4:=UInt64.ofNat 0,l5:=UInt64.ofNat 0 },inf:=false },8),.t))))
     (.vc (((0+p.fst.length*13<=(rowsC RK.g1 p.fst).length/\0=0/\p.fst.length<1125899906842624/\0=0/\13=13)/\few (List.take p.fst.length (List.drop 0 p.fst)))/\0+(f0 (List.take f.length (List.drop 0 f))).length*4<=(rowsC RK.fr (f0 (List.take f.length (List.drop 0 f)))).length/\0=0/\(f0 (List.take f.length (List.drop 0 f))).length<1125899906842624/\0=0/\4=4)
      (.leaf (some (((f1 (List.take p.fst.length (List.drop 0 p.fst)) (List.take (f0 (List.take f.length (List.drop 0 f))).length (List.drop 0 (f0 (List.take f.length (List.drop 0 f))))),0),.t)))))))))
theorem kCommit_run (f0:List Fr->List Fr) (f1:List Pg1->List Fr->Pg1) (p:List Pg1 × Pg2) (f:List Fr):endT (Ens [(54,Kcut f0),(55,K2 ((argRw .g1).such few) (argRw .fr) kg1.rs.res f1)] [54]) ((kRow Pg1).rs2 kInt).out 300 Tryz.f23 (flat (codeOf Tryz.f23)) (startSt Tryz.f23 [(inpHd .g1 Pg2).av 0 p,rwV .fr 1 f] [rwHE .g1 p.1,rwHE .fr f])=kCommit_T f0 f1 p f:=by kernel_rfl
def kCommit (p:List Pg1 × Pg2) (f:List Fr):Pg1 × Int:=(kCommit_T cutL sumG1 p f).outD (pg10,0)
theorem kCommit_ok' (h : ∀ (p:List Pg1 × Pg2) (f:List Fr),iPow.fact p->iFew.fact f->(kCommit_T cutL sumG1 p f).full=true/\(kCommit_T cutL sumG1 p f).okAll):CallOk Tryz.prog 23 (K2 aPow aFew ((kRow Pg1).rs2 kInt).out.res kCommit) :=
 Go.Proofs.YtgpafcehehaiiaaGreat.G2 (E:=Ens [(54,Kcut cutL),(55,K2 ((argRw .g1).such few) (argRw .fr) kg1.rs.res sumG1)] [54]) Tryz.func23 (c:=codeOf Tryz.f23) (by kernel_rfl) (bodied Tryz.func23 (by kernel_rfl) (by kernel_rfl)) iPow iFew ((kRow Pg1).rs2 kInt).out kCommit fun p f hp hf=>DoesL.outs (Ens_ok (.cons pcut_ok (.cons sumG1_ok .nil))) 300 (pg10,0) (kCommit_run cutL sumG1 p f) (h p f hp hf).1 (h p f hp hf).2
theorem wholeFr (f:List Fr):List.take f.length (List.drop 0 f)=f:=wholeTakeFr rfl
theorem wholeG1 (f:List Pg1):List.take f.length (List.drop 0 f)=f:=wholeTakeG1 rfl
theorem vcFew {f:List Fr} (h:fewR f):(0+f.length*4<=(rowsC RK.fr f).length/\0=0/\f.length<1125899906842624/\0=0/\4=4)/\fewR (List.take f.length (List.drop 0 f)):=by
 rw [wholeFr]
 exact ⟨vcAllFr (Nat.lt_of_lt_of_le h (by decide)),h⟩
theorem vcFew' {f:List Fr} (h:fewR f):(0+f.length*4<=(rowsC RK.fr f).length/\0=0/\f.length<1125899906842624/\0=0/\4=4)/\fewR f:=⟨vcAllFr (Nat.lt_of_lt_of_le h (by decide)),h⟩
theorem vcFewG {f:List Pg1} (h:few f):(0+f.length*13<=(rowsC RK.g1 f).length/\0=0/\f.length<1125899906842624/\0=0/\13=13)/\few (List.take f.length (List.drop 0 f)):=by
 rw [wholeG1]
 exact ⟨vcAllG1 (Nat.lt_of_lt_of_le h (by decide)),h⟩
theorem fewR_cut {f:List Fr} (h:fewR f):fewR (cutL f):=Nat.lt_of_le_of_lt (cutL_le f) h
theorem kCommit_ok:CallOk Tryz.prog 23 (K2 aPow aFew ((kRow Pg1).rs2 kInt).out.res kCommit):=kCommit_ok' fun p f hp hf=>by
 have hp:few p.1:=hp.2
 have hf:fewR f:=hf.2
 refine ⟨rfl,vcFew hf,?_⟩
 rw [wholeFr]
 exact ⟨vcLenFr _,vcLenG1 _,fun _=>trivial,fun _=>⟨⟨vcFewG hp,vcAllFr (Nat.lt_of_lt_of_le (fewR_cut hf) (by decide))⟩,trivial⟩⟩
def kOpen_T (f0:List Fr->List Fr) (f1:List Fr->Fr->List Fr × Fr) (f2:List Pg1 × Pg2->List Fr->Pg1 × Int) (p:List Pg1 × Pg2) (f:List Fr) (z:Fr):Tree (Option ((Fr × Pg1 × Int) × Pr)) :=
 (.vc ((0+f.length*4<=(rowsC RK.fr f).length/\0=0/\f.length<1125899906842624/\0=0/\4=4)/\fewR (List.take f.length (List.drop 0 f)))
  (.vc (0+(f0 (List.take f.length (List.drop 0 f))).length*4<=(rowsC RK.fr (f0 (List.take f.length (List.drop 0 f)))).length/\0<4)
   (.vc (0+p.fst.length*13<=(rowsC RK.g1 p.fst).length/\0<13)
    (.br (decide ((↑(f0 (List.take f.length (List.drop 0 f))).length:Int) > (↑p.fst.length:Int)))
     (.leaf (some ((({ l0:=UInt64.ofNat 0,l1:=UInt64.ofNat 0,l2:=UInt64.ofNat 0,l3:=UInt64.ofNat 0 },{ x := { l0:=UInt64.ofNat 0,l1:=UInt64.ofNat 0,l2:=UInt64.ofNat 0,l3:=UInt64.ofNat 0,l4:=UInt64.ofNat 0,l5:=UInt64.ofNat 0 },y := { l0:=UInt64.ofNat 0,l1:=UInt64.ofNat 0,l2:=UInt64.ofNat 0,l3:=UInt64.ofNat 0,l4:=UInt64.ofNat 0,l5:=UInt64.ofNat 0 },inf:=false },8),.t))))
     (.vc ((0+f.length*4<=(rowsC RK.fr f).length/\0=0/\f.length<1125899906842624/\0=0/\4=4)/\fewR (List.take f.length (List.drop 0 f)))
      (.vc (((0+p.fst.length*13<=(rowsC RK.g1 p.fst).length/\0=0/\p.fst.length<1125899906842624/\0=0/\13=13)/\fewP (List.take p.fst.length (List.drop 0 p.fst),p.snd))/\(0+(f1 (List.take f.length (List.drop 0 f)) z).fst.length*4<=(rowsC RK.fr (f1 (List.take f.length (List.drop 0 f)) z).fst).length/\0=0/\(f1 (List.take f.length (List.drop 0 f)) z).fst.length<1125899906842624/\0=0/\4=4)/\fewR (List.take (f1 (List.take f.length (List.drop 0 f)) z).fst.length (List.drop 0 (f1 (List.take f.length (List.drop 0 f)) z).fst)))
       (.br ((f2 (List.take p.fst.length (List.drop 0 p.fst),p.snd) (List.take (f1 (List.take f.length (List.drop 0 f)) z).fst.length (List.drop 0 (f1 (List.take f.length (List.drop 0 f)) z).fst))).snd != 0)
        (.leaf (some ((({ l0:=UInt64.ofNat 0,l1:=UInt64.ofNat 0,l2:=UInt64.ofNat 0,l3:=UInt64.ofNat 0 },{ x := { l0:=UInt64.ofNat 0,l1:=UInt64.ofNat 0,l2:=UInt64.ofNat 0,l3:=UInt64.ofNat 0,l4:=UInt64.ofNat 0,l5:=UInt64.ofNat 0 },y := { l0:=UInt64.ofNat 0,l1:=UInt64.ofNat 0,l2:=UInt64.ofNat 0,l3:=UInt64.ofNat 0,l4:=UInt64.ofNat 0,l5:=UInt64.ofNat 0 },inf:=false },(f2 (List.take p.fst.length (List.drop 0 p.fst),p.snd) (List.take (f1 (List.take f.length (List.drop 0 f)) z).fst.length (List.drop 0 (f1 (List.take f.length (List.drop 0 f)) z).fst))).snd),.t))))
        (.leaf (some ((((f1 (List.take f.length (List.drop 0 f)) z).snd,(f2 (List.take p.fst.length (List.drop 0 p.fst),p.snd) (List.take (f1 (List.take f.length (List.drop 0 f)) z).fst.length (List.drop 0 (f1 (List.take f.length (List.drop 0 f)) z).fst))).fst,0),.t)))))))))))
theorem kOpen_run (f0:List Fr->List Fr) (f1:List Fr->Fr->List Fr × Fr) (f2:List Pg1 × Pg2->List Fr->Pg1 × Int) (p:List Pg1 × Pg2) (f:List Fr) (z:Fr):endT (Ens [(54,Kcut f0),(56,K2 aFew (kRow Fr).arg oLin.res f1),(23,K2 aPow aFew ((kRow Pg1).rs2 kInt).out.res f2)] [54,56]) ((kRow Fr).rs3 (kRow Pg1) kInt).out 300 Tryz.f24 (flat (codeOf Tryz.f24)) (startSt Tryz.f24 [(inpHd .g1 Pg2).av 0 p,rwV .fr 1 f,.one ((kRow Fr).av z)] [rwHE .g1 p.1,rwHE .fr f])=kOpen_T f0 f1 f2 p f z:=by kernel_rfl
def kOpen (p:List Pg1 × Pg2) (f:List Fr) (z:Fr):Fr × Pg1 × Int:=(kOpen_T cutL linF kCommit p f z).outD (⟨0,0,0,0⟩,pg10,0)
theorem kOpen_ok' (h : ∀ (p:List Pg1 × Pg2) (f:List Fr) (z:Fr),iPow.fact p->iFew.fact f->(kOpen_T cutL linF kCommit p f z).full=true/\(kOpen_T cutL linF kCommit p f z).okAll):CallOk Tryz.prog 24 (K3 aPow aFew (kRow Fr).arg ((kRow Fr).rs3 (kRow Pg1) kInt).out.res kOpen) :=
 Go.Proofs.YtgpafcehehaiiaaGreat.G3 (E:=Ens [(54,Kcut cutL),(56,K2 aFew (kRow Fr).arg oLin.res linF),(23,K2 aPow aFew ((kRow Pg1).rs2 kInt).out.res kCommit)] [54,56]) Tryz.func24 (c:=codeOf Tryz.f24) (by kernel_rfl) (bodied Tryz.func24 (by kernel_rfl) (by kernel_rfl)) iPow iFew (kRow Fr).inp ((kRow Fr).rs3 (kRow Pg1) kInt).out kOpen fun p f z hp hf _=>by
  have hd:=DoesL.outs (Ens_ok (.cons pcut_ok (.cons linF_ok (.cons kCommit_ok .nil)))) 300 (⟨0,0,0,0⟩,pg10,0) (kOpen_run cutL linF kCommit p f z) (h p f z hp hf).1 (h p f z hp hf).2
  rw [show kOpen p f z=(kOpen_T cutL linF kCommit p f z).outD (⟨0,0,0,0⟩,pg10,0) from rfl]
  exact hd
theorem linR_len {aF mF:Fr->Fr->Fr} (xs:List Fr) (z:Fr) : ∀ n s,(linR aF mF xs z n s).2.length=s.2.length
 | 0,s=>rfl
 | 1,s=>rfl
 | n+2,(r,q)=>by rw [linR_succ,linR_len xs z (n+1),List.length_set]
theorem linF_len (f:List Fr) (z:Fr):(linF f z).1.length<=f.length-1:=by
 unfold linF linG
 refine Nat.le_trans (cutL_le _) ?_
 rw [linR_len]
 unfold zerosL
 rw [List.length_replicate]
 exact Nat.le_refl _
theorem linF_few {f:List Fr} (h:fewR f) (z:Fr):fewR (linF f z).1:=Nat.lt_of_le_of_lt (linF_len f z) (Nat.lt_of_le_of_lt (Nat.sub_le _ _) h)
theorem kOpen_ok:CallOk Tryz.prog 24 (K3 aPow aFew (kRow Fr).arg ((kRow Fr).rs3 (kRow Pg1) kInt).out.res kOpen):=kOpen_ok' fun p f z hp hf=>by
 have hp:few p.1:=hp.2
 have hf:fewR f:=hf.2
 refine ⟨rfl,vcFew hf,?_⟩
 rw [wholeFr]
 refine ⟨vcLenFr _,vcLenG1 _,fun _=>trivial,fun _=>⟨vcFew' hf,?_⟩⟩
 rw [wholeFr,wholeG1]
 exact ⟨⟨⟨vcAllG1 (Nat.lt_of_lt_of_le hp (by decide)),hp⟩,vcFew' (linF_few hf z)⟩,fun _=>trivial,fun _=>trivial⟩
def kCheck_T (f0:Pg1->Bool) (f1:Pg2->Bool) (f2:Pg1) (f3:UInt64->Fr) (f4:Fr->Fr) (f5:List Pg1->List Fr->Pg1) (f6:Pg2) (f7:Pg1->Pg1) (f8:List Duo->Bool) (t:Pg2) (c:Pg1) (z:Fr) (y:Fr) (w:Pg1):Tree (Option ((Bool) × Pr)) :=
 (.br (!(f0 c))
  (.leaf (some ((false,.t))))
  (.br (!(f0 w))
   (.leaf (some ((false,.t))))
   (.br (!(f1 t))
    (.leaf (some ((false,.t))))
    (.vc (few [c,f2,w])
     (.leaf (some ((f8 [{ p:=f5 [c,f2,w] [f3 (UInt64.ofNat 1),f4 y,z],q:=f6 },{ p:=f7 w,q:=t }],.t))))))))
theorem kCheck_run (f0:Pg1->Bool) (f1:Pg2->Bool) (f2:Pg1) (f3:UInt64->Fr) (f4:Fr->Fr) (f5:List Pg1->List Fr->Pg1) (f6:Pg2) (f7:Pg1->Pg1) (f8:List Duo->Bool) (t:Pg2) (c:Pg1) (z:Fr) (y:Fr) (w:Pg1):endT (Ens [(61,K1 (kRow Pg1).arg kBool.rs.res f0),(62,K1 (kRow Pg2).arg kBool.rs.res f1),(63,K0 (kRow Pg1).rs.res f2),(64,K1 kU64.arg r4.res f3),(65,Kr1 f4),(55,K2 ((argRw .g1).such few) (argRw .fr) kg1.rs.res f5),(67,K0 (kRow Pg2).rs.res f6),(68,K1 (kRow Pg1).arg (kRow Pg1).rs.res f7),(66,K1 (argRw .duo) kBool.rs.res f8)] []) kBool.rs.out 300 Tryz.f30 (flat (codeOf Tryz.f30)) (startSt Tryz.f30 [.one ((kRow Pg2).av t),.one ((kRow Pg1).av c),.one ((kRow Fr).av z),.one ((kRow Fr).av y),.one ((kRow Pg1).av w)] [])=kCheck_T f0 f1 f2 f3 f4 f5 f6 f7 f8 t c z y w:=by kernel_rfl
def kCheck (t:Pg2) (c:Pg1) (z:Fr) (y:Fr) (w:Pg1):Bool:=(kCheck_T inG1 inG2 oneG1 ofPR negPR sumG1 oneG2 negG1 prCheck t c z y w).outD false
theorem kCheck_ok' (h : ∀ (t:Pg2) (c:Pg1) (z:Fr) (y:Fr) (w:Pg1),(kCheck_T inG1 inG2 oneG1 ofPR negPR sumG1 oneG2 negG1 prCheck t c z y w).full=true/\(kCheck_T inG1 inG2 oneG1 ofPR negPR sumG1 oneG2 negG1 prCheck t c z y w).okAll):CallOk Tryz.prog 30 (KL (ArgL.cons (kRow Pg2).arg (ArgL.cons (kRow Pg1).arg (ArgL.cons (kRow Fr).arg (ArgL.cons (kRow Fr).arg (ArgL.cons (kRow Pg1).arg ArgL.nil))))) kBool.rs.out.res (fun x=>kCheck x.1 x.2.1 x.2.2.1 x.2.2.2.1 x.2.2.2.2.1)) :=
 Go.Proofs.YtgpafcehehaiiaaGreat.GL (E:=Ens [(61,K1 (kRow Pg1).arg kBool.rs.res inG1),(62,K1 (kRow Pg2).arg kBool.rs.res inG2),(63,K0 (kRow Pg1).rs.res oneG1),(64,K1 kU64.arg r4.res ofPR),(65,Kr1 negPR),(55,K2 ((argRw .g1).such few) (argRw .fr) kg1.rs.res sumG1),(67,K0 (kRow Pg2).rs.res oneG2),(68,K1 (kRow Pg1).arg (kRow Pg1).rs.res negG1),(66,K1 (argRw .duo) kBool.rs.res prCheck)] []) Tryz.func30 (c:=codeOf Tryz.f30) (by kernel_rfl) (bodied Tryz.func30 (by kernel_rfl) (by kernel_rfl)) (InpL.cons (kRow Pg2).inp (InpL.cons (kRow Pg1).inp (InpL.cons (kRow Fr).inp (InpL.cons (kRow Fr).inp (InpL.cons (kRow Pg1).inp InpL.nil))))) kBool.rs.out (fun x=>kCheck x.1 x.2.1 x.2.2.1 x.2.2.2.1 x.2.2.2.2.1) fun x g=>DoesL.outs (Ens_ok (.cons inG1_ok (.cons inG2_ok (.cons oneG1_ok (.cons ofPR_ok (.cons negPR_ok (.cons sumG1_ok (.cons oneG2_ok (.cons negG1_ok (.cons prCheck_ok .nil)))))))))) 300 false (kCheck_run inG1 inG2 oneG1 ofPR negPR sumG1 oneG2 negG1 prCheck x.1 x.2.1 x.2.2.1 x.2.2.2.1 x.2.2.2.2.1) (h x.1 x.2.1 x.2.2.1 x.2.2.2.1 x.2.2.2.2.1).1 (h x.1 x.2.1 x.2.2.1 x.2.2.2.1 x.2.2.2.2.1).2
theorem kCheck_ok:CallOk Tryz.prog 30 (KL (ArgL.cons (kRow Pg2).arg (ArgL.cons (kRow Pg1).arg (ArgL.cons (kRow Fr).arg (ArgL.cons (kRow Fr).arg (ArgL.cons (kRow Pg1).arg ArgL.nil))))) kBool.rs.out.res (fun x=>kCheck x.1 x.2.1 x.2.2.1 x.2.2.2.1 x.2.2.2.2.1)):=kCheck_ok' fun t c z y w =>
 ⟨rfl,fun _=>trivial,fun _=>⟨fun _=>trivial,fun _=>⟨fun _=>trivial,fun _=>⟨by show 3<4294967296;decide,trivial⟩⟩⟩⟩
end Go.Proofs.YtgpafcehehaiiaaGreat
set_option maxRecDepth 100000
namespace Go.Proofs.YtgpafcehehaiiaaGreat
open Go.RowKit
theorem addPR_v {a b:Fr} (ha:a.ok) (hb:b.ok):(addPR a b).ok/\(addPR a b).v=a.v+b.v:=by
 rw [addPR_eq ha hb]
 exact addR_v ha hb
theorem mulPR_v {a b:Fr} (ha:a.ok) (hb:b.ok):(mulPR a b).ok/\(mulPR a b).v=a.v*b.v:=by
 rw [mulPR_eq ha hb]
 exact mulR_v ha hb
section
variable {aF mF : Fr -> Fr -> Fr}
def linS (aF mF:Fr->Fr->Fr) (z:Fr):List Fr->List Fr × Fr
 | []=>([],frZ)
 | a :: l=>(match l with | [] => [] | _ :: _=>(linS aF mF z l).2 :: (linS aF mF z l).1,aF a (mF (linS aF mF z l).2 z))
theorem linS_nil (z:Fr):linS aF mF z []=([],frZ):=rfl
theorem linS_one (z a:Fr):linS aF mF z [a]=([],aF a (mF frZ z)):=rfl
theorem linS_cons (z a b:Fr) (l:List Fr):linS aF mF z (a :: b :: l)=((linS aF mF z (b :: l)).2 :: (linS aF mF z (b :: l)).1,aF a (mF (linS aF mF z (b :: l)).2 z)):=rfl
def linT (aF mF:Fr->Fr->Fr) (z:Fr):List Fr->List Fr
 | [] => []
 | a :: l=>(linS aF mF z (a :: l)).2 :: (linS aF mF z (a :: l)).1
theorem linS_fst (z a:Fr) (l:List Fr):(linS aF mF z (a :: l)).1=linT aF mF z l:=by cases l <;> rfl
theorem linS_snd (z a:Fr) (l:List Fr):(linS aF mF z (a :: l)).2=aF a (mF (linS aF mF z l).2 z):=rfl
theorem linT_cons (z a:Fr) (l:List Fr):linT aF mF z (a :: l)=aF a (mF (linS aF mF z l).2 z) :: linT aF mF z l:=by
 show (linS aF mF z (a :: l)).2 :: (linS aF mF z (a :: l)).1=_
 rw [linS_fst,linS_snd]
theorem zerosL_set (n:Nat) (v:Fr) (t:List Fr):(zerosL (n+1)++t).set n v=zerosL n++v :: t:=by
 unfold zerosL
 rw [List.replicate_succ',List.append_assoc,List.set_append_right _ _ (by rw [List.length_replicate];exact Nat.le_refl _),List.length_replicate,Nat.sub_self]
 rfl
theorem getD_pre (p s:List Fr) (a:Fr):(p++a :: s).getD p.length frZ=a:=by
 rw [List.getD_eq_getElem?_getD,List.getElem?_append_right (Nat.le_refl _),Nat.sub_self]
 rfl
theorem linR_S (xs:List Fr) (z:Fr) : ∀ n p s,xs=p++s->p.length=n+1->linR aF mF xs z (n+1) ((linS aF mF z s).2,zerosL n++linT aF mF z s)=((linS aF mF z xs).2,(linS aF mF z xs).1)
 | 0,p,s,h,hp=>by
  obtain ⟨a,rfl⟩ : ∃ a,p = [a]:=by
   match p,hp with
   | [a],_=>exact ⟨a,rfl⟩
  subst h
  rw [linR_last]
  show (aF a (mF (linS aF mF z s).2 z),linT aF mF z s)=_
  rw [List.singleton_append,linS_fst,linS_snd]
 | n+1,p,s,h,hp=>by
  have hne:p ≠ []:=by intro e;rw [e] at hp;cases hp
  have e1:p=p.dropLast ++ [p.getLast hne]:=(List.dropLast_concat_getLast hne).symm
  generalize p.getLast hne=a at e1
  have hl:p.dropLast.length=n+1:=by rw [List.length_dropLast,hp];omega
  generalize p.dropLast=q at *
  subst e1
  have ih:=linR_S xs z n q (a :: s) (by rw [h,List.append_assoc];rfl) hl
  rw [linR_succ]
  have eg:xs.getD (n+1) frZ=a:=by
   rw [h,List.append_assoc,<- hl]
   exact getD_pre q s a
  rw [eg,zerosL_set]
  rw [linS_snd,linT_cons] at ih
  exact ih
theorem linR_all (xs:List Fr) (z:Fr):linR aF mF xs z xs.length (frZ,zerosL (xs.length-1))=((linS aF mF z xs).2,(linS aF mF z xs).1):=by
 cases xs with
 | nil=>rfl
 | cons a l =>
  have:=linR_S (aF:=aF) (mF:=mF) (a :: l) z l.length (a :: l) [] (List.append_nil _).symm rfl
  rw [linS_nil] at this
  rw [show linT aF mF z [] = [] from rfl,List.append_nil] at this
  exact this
theorem linG_S (cF:List Fr->List Fr) (xs:List Fr) (z:Fr):linG aF mF cF xs z=(cF (linS aF mF z xs).1,(linS aF mF z xs).2):=by
 unfold linG
 rw [linR_all]
section
variable (hA : ∀ {a b : Fr}, a.ok -> b.ok -> (aF a b).ok /\ (aF a b).v = a.v + b.v) (hM : ∀ {a b : Fr}, a.ok -> b.ok -> (mF a b).ok /\ (mF a b).v = a.v * b.v)
include hA hM
theorem linS_v {z:Fr} (hz:z.ok) : ∀ xs,okFs xs->okFs (linS aF mF z xs).1/\(linS aF mF z xs).2.ok/\vL (linS aF mF z xs).1=(lin z.v (vL xs)).1/\(linS aF mF z xs).2.v=(lin z.v (vL xs)).2
 | [],_=>⟨okFs_nil,frZ_ok,rfl,frZ_v⟩
 | [a],h=>by
  obtain ⟨m1,m2⟩:=hM frZ_ok hz
  obtain ⟨a1,a2⟩:=hA (h a (List.mem_singleton.2 rfl)) m1
  refine ⟨okFs_nil,a1,rfl,?_⟩
  rw [linS_one,show vL [a] = [a.v] from rfl,lin_one]
  show (aF a (mF frZ z)).v=a.v+0*z.v
  rw [a2,m2,frZ_v]
 | a :: b :: l,h=>by
  have hb:okFs (b :: l):=fun x hx=>h x (List.mem_cons_of_mem _ hx)
  obtain ⟨i1,i2,i3,i4⟩:=linS_v hz (b :: l) hb
  obtain ⟨m1,m2⟩:=hM i2 hz
  obtain ⟨a1,a2⟩:=hA (h a (List.mem_cons_self ..)) m1
  rw [linS_cons]
  refine ⟨fun x hx => ?_,a1,?_,?_⟩
  ·rcases List.mem_cons.1 hx with rfl | hx
   ·exact i2
   ·exact i1 x hx
  ·show (linS aF mF z (b :: l)).2.v :: vL (linS aF mF z (b :: l)).1=(lin z.v (a.v :: b.v :: vL l)).1
   rw [lin_cons,i3,i4]
   rfl
  ·show (aF a (mF (linS aF mF z (b :: l)).2 z)).v=(lin z.v (a.v :: b.v :: vL l)).2
   rw [lin_cons,a2,m2,i4]
   rfl
theorem stepZ {z:Fr} (hz:z.ok):aF frZ (mF frZ z)=frZ:=by
 obtain ⟨m1,m2⟩:=hM frZ_ok hz
 obtain ⟨a1,a2⟩:=hA frZ_ok m1
 refine Fr.v_inj a1 frZ_ok ?_
 rw [a2,m2,frZ_v]
 generalize z.v=a
 grind
theorem linS_zeros {z:Fr} (hz:z.ok) : ∀ m,linS aF mF z (zerosL m)=(zerosL (m-1),frZ)
 | 0=>rfl
 | 1=>by
  show ([],aF frZ (mF frZ z))=_
  rw [stepZ hA hM hz]
  rfl
 | m+2=>by
  have ih:=linS_zeros hz (m+1)
  show linS aF mF z (frZ :: frZ :: zerosL m)=_
  rw [linS_cons,show frZ :: zerosL m=zerosL (m+1) from rfl,ih,stepZ hA hM hz]
  rfl
theorem linS_pad {z:Fr} (hz:z.ok) (m:Nat) : ∀ l,∃ k,linS aF mF z (l++zerosL m)=((linS aF mF z l).1++zerosL k,(linS aF mF z l).2)
 | []=>⟨m-1,by rw [List.nil_append,linS_zeros hA hM hz m];rfl⟩
 | [a]=>by
  cases m with
  | zero=>exact ⟨0,by rw [show zerosL 0 = [] from rfl,List.append_nil];rfl⟩
  | succ m =>
   refine ⟨m+1,?_⟩
   show linS aF mF z (a :: frZ :: zerosL m)=([]++zerosL (m+1),aF a (mF frZ z))
   rw [linS_cons,show frZ :: zerosL m=zerosL (m+1) from rfl,linS_zeros hA hM hz (m+1)]
   rfl
 | a :: b :: l=>by
  obtain ⟨k,ih⟩:=linS_pad hz m (b :: l)
  refine ⟨k,?_⟩
  rw [List.cons_append] at ih
  rw [List.cons_append,List.cons_append,linS_cons,ih,linS_cons]
  rfl
end
end
theorem linF_S (f:List Fr) (z:Fr):linF f z=(cutL (linS addPR mulPR z f).1,(linS addPR mulPR z f).2):=by
 unfold linF
 rw [linG_S]
theorem cut_zerosL (xs:List Fr) (m:Nat):cutL (xs++zerosL m)=cutL xs:=cutL_zeros xs m
theorem linF_cut (f:List Fr) {z:Fr} (hz:z.ok):linF f z=linF (cutL f) z:=by
 obtain ⟨k,e⟩:=linS_pad addPR_v mulPR_v hz (f.length-cutN4 f f.length) (cutL f)
 have h:=cutL_pad f
 have e2:linS addPR mulPR z f=((linS addPR mulPR z (cutL f)).1++zerosL k,(linS addPR mulPR z (cutL f)).2):=by
  rw [<- e]
  exact congrArg _ h
 rw [linF_S,linF_S,e2]
 simp only [cut_zerosL]
theorem linF_short (f:List Fr) {z:Fr} (hz:z.ok):(linF f z).1.length<=(cutL f).length-1:=by
 rw [linF_cut f hz]
 exact linF_len _ z
theorem linF_v {f:List Fr} (hf:okFs f) {z:Fr} (hz:z.ok) (t:VR):okFs (linF f z).1/\(linF f z).2.ok/\(linF f z).2.v=hor z.v (vL f)/\hor t (vL f)=hor t (vL (linF f z).1)*(t-z.v)+hor z.v (vL f):=by
 obtain ⟨h1,h2,h3,h4⟩:=linS_v addPR_v mulPR_v hz f hf
 rw [linF_S]
 refine ⟨cutL_ok h1,h2,by rw [<- lin_rest];exact h4,?_⟩
 show hor t (vL f)=hor t (vL (cutL (linS addPR mulPR z f).1))*(t-z.v)+hor z.v (vL f)
 rw [cutL_hor,h3]
 conv=>lhs;rw [lin_hor t z.v,lin_rest]
end Go.Proofs.YtgpafcehehaiiaaGreat
namespace Go.Proofs.YtgpafcehehaiiaaGreat
open Go.RowKit
section
variable {K : Type} [Fld K] [Crv K]
noncomputable def wsum (P:Nat->Pt K) (k:Nat->Nat):Nat->Pt K
 | 0 => .inf
 | j+1=>(wsum P k j).add ((P j).mul (k j))
theorem wsum_on {P:Nat->Pt K} {k:Nat->Nat} : ∀ {n:Nat},(∀ j,j<n->(P j).on)->(wsum P k n).on
 | 0,_=>trivial
 | n+1,h=>add_on (wsum_on fun j hj=>h j (by omega)) (mul_on (h n (by omega)) _)
omit [Crv K] in
theorem wsum_congr {P Q:Nat->Pt K} {k l:Nat->Nat} : ∀ {n:Nat},(∀ j,j<n->P j=Q j/\k j=l j)->wsum P k n=wsum Q l n
 | 0,_=>rfl
 | n+1,h=>by
  simp only [wsum]
  rw [wsum_congr fun j hj=>h j (by omega),(h n (by omega)).1,(h n (by omega)).2]
theorem four_sum {a b c d:Pt K} (ha:a.on) (hb:b.on) (hc:c.on) (hd:d.on):(a.add b).add (c.add d)=(a.add c).add (b.add d):=by
 rw [add_assoc_pt ha hb (add_on hc hd),<- add_assoc_pt hb hc hd,add_comm_pt hb hc,add_assoc_pt hc hb hd,<- add_assoc_pt ha hc (add_on hb hd)]
theorem wsum_add {P:Nat->Pt K} {k l:Nat->Nat} : ∀ {n:Nat},(∀ j,j<n->(P j).on)->wsum P (fun j=>k j+l j) n=(wsum P k n).add (wsum P l n)
 | 0,_=>rfl
 | n+1,h=>by
  have h' : ∀ j,j<n->(P j).on:=fun j hj=>h j (by omega)
  simp only [wsum]
  rw [wsum_add h',mul_add_pt (h n (by omega)),four_sum (wsum_on h') (wsum_on h') (mul_on (h n (by omega)) _) (mul_on (h n (by omega)) _)]
theorem wsum_mul {P:Nat->Pt K} {k:Nat->Nat} (m:Nat) : ∀ {n:Nat},(∀ j,j<n->(P j).on)->wsum P (fun j=>k j*m) n=(wsum P k n).mul m
 | 0,_=>(mul_inf_pt m).symm
 | n+1,h=>by
  have h' : ∀ j,j<n->(P j).on:=fun j hj=>h j (by omega)
  simp only [wsum]
  rw [wsum_mul m h',mul_mul_pt (h n (by omega)),add_mul_pt (wsum_on h') (mul_on (h n (by omega)) _)]
omit [Crv K] in
theorem wsum_zero {P:Nat->Pt K} {k:Nat->Nat} : ∀ {n:Nat},(∀ j,j<n->k j=0)->wsum P k n = .inf
 | 0,_=>rfl
 | n+1,h=>by
  simp only [wsum]
  rw [wsum_zero fun j hj=>h j (by omega),h n (by omega)]
  rfl
theorem mul_sixteen {p:Pt K} (hp:p.on):(((p.add p).add (p.add p)).add ((p.add p).add (p.add p))).add (((p.add p).add (p.add p)).add ((p.add p).add (p.add p)))=p.mul 16:=by
 have d : ∀ n,(p.mul n).add (p.mul n)=p.mul (n+n):=fun n=>(mul_add_pt hp n n).symm
 have e:p.add p=p.mul 2:=by have:=d 1;rw [mul_one_pt] at this;exact this
 rw [e,d 2,d 4,d 8]
end
theorem limb_nat (k:Fr) : ∀ {i:Nat},i<4->(k.limb i).toNat=k.nat / 2 ^ (64*i) % 2 ^ 64
 | 0,_=>by
  have h0:=k.l0.toNat_lt
  show k.l0.toNat=_
  unfold Fr.nat
  rw [show W64=18446744073709551616 from rfl]
  simp only [Nat.mul_zero,Nat.pow_zero,Nat.div_one]
  omega
 | 1,_=>by
  have h0:=k.l0.toNat_lt
  have h1:=k.l1.toNat_lt
  show k.l1.toNat=_
  unfold Fr.nat
  rw [show W64=18446744073709551616 from rfl,show 2 ^ (64*1)=18446744073709551616 from rfl]
  omega
 | 2,_=>by
  have h0:=k.l0.toNat_lt
  have h1:=k.l1.toNat_lt
  have h2:=k.l2.toNat_lt
  show k.l2.toNat=_
  unfold Fr.nat
  rw [show W64=18446744073709551616 from rfl,show 2 ^ (64*2)=18446744073709551616*18446744073709551616 from rfl,<- Nat.div_div_eq_div_mul]
  omega
 | 3,_=>by
  have h0:=k.l0.toNat_lt
  have h1:=k.l1.toNat_lt
  have h2:=k.l2.toNat_lt
  have h3:=k.l3.toNat_lt
  show k.l3.toNat=_
  unfold Fr.nat
  rw [show W64=18446744073709551616 from rfl,show 2 ^ (64*3)=18446744073709551616*18446744073709551616*18446744073709551616 from rfl,<- Nat.div_div_eq_div_mul,<- Nat.div_div_eq_div_mul]
  omega
 | n+4,h=>absurd h (by omega)
theorem digU_nat (k:Fr) {m:Nat} (hm:m<64):(digU k ((4*m:Nat):Int)).toNat=k.nat / 16 ^ m % 16:=by
 have hw:IntKind.i64.wrap (((4*m:Nat):Int).tdiv 64)=((m / 16:Nat):Int):=by
  rw [show (((4*m:Nat):Int).tdiv 64)=((4*m / 64:Nat):Int) from rfl,IntWalk.i64_in _ (by omega)]
  congr 1
  omega
 have hs:((UInt64.ofNat (((4*m:Nat):Int).tmod 64 % 18446744073709551616).toNat).toNat:Int)=((4*(m % 16):Nat):Int):=by
  rw [show (((4*m:Nat):Int).tmod 64)=((4*m % 64:Nat):Int) from rfl,UInt64.toNat_ofNat']
  omega
 unfold digU
 rw [hw,hs,Int.toNat_natCast,UInt64.toNat_mod]
 unfold shrU
 have hl:=limb_nat k (i:=m / 16) (by omega)
 have e16:(UInt64.ofNat 16).toNat=16:=rfl
 have hb:=(k.limb (m / 16)).toNat_lt
 rw [UInt64.toNat_ofNat',e16,Int.toNat_natCast,Nat.min_eq_left (by omega)]
 have hd:(k.limb (m / 16)).toNat / 2 ^ (4*(m % 16))<2 ^ 64:=Nat.lt_of_le_of_lt (Nat.div_le_self _ _) hb
 rw [Nat.mod_eq_of_lt hd,hl]
 have hp:(16:Nat) ^ m=2 ^ (64*(m / 16))*2 ^ (4*(m % 16)):=by
  rw [<- Nat.pow_add,show (16:Nat)=2 ^ 4 from rfl,<- Nat.pow_mul]
  congr 1
  omega
 rw [hp,<- Nat.div_div_eq_div_mul]
 generalize k.nat / 2 ^ (64*(m / 16))=y
 have hs:4*(m % 16)+4<=64:=by omega
 obtain ⟨r,hr⟩ : ∃ r,64=4*(m % 16)+(4+r):=⟨64-4-4*(m % 16),by omega⟩
 rw [hr,Nat.pow_add,Nat.mod_mul_right_div_self,Nat.pow_add,Nat.mod_mul_right_mod]
section
variable {K : Type} [Fld K] [Crv K] {R : Sp1 -> Pt K -> Prop} {tw : Sp1 -> Sp1} {pl : Sp1 -> Sp1 -> Sp1} (h0 : R zeroSp .inf) (htw : ∀ {s : Sp1} {p : Pt K}, p.on -> R s p -> R (tw s) (p.add p))
 (hpl : ∀ {s t:Sp1} {p q:Pt K},p.on->q.on->R s p->R t q->R (pl s t) (p.add q))
include h0 hpl in
theorem tabF1_rel {s:Sp1} {p:Pt K} (hp:p.on) (h:R s p) : ∀ d,R (tabF1 pl s d) (p.mul d)
 | 0=>h0
 | d+1=>hpl (mul_on hp d) hp (tabF1_rel hp h d) h
include hpl in
theorem sumIn1_rel {tl:List Sp1} {ks:List Fr} {z:Int} {P:Nat->Pt K} {d:Nat->Nat} {n:Nat} (hP : ∀ j,j<n->(P j).on) (ht : ∀ j,j<n->R (tl.getD (j*16+(digU (ks.getD j fr0) z).toNat) sp0) ((P j).mul (d j)))
  {o:Sp1} {p:Pt K} (hp:p.on) (ho:R o p) : ∀ j,j<=n->R (sumIn1 pl tl ks z j o) (p.add (wsum P d j))
 | 0,_=>by
  rw [wsum,add_inf]
  exact ho
 | j+1,h=>by
  have hw:(wsum P d j).on:=wsum_on fun i hi=>hP i (by omega)
  have:=hpl (add_on hp hw) (mul_on (hP j (by omega)) (d j)) (sumIn1_rel hP ht hp ho j (by omega)) (ht j (by omega))
  rw [add_assoc_pt hp hw (mul_on (hP j (by omega)) _)] at this
  exact this
include htw in
theorem twice4_rel {o:Sp1} {p:Pt K} (hp:p.on) (h:R o p):R (tw (tw (tw (tw o)))) (p.mul 16):=by
 rw [<- mul_sixteen hp]
 exact htw (add_on (add_on (add_on hp hp) (add_on hp hp)) (add_on (add_on hp hp) (add_on hp hp))) (htw (add_on (add_on hp hp) (add_on hp hp)) (htw (add_on hp hp) (htw hp h)))
include htw hpl in
theorem sumOut1_rel {tl:List Sp1} {ks:List Fr} {P:Nat->Pt K} {n:Nat} (hP : ∀ j,j<n->(P j).on) (ht : ∀ j d,j<n->d<16->R (tl.getD (j*16+d) sp0) ((P j).mul d)) :
  ∀ (m:Nat),m<=64 -> ∀ {o:Sp1},R o (wsum P (fun j=>(ks.getD j fr0).nat / 16 ^ m) n)->R (sumOut1 tw pl tl ks n m o) (wsum P (fun j=>(ks.getD j fr0).nat) n)
 | 0,_,o,h=>by
  simp only [Nat.pow_zero,Nat.div_one] at h
  exact h
 | m+1,hm,o,h=>by
  simp only [sumOut1]
  refine sumOut1_rel hP ht m (by omega) ?_
  have hw:=wsum_on (k:=fun j=>(ks.getD j fr0).nat / 16 ^ (m+1)) hP
  have h1:=sumIn1_rel hpl (tl:=tl) (ks:=ks) (z:=((4*m:Nat):Int)) (d:=fun j=>(ks.getD j fr0).nat / 16 ^ m % 16) hP (fun j hj=>by
   rw [digU_nat _ (by omega)]
   exact ht j _ hj (Nat.mod_lt _ (by decide))) (mul_on hw 16) (twice4_rel htw hw h) n (Nat.le_refl n)
  rw [<- wsum_mul 16 hP,<- wsum_add hP] at h1
  rw [wsum_congr (Q:=P) (l:=fun j=>(ks.getD j fr0).nat / 16 ^ m) (fun j _=>⟨rfl,by
   have key:(ks.getD j fr0).nat / 16 ^ (m+1)=(ks.getD j fr0).nat / 16 ^ m / 16:=by rw [Nat.pow_succ,Nat.div_div_eq_div_mul]
   show (ks.getD j fr0).nat / 16 ^ (m+1)*16+(ks.getD j fr0).nat / 16 ^ m % 16=(ks.getD j fr0).nat / 16 ^ m
   rw [key]
   generalize (ks.getD j fr0).nat / 16 ^ m=y
   omega⟩)] at h1
  exact h1
end
theorem sixteen_getD {α:Type} (f:Nat->α) (d:α) : ∀ {i:Nat},i<16->(sixteen f).getD i d=f i
 | 0,_=>rfl | 1,_=>rfl | 2,_=>rfl | 3,_=>rfl | 4,_=>rfl | 5,_=>rfl | 6,_=>rfl | 7,_=>rfl
 | 8,_=>rfl | 9,_=>rfl | 10,_=>rfl | 11,_=>rfl | 12,_=>rfl | 13,_=>rfl | 14,_=>rfl | 15,_=>rfl
 | n+16,h=>absurd h (by omega)
theorem tabs1_getD (f:Pg1->Nat->Sp1) (F:Pg1->Tab .sp1) (hF : ∀ p,(F p).xs=sixteen (f p)) : ∀ (ps:List Pg1) (j d:Nat),j<ps.length->d<16->(tabs1 F ps).getD (j*16+d) sp0=f (ps.getD j pg10) d
 | [],j,d,hj,_=>absurd hj (Nat.not_lt_zero j)
 | p :: ps,0,d,_,hd=>by
  have h16:(F p).xs.length=16:=(F p).len
  have e:tabs1 F (p :: ps)=(F p).xs++tabs1 F ps:=by simp [tabs1]
  rw [e,Nat.zero_mul,Nat.zero_add,List.getD_eq_getElem?_getD,List.getElem?_append_left (by omega),<- List.getD_eq_getElem?_getD,hF]
  exact sixteen_getD _ _ hd
 | p :: ps,j+1,d,hj,hd=>by
  have h16:(F p).xs.length=16:=(F p).len
  have e:tabs1 F (p :: ps)=(F p).xs++tabs1 F ps:=by simp [tabs1]
  rw [e,List.getD_eq_getElem?_getD,List.getElem?_append_right (by omega),h16,show (j+1)*16+d-16=j*16+d by omega,<- List.getD_eq_getElem?_getD]
  exact tabs1_getD f F hF ps j d (by simpa using hj) hd
theorem tab1V_xs (p:Pg1):(tab1V p).xs=sixteen (tabF1 plusG1 (liftG1 p)):=rfl
theorem laysG1_sum {ps:List Pg1} (hp : ∀ i,i<ps.length->(ps.getD i pg10).good) (ks:List Fr):(sumG1 ps ks).good/\(sumG1 ps ks).pt=wsum (fun j=>(ps.getD j pg10).pt) (fun j=>(ks.getD j fr0).nat) (sumN1 ps ks):=by
 have hN:sumN1 ps ks<=ps.length:=Nat.min_le_right _ _
 have hP : ∀ j,j<sumN1 ps ks->(ps.getD j pg10).pt.on:=fun j hj=>(hp j (by omega)).2
 unfold sumG1
 refine lays1_rel (wsum_on hP) (sumOut1_rel (R:=rel1) twice1_rel plus1_rel hP (fun j d hj hd => ?_) 64 (Nat.le_refl _) ?_)
 ·rw [tabs1_getD (fun p=>tabF1 plusG1 (liftG1 p)) tab1V tab1V_xs (ps.take (sumN1 ps ks)) j d (by rw [List.length_take];omega) hd]
  have e:(ps.take (sumN1 ps ks)).getD j pg10=ps.getD j pg10:=by rw [List.getD_eq_getElem?_getD,List.getD_eq_getElem?_getD,List.getElem?_take_of_lt hj]
  rw [e]
  exact tabF1_rel (R:=rel1) rel1_inf plus1_rel (hP j hj) (lift1_rel (hp j (by omega))) d
 ·rw [wsum_zero fun j hj => ?_]
  ·exact rel1_inf
  ·have h1:=(ks.getD j fr0).nat_lt
   have h2:r4N=16 ^ 64:=by decide +kernel
   rw [h2] at h1
   exact Nat.div_eq_of_lt h1
end Go.Proofs.YtgpafcehehaiiaaGreat
set_option maxRecDepth 100000
namespace Go.Proofs.YtgpafcehehaiiaaGreat
open Go.RowKit
def vdot (X K:Nat->VR):Nat->VR
 | 0=>0
 | n+1=>vdot X K n+X n*K n
theorem vdot_succ (X K:Nat->VR) (n:Nat):vdot X K (n+1)=vdot X K n+X n*K n:=rfl
theorem wsum_gm {P:Nat->Pt V1} {k:Nat->Nat} {X K:Nat->VR} : ∀ n,(∀ i,i<n->P i=gm (X i)/\k i=(K i).nat)->wsum P k n=gm (vdot X K n)
 | 0,_=>gm_zero.symm
 | n+1,h=>by
  have ih:=wsum_gm n fun i hi=>h i (Nat.lt_succ_of_lt hi)
  obtain ⟨h1,h2⟩:=h n (Nat.lt_succ_self n)
  show (wsum P k n).add ((P n).mul (k n))=_
  rw [ih,h1,h2,<- gm_mul,<- gm_add,vdot_succ]
theorem at1_sum {ps:List Pg1} {ks:List Fr} {X:Nat->VR} (hp : ∀ i,i<ps.length->At1 (ps.getD i pg10) (X i)) (hk : ∀ i,i<ks.length->(ks.getD i fr0).ok):At1 (sumG1 ps ks) (vdot X (fun i=>(ks.getD i fr0).v) (sumN1 ps ks)):=by
 have hN:sumN1 ps ks<=ps.length:=Nat.min_le_right _ _
 have hK:sumN1 ps ks<=ks.length:=Nat.min_le_left _ _
 obtain ⟨h1,h2⟩:=laysG1_sum (ps:=ps) (fun i hi=>(hp i hi).good) ks
 refine ⟨h1,?_⟩
 rw [h2]
 exact wsum_gm _ fun i hi=>⟨(hp i (Nat.lt_of_lt_of_le hi hN)).pt,(Fr.v_nat (hk i (Nat.lt_of_lt_of_le hi hK))).symm⟩
theorem vdot_hor (t:VR) (ks:List Fr) : ∀ n,n<=ks.length->vdot (fun i=>t ^ i) (fun i=>(ks.getD i fr0).v) n=hor t ((ks.take n).map Fr.v)
 | 0,_=>rfl
 | n+1,h=>by
  have ih:=vdot_hor t ks n (by omega)
  have e:ks.take (n+1)=ks.take n ++ [ks.getD n fr0]:=by
   rw [List.take_add_one,List.getD_eq_getElem?_getD,List.getElem?_eq_getElem (by omega)]
   rfl
  rw [vdot_succ,ih,e,List.map_append,List.map_singleton,hor_snoc,List.length_map,List.length_take,Nat.min_eq_left (by omega)]
theorem check_val {a w:Pg1} {q t:Pg2} {A W T:VR} (ha:At1 a A) (hw:At1 w W) (hq:At2 q 1) (ht:At2 t T):prCheck [⟨a,q⟩,⟨negG1 w,t⟩]=true <-> A=W*T:=by
 have hn:=at1_neg hw
 have hd : ∀ x ∈ [(⟨a,q⟩:Duo),⟨negG1 w,t⟩],DuoP x:=fun x hx=>by
  rcases List.mem_cons.1 hx with rfl | hx
  ·exact ⟨ha.in1,hq.in2⟩
  ·rcases List.mem_cons.1 hx with rfl | hx
   ·exact ⟨hn.in1,ht.in2⟩
   ·exact (List.not_mem_nil hx).elim
 rw [prCheck_w (by show 2<=20;decide) hd,prL_cons,prL_cons,prL_nil,mOne]
 simp only []
 rw [ha.pt,hq.pt,hn.pt,ht.pt,prV_gh,prV_gh,<- em_add,em_one_iff]
 constructor
 ·intro h
  have:A*1 + -W*T=A-W*T:=by grind
  rw [this] at h
  grind
 ·intro h
  rw [h]
  grind
end Go.Proofs.YtgpafcehehaiiaaGreat
set_option maxRecDepth 100000
namespace Go.Proofs.YtgpafcehehaiiaaGreat
open Go.RowKit
def begun18_T (f0:Fr->Int->List Pg1 × Pg2) (f1:List Pg1 × Pg2->List Fr->Pg1 × Int) (f2:List Pg1 × Pg2->List Fr->Fr->Fr × Pg1 × Int) (f3:Fr->Pg1) (f4:Pg2->Pg1->Fr->Fr->Pg1->Bool):Tree (Option ((Bool) × Pr)) :=
 (.vc (fewI 3)
  (.vc (((0+(f0 { l0:=UInt64.ofNat 2,l1:=UInt64.ofNat 0,l2:=UInt64.ofNat 0,l3:=UInt64.ofNat 0 } 3).fst.length*13<=(rowsC RK.g1 (f0 { l0:=UInt64.ofNat 2,l1:=UInt64.ofNat 0,l2:=UInt64.ofNat 0,l3:=UInt64.ofNat 0 } 3).fst).length/\0=0/\(f0 { l0:=UInt64.ofNat 2,l1:=UInt64.ofNat 0,l2:=UInt64.ofNat 0,l3:=UInt64.ofNat 0 } 3).fst.length<1125899906842624/\0=0/\13=13)/\fewP (List.take (f0 { l0:=UInt64.ofNat 2,l1:=UInt64.ofNat 0,l2:=UInt64.ofNat 0,l3:=UInt64.ofNat 0 } 3).fst.length (List.drop 0 (f0 { l0:=UInt64.ofNat 2,l1:=UInt64.ofNat 0,l2:=UInt64.ofNat 0,l3:=UInt64.ofNat 0 } 3).fst),(f0 { l0:=UInt64.ofNat 2,l1:=UInt64.ofNat 0,l2:=UInt64.ofNat 0,l3:=UInt64.ofNat 0 } 3).snd))/\fewR [{ l0:=UInt64.ofNat 1,l1:=UInt64.ofNat 0,l2:=UInt64.ofNat 0,l3:=UInt64.ofNat 0 },{ l0:=UInt64.ofNat 1,l1:=UInt64.ofNat 0,l2:=UInt64.ofNat 0,l3:=UInt64.ofNat 0 }])
   (.vc (((0+(f0 { l0:=UInt64.ofNat 2,l1:=UInt64.ofNat 0,l2:=UInt64.ofNat 0,l3:=UInt64.ofNat 0 } 3).fst.length*13<=(rowsC RK.g1 (f0 { l0:=UInt64.ofNat 2,l1:=UInt64.ofNat 0,l2:=UInt64.ofNat 0,l3:=UInt64.ofNat 0 } 3).fst).length/\0=0/\(f0 { l0:=UInt64.ofNat 2,l1:=UInt64.ofNat 0,l2:=UInt64.ofNat 0,l3:=UInt64.ofNat 0 } 3).fst.length<1125899906842624/\0=0/\13=13)/\fewP (List.take (f0 { l0:=UInt64.ofNat 2,l1:=UInt64.ofNat 0,l2:=UInt64.ofNat 0,l3:=UInt64.ofNat 0 } 3).fst.length (List.drop 0 (f0 { l0:=UInt64.ofNat 2,l1:=UInt64.ofNat 0,l2:=UInt64.ofNat 0,l3:=UInt64.ofNat 0 } 3).fst),(f0 { l0:=UInt64.ofNat 2,l1:=UInt64.ofNat 0,l2:=UInt64.ofNat 0,l3:=UInt64.ofNat 0 } 3).snd))/\fewR [{ l0:=UInt64.ofNat 1,l1:=UInt64.ofNat 0,l2:=UInt64.ofNat 0,l3:=UInt64.ofNat 0 },{ l0:=UInt64.ofNat 1,l1:=UInt64.ofNat 0,l2:=UInt64.ofNat 0,l3:=UInt64.ofNat 0 }])
    (.br ((f1 (List.take (f0 { l0:=UInt64.ofNat 2,l1:=UInt64.ofNat 0,l2:=UInt64.ofNat 0,l3:=UInt64.ofNat 0 } 3).fst.length (List.drop 0 (f0 { l0:=UInt64.ofNat 2,l1:=UInt64.ofNat 0,l2:=UInt64.ofNat 0,l3:=UInt64.ofNat 0 } 3).fst),(f0 { l0:=UInt64.ofNat 2,l1:=UInt64.ofNat 0,l2:=UInt64.ofNat 0,l3:=UInt64.ofNat 0 } 3).snd) [{ l0:=UInt64.ofNat 1,l1:=UInt64.ofNat 0,l2:=UInt64.ofNat 0,l3:=UInt64.ofNat 0 },{ l0:=UInt64.ofNat 1,l1:=UInt64.ofNat 0,l2:=UInt64.ofNat 0,l3:=UInt64.ofNat 0 }]).snd==0)
     (.br (pg1Eq ((f1 (List.take (f0 { l0:=UInt64.ofNat 2,l1:=UInt64.ofNat 0,l2:=UInt64.ofNat 0,l3:=UInt64.ofNat 0 } 3).fst.length (List.drop 0 (f0 { l0:=UInt64.ofNat 2,l1:=UInt64.ofNat 0,l2:=UInt64.ofNat 0,l3:=UInt64.ofNat 0 } 3).fst),(f0 { l0:=UInt64.ofNat 2,l1:=UInt64.ofNat 0,l2:=UInt64.ofNat 0,l3:=UInt64.ofNat 0 } 3).snd) [{ l0:=UInt64.ofNat 1,l1:=UInt64.ofNat 0,l2:=UInt64.ofNat 0,l3:=UInt64.ofNat 0 },{ l0:=UInt64.ofNat 1,l1:=UInt64.ofNat 0,l2:=UInt64.ofNat 0,l3:=UInt64.ofNat 0 }]).fst) (f3 { l0:=UInt64.ofNat 3,l1:=UInt64.ofNat 0,l2:=UInt64.ofNat 0,l3:=UInt64.ofNat 0 }))
      (.br ((f2 (List.take (f0 { l0:=UInt64.ofNat 2,l1:=UInt64.ofNat 0,l2:=UInt64.ofNat 0,l3:=UInt64.ofNat 0 } 3).fst.length (List.drop 0 (f0 { l0:=UInt64.ofNat 2,l1:=UInt64.ofNat 0,l2:=UInt64.ofNat 0,l3:=UInt64.ofNat 0 } 3).fst),(f0 { l0:=UInt64.ofNat 2,l1:=UInt64.ofNat 0,l2:=UInt64.ofNat 0,l3:=UInt64.ofNat 0 } 3).snd) [{ l0:=UInt64.ofNat 1,l1:=UInt64.ofNat 0,l2:=UInt64.ofNat 0,l3:=UInt64.ofNat 0 },{ l0:=UInt64.ofNat 1,l1:=UInt64.ofNat 0,l2:=UInt64.ofNat 0,l3:=UInt64.ofNat 0 }] { l0:=UInt64.ofNat 5,l1:=UInt64.ofNat 0,l2:=UInt64.ofNat 0,l3:=UInt64.ofNat 0 }).snd.snd==0)
       (.br (frEq ((f2 (List.take (f0 { l0:=UInt64.ofNat 2,l1:=UInt64.ofNat 0,l2:=UInt64.ofNat 0,l3:=UInt64.ofNat 0 } 3).fst.length (List.drop 0 (f0 { l0:=UInt64.ofNat 2,l1:=UInt64.ofNat 0,l2:=UInt64.ofNat 0,l3:=UInt64.ofNat 0 } 3).fst),(f0 { l0:=UInt64.ofNat 2,l1:=UInt64.ofNat 0,l2:=UInt64.ofNat 0,l3:=UInt64.ofNat 0 } 3).snd) [{ l0:=UInt64.ofNat 1,l1:=UInt64.ofNat 0,l2:=UInt64.ofNat 0,l3:=UInt64.ofNat 0 },{ l0:=UInt64.ofNat 1,l1:=UInt64.ofNat 0,l2:=UInt64.ofNat 0,l3:=UInt64.ofNat 0 }] { l0:=UInt64.ofNat 5,l1:=UInt64.ofNat 0,l2:=UInt64.ofNat 0,l3:=UInt64.ofNat 0 }).fst) ({ l0:=UInt64.ofNat 6,l1:=UInt64.ofNat 0,l2:=UInt64.ofNat 0,l3:=UInt64.ofNat 0 }))
        (.leaf (some ((f4 (f0 { l0:=UInt64.ofNat 2,l1:=UInt64.ofNat 0,l2:=UInt64.ofNat 0,l3:=UInt64.ofNat 0 } 3).snd (f1 (List.take (f0 { l0:=UInt64.ofNat 2,l1:=UInt64.ofNat 0,l2:=UInt64.ofNat 0,l3:=UInt64.ofNat 0 } 3).fst.length (List.drop 0 (f0 { l0:=UInt64.ofNat 2,l1:=UInt64.ofNat 0,l2:=UInt64.ofNat 0,l3:=UInt64.ofNat 0 } 3).fst),(f0 { l0:=UInt64.ofNat 2,l1:=UInt64.ofNat 0,l2:=UInt64.ofNat 0,l3:=UInt64.ofNat 0 } 3).snd) [{ l0:=UInt64.ofNat 1,l1:=UInt64.ofNat 0,l2:=UInt64.ofNat 0,l3:=UInt64.ofNat 0 },{ l0:=UInt64.ofNat 1,l1:=UInt64.ofNat 0,l2:=UInt64.ofNat 0,l3:=UInt64.ofNat 0 }]).fst { l0:=UInt64.ofNat 5,l1:=UInt64.ofNat 0,l2:=UInt64.ofNat 0,l3:=UInt64.ofNat 0 } (f2 (List.take (f0 { l0:=UInt64.ofNat 2,l1:=UInt64.ofNat 0,l2:=UInt64.ofNat 0,l3:=UInt64.ofNat 0 } 3).fst.length (List.drop 0 (f0 { l0:=UInt64.ofNat 2,l1:=UInt64.ofNat 0,l2:=UInt64.ofNat 0,l3:=UInt64.ofNat 0 } 3).fst),(f0 { l0:=UInt64.ofNat 2,l1:=UInt64.ofNat 0,l2:=UInt64.ofNat 0,l3:=UInt64.ofNat 0 } 3).snd) [{ l0:=UInt64.ofNat 1,l1:=UInt64.ofNat 0,l2:=UInt64.ofNat 0,l3:=UInt64.ofNat 0 },{ l0:=UInt64.ofNat 1,l1:=UInt64.ofNat 0,l2:=UInt64.ofNat 0,l3:=UInt64.ofNat 0 }] { l0:=UInt64.ofNat 5,l1:=UInt64.ofNat 0,l2:=UInt64.ofNat 0,l3:=UInt64.ofNat 0 }).fst (f2 (List.take (f0 { l0:=UInt64.ofNat 2,l1:=UInt64.ofNat 0,l2:=UInt64.ofNat 0,l3:=UInt64.ofNat 0 } 3).fst.length (List.drop 0 (f0 { l0:=UInt64.ofNat 2,l1:=UInt64.ofNat 0,l2:=UInt64.ofNat 0,l3:=UInt64.ofNat 0 } 3).fst),(f0 { l0:=UInt64.ofNat 2,l1:=UInt64.ofNat 0,l2:=UInt64.ofNat 0,l3:=UInt64.ofNat 0 } 3).snd) [{ l0:=UInt64.ofNat 1,l1:=UInt64.ofNat 0,l2:=UInt64.ofNat 0,l3:=UInt64.ofNat 0 },{ l0:=UInt64.ofNat 1,l1:=UInt64.ofNat 0,l2:=UInt64.ofNat 0,l3:=UInt64.ofNat 0 }] { l0:=UInt64.ofNat 5,l1:=UInt64.ofNat 0,l2:=UInt64.ofNat 0,l3:=UInt64.ofNat 0 }).snd.fst,.t))))
        (.leaf (some ((false,.t)))))
       (.leaf (some ((false,.t)))))
      (.leaf (some ((false,.t)))))
     (.leaf (some ((false,.t))))))))
theorem begun18_run (f0:Fr->Int->List Pg1 × Pg2) (f1:List Pg1 × Pg2->List Fr->Pg1 × Int) (f2:List Pg1 × Pg2->List Fr->Fr->Fr × Pg1 × Int) (f3:Fr->Pg1) (f4:Pg2->Pg1->Fr->Fr->Pg1->Bool):endT (Ens [(17,K2 (kRow Fr).arg (kInt.arg.such fewI) oPow.res f0),(23,K2 aPow aFew ((kRow Pg1).rs2 kInt).out.res f1),(24,K3 aPow aFew (kRow Fr).arg ((kRow Fr).rs3 (kRow Pg1) kInt).out.res f2),(32,K1 (kRow Fr).arg (kRow Pg1).rs.res f3),(30,KL (ArgL.cons (kRow Pg2).arg (ArgL.cons (kRow Pg1).arg (ArgL.cons (kRow Fr).arg (ArgL.cons (kRow Fr).arg (ArgL.cons (kRow Pg1).arg ArgL.nil))))) kBool.rs.out.res (fun x=>f4 x.1 x.2.1 x.2.2.1 x.2.2.2.1 x.2.2.2.2.1))] [17]) kBool.rs.out 300 Tryz.f21 (flat (codeOf Tryz.f21)) (startSt Tryz.f21 [] [])=begun18_T f0 f1 f2 f3 f4:=by kernel_rfl
def begun18  : Bool:=(begun18_T powsF kCommit kOpen commG kCheck ).outD false
theorem begun18_ok' (h:(begun18_T powsF kCommit kOpen commG kCheck).full=true/\(begun18_T powsF kCommit kOpen commG kCheck).okAll):CallOk Tryz.prog 21 (K0  kBool.rs.out.res begun18) :=
 Go.Proofs.YtgpafcehehaiiaaGreat.G0 (E:=Ens [(17,K2 (kRow Fr).arg (kInt.arg.such fewI) oPow.res powsF),(23,K2 aPow aFew ((kRow Pg1).rs2 kInt).out.res kCommit),(24,K3 aPow aFew (kRow Fr).arg ((kRow Fr).rs3 (kRow Pg1) kInt).out.res kOpen),(32,K1 (kRow Fr).arg (kRow Pg1).rs.res commG),(30,KL (ArgL.cons (kRow Pg2).arg (ArgL.cons (kRow Pg1).arg (ArgL.cons (kRow Fr).arg (ArgL.cons (kRow Fr).arg (ArgL.cons (kRow Pg1).arg ArgL.nil))))) kBool.rs.out.res (fun x=>kCheck x.1 x.2.1 x.2.2.1 x.2.2.2.1 x.2.2.2.2.1))] [17]) Tryz.func21 (c:=codeOf Tryz.f21) (by kernel_rfl) (bodied Tryz.func21 (by kernel_rfl) (by kernel_rfl)) kBool.rs.out begun18 (DoesL.outs (Ens_ok (.cons powsF_ok (.cons kCommit_ok (.cons kOpen_ok (.cons commG_ok (.cons kCheck_ok .nil)))))) 300 false (begun18_run powsF kCommit kOpen commG kCheck ) h.1 h.2)
theorem begun18_L {P:Fr->Int->List Pg1 × Pg2} {C:List Pg1 × Pg2->List Fr->Pg1 × Int} {O:List Pg1 × Pg2->List Fr->Fr->Fr × Pg1 × Int} {g:Fr->Pg1} {K:Pg2->Pg1->Fr->Fr->Pg1->Bool} (hp:few (P ⟨UInt64.ofNat 2,UInt64.ofNat 0,UInt64.ofNat 0,UInt64.ofNat 0⟩ 3).1):(begun18_T P C O g K).okAll:=by
 have hf : ∀ a b:Fr,fewR [a,b]:=fun a b=>by
  show 2<4294967296
  decide
 refine ⟨⟨by decide,by decide⟩,⟨vcFewG hp,hf _ _⟩,⟨vcFewG hp,hf _ _⟩,?_⟩
 simp only [Tree.okAll,Pr.holds,implies_true,and_self]
theorem begun18_ok:CallOk Tryz.prog 21 (K0 kBool.rs.res begun18):=begun18_ok' ⟨rfl,begun18_L (by
 show (powL (ofRF 1) commG mulRF _ 3).length<4294967296
 rw [powL_len]
 decide)⟩
def kzgChecks_T (f0:Bool) (f1:List Fr->Int->Bool) (f2:Fr->Fr->Fr) (f3:Fr->Fr->Fr) (f4:Fr->Fr->Fr) (f5:Fr->Pg2) (f6:Fr->Pg1) (f7:Pg2->Pg1->Fr->Fr->Pg1->Bool) (tau:Fr) (c:Fr) (z:Fr) (y:Fr) (u:Fr) (fit:Bool):Tree (Option ((Bool) × Pr)) :=
 (.br (!(f0))
  (.leaf (some ((false,.t))))
  (.br (!(f1 [tau,c,z,y,u] 5))
   (.leaf (some ((true,.t))))
   (.br (fit)
    (.leaf (some ((f7 (f5 tau) (f6 (f3 y (f4 (f2 tau z) u))) z y (f6 u)==((f2 (f3 y (f4 (f2 tau z) u)) y).l0==(f4 (f2 tau z) u).l0 && ((f2 (f3 y (f4 (f2 tau z) u)) y).l1==(f4 (f2 tau z) u).l1 && ((f2 (f3 y (f4 (f2 tau z) u)) y).l2==(f4 (f2 tau z) u).l2 && ((f2 (f3 y (f4 (f2 tau z) u)) y).l3==(f4 (f2 tau z) u).l3 && true)))),.t))))
    (.leaf (some ((f7 (f5 tau) (f6 c) z y (f6 u)==((f2 c y).l0==(f4 (f2 tau z) u).l0 && ((f2 c y).l1==(f4 (f2 tau z) u).l1 && ((f2 c y).l2==(f4 (f2 tau z) u).l2 && ((f2 c y).l3==(f4 (f2 tau z) u).l3 && true)))),.t)))))))
theorem kzgChecks_run (f0:Bool) (f1:List Fr->Int->Bool) (f2:Fr->Fr->Fr) (f3:Fr->Fr->Fr) (f4:Fr->Fr->Fr) (f5:Fr->Pg2) (f6:Fr->Pg1) (f7:Pg2->Pg1->Fr->Fr->Pg1->Bool) (tau:Fr) (c:Fr) (z:Fr) (y:Fr) (u:Fr) (fit:Bool):endT (Ens [(21,K0  kBool.rs.out.res f0),(14,K2 (argRw .fr) kInt.arg kBool.rs.res f1),(27,Kr2 f2),(28,Kr2 f3),(29,Kr2 f4),(31,K1 (kRow Fr).arg (kRow Pg2).rs.res f5),(32,K1 (kRow Fr).arg (kRow Pg1).rs.res f6),(30,KL (ArgL.cons (kRow Pg2).arg (ArgL.cons (kRow Pg1).arg (ArgL.cons (kRow Fr).arg (ArgL.cons (kRow Fr).arg (ArgL.cons (kRow Pg1).arg ArgL.nil))))) kBool.rs.out.res (fun x=>f7 x.1 x.2.1 x.2.2.1 x.2.2.2.1 x.2.2.2.2.1))] []) kBool.rs.out 300 Tryz.f5 (flat (codeOf Tryz.f5)) (startSt Tryz.f5 [.one ((kRow Fr).av tau),.one ((kRow Fr).av c),.one ((kRow Fr).av z),.one ((kRow Fr).av y),.one ((kRow Fr).av u),.one (kBool.av fit)] [])=kzgChecks_T f0 f1 f2 f3 f4 f5 f6 f7 tau c z y u fit:=by kernel_rfl
def kzgChecks (tau:Fr) (c:Fr) (z:Fr) (y:Fr) (u:Fr) (fit:Bool):Bool:=(kzgChecks_T begun18 mayLF subRF addRF mulRF commH commG kCheck tau c z y u fit).outD false
theorem kzgChecks_gives' (tau:Fr) (c:Fr) (z:Fr) (y:Fr) (u:Fr) (fit:Bool) (h:(kzgChecks_T begun18 mayLF subRF addRF mulRF commH commG kCheck tau c z y u fit).full=true/\(kzgChecks_T begun18 mayLF subRF addRF mulRF commH commG kCheck tau c z y u fit).okAll) (w:World):Gives Tryz.prog 5 ((KdL.cons (kRow Fr) (KdL.cons (kRow Fr) (KdL.cons (kRow Fr) (KdL.cons (kRow Fr) (KdL.cons (kRow Fr) (KdL.cons kBool KdL.nil)))))).vals (tau,c,z,y,u,fit,())).toArray w kBool.rs.out.res (kzgChecks tau c z y u fit) :=
 ends_gives3 (E:=Ens [(21,K0  kBool.rs.out.res begun18),(14,K2 (argRw .fr) kInt.arg kBool.rs.res mayLF),(27,Kr2 subRF),(28,Kr2 addRF),(29,Kr2 mulRF),(31,K1 (kRow Fr).arg (kRow Pg2).rs.res commH),(32,K1 (kRow Fr).arg (kRow Pg1).rs.res commG),(30,KL (ArgL.cons (kRow Pg2).arg (ArgL.cons (kRow Pg1).arg (ArgL.cons (kRow Fr).arg (ArgL.cons (kRow Fr).arg (ArgL.cons (kRow Pg1).arg ArgL.nil))))) kBool.rs.out.res (fun x=>kCheck x.1 x.2.1 x.2.2.1 x.2.2.2.1 x.2.2.2.2.1))] []) Tryz.func5 (c:=codeOf Tryz.f5) (by kernel_rfl) (KdL.cons (kRow Fr) (KdL.cons (kRow Fr) (KdL.cons (kRow Fr) (KdL.cons (kRow Fr) (KdL.cons (kRow Fr) (KdL.cons kBool KdL.nil)))))) (tau,c,z,y,u,fit,()) kBool.rs.out w
  (DoesL.outs (Ens_ok (.cons begun18_ok (.cons mayLF_ok (.cons subR_ok (.cons addR_ok (.cons mulR_ok (.cons commH_ok (.cons commG_ok (.cons kCheck_ok .nil))))))))) 300 false (kzgChecks_run begun18 mayLF subRF addRF mulRF commH commG kCheck tau c z y u fit) h.1 h.2)
def kzgHonest_T (f0:Bool) (f1:List Fr->Int->Bool) (f2:Fr->Int->List Pg1 × Pg2) (f3:List Pg1 × Pg2->List Fr->Pg1 × Int) (f4:List Pg1 × Pg2->List Fr->Fr->Fr × Pg1 × Int) (f5:Fr->Fr->Fr) (f6:Pg2->Pg1->Fr->Fr->Pg1->Bool) (tau:Fr) (f:List Fr) (z:Fr) (more:Fr):Tree (Option ((Bool) × Pr)) :=
 (.br (!(f0))
  (.leaf (some ((false,.t))))
  (.br (!(f1 [tau,z,more] 3))
   (.leaf (some ((true,.t))))
   (.vc (0+f.length*4<=(rowsC RK.fr f).length/\0=0/\f.length<1125899906842624/\0=0/\4=4)
    (.br (!(f1 (List.take f.length (List.drop 0 f)) 6))
     (.leaf (some ((true,.t))))
     (.vc (fewI 6)
      (.vc (((0+(f2 tau 6).fst.length*13<=(rowsC RK.g1 (f2 tau 6).fst).length/\0=0/\(f2 tau 6).fst.length<1125899906842624/\0=0/\13=13)/\fewP (List.take (f2 tau 6).fst.length (List.drop 0 (f2 tau 6).fst),(f2 tau 6).snd))/\(0+f.length*4<=(rowsC RK.fr f).length/\0=0/\f.length<1125899906842624/\0=0/\4=4)/\fewR (List.take f.length (List.drop 0 f)))
       (.vc (((0+(f2 tau 6).fst.length*13<=(rowsC RK.g1 (f2 tau 6).fst).length/\0=0/\(f2 tau 6).fst.length<1125899906842624/\0=0/\13=13)/\fewP (List.take (f2 tau 6).fst.length (List.drop 0 (f2 tau 6).fst),(f2 tau 6).snd))/\(0+f.length*4<=(rowsC RK.fr f).length/\0=0/\f.length<1125899906842624/\0=0/\4=4)/\fewR (List.take f.length (List.drop 0 f)))
        (.br ((f3 (List.take (f2 tau 6).fst.length (List.drop 0 (f2 tau 6).fst),(f2 tau 6).snd) (List.take f.length (List.drop 0 f))).snd==0)
         (.br ((f4 (List.take (f2 tau 6).fst.length (List.drop 0 (f2 tau 6).fst),(f2 tau 6).snd) (List.take f.length (List.drop 0 f)) z).snd.snd==0)
          (.br (f6 (f2 tau 6).snd (f3 (List.take (f2 tau 6).fst.length (List.drop 0 (f2 tau 6).fst),(f2 tau 6).snd) (List.take f.length (List.drop 0 f))).fst z (f4 (List.take (f2 tau 6).fst.length (List.drop 0 (f2 tau 6).fst),(f2 tau 6).snd) (List.take f.length (List.drop 0 f)) z).fst (f4 (List.take (f2 tau 6).fst.length (List.drop 0 (f2 tau 6).fst),(f2 tau 6).snd) (List.take f.length (List.drop 0 f)) z).snd.fst)
           (.br (frEq (more) ({ l0:=UInt64.ofNat 0,l1:=UInt64.ofNat 0,l2:=UInt64.ofNat 0,l3:=UInt64.ofNat 0 }))
            (.leaf (some ((true,.t))))
            (.leaf (some ((!f6 (f2 tau 6).snd (f3 (List.take (f2 tau 6).fst.length (List.drop 0 (f2 tau 6).fst),(f2 tau 6).snd) (List.take f.length (List.drop 0 f))).fst z (f5 (f4 (List.take (f2 tau 6).fst.length (List.drop 0 (f2 tau 6).fst),(f2 tau 6).snd) (List.take f.length (List.drop 0 f)) z).fst more) (f4 (List.take (f2 tau 6).fst.length (List.drop 0 (f2 tau 6).fst),(f2 tau 6).snd) (List.take f.length (List.drop 0 f)) z).snd.fst,.t)))))
           (.leaf (some ((false,.t)))))
          (.leaf (some ((false,.t)))))
         (.leaf (some ((false,.t))))))))))))
theorem kzgHonest_run (f0:Bool) (f1:List Fr->Int->Bool) (f2:Fr->Int->List Pg1 × Pg2) (f3:List Pg1 × Pg2->List Fr->Pg1 × Int) (f4:List Pg1 × Pg2->List Fr->Fr->Fr × Pg1 × Int) (f5:Fr->Fr->Fr) (f6:Pg2->Pg1->Fr->Fr->Pg1->Bool) (tau:Fr) (f:List Fr) (z:Fr) (more:Fr):endT (Ens [(21,K0  kBool.rs.out.res f0),(14,K2 (argRw .fr) kInt.arg kBool.rs.res f1),(17,K2 (kRow Fr).arg (kInt.arg.such fewI) oPow.res f2),(23,K2 aPow aFew ((kRow Pg1).rs2 kInt).out.res f3),(24,K3 aPow aFew (kRow Fr).arg ((kRow Fr).rs3 (kRow Pg1) kInt).out.res f4),(28,Kr2 f5),(30,KL (ArgL.cons (kRow Pg2).arg (ArgL.cons (kRow Pg1).arg (ArgL.cons (kRow Fr).arg (ArgL.cons (kRow Fr).arg (ArgL.cons (kRow Pg1).arg ArgL.nil))))) kBool.rs.out.res (fun x=>f6 x.1 x.2.1 x.2.2.1 x.2.2.2.1 x.2.2.2.2.1))] [17]) kBool.rs.out 300 Tryz.f6 (flat (codeOf Tryz.f6)) (startSt Tryz.f6 [.one ((kRow Fr).av tau),rwV .fr 0 f,.one ((kRow Fr).av z),.one ((kRow Fr).av more)] [rwHE .fr f])=kzgHonest_T f0 f1 f2 f3 f4 f5 f6 tau f z more:=by kernel_rfl
def kzgHonest (tau:Fr) (f:List Fr) (z:Fr) (more:Fr):Bool:=(kzgHonest_T begun18 mayLF powsF kCommit kOpen addRF kCheck tau f z more).outD false
theorem kzgHonest_gives' (tau:Fr) (f:List Fr) (z:Fr) (more:Fr) {w:World} {vtau vf vz vmore:Value} (gtau:(kRow Fr).arg.is w vtau tau) (gf:(argRw .fr).is w vf f) (gz:(kRow Fr).arg.is w vz z) (gmore:(kRow Fr).arg.is w vmore more) (h:(inpRw .fr).fact f->(kzgHonest_T begun18 mayLF powsF kCommit kOpen addRF kCheck tau f z more).full=true/\(kzgHonest_T begun18 mayLF powsF kCommit kOpen addRF kCheck tau f z more).okAll):Gives Tryz.prog 6 #[vtau,vf,vz,vmore] w kBool.rs.out.res (kzgHonest tau f z more) :=
 GLg (E:=Ens [(21,K0  kBool.rs.out.res begun18),(14,K2 (argRw .fr) kInt.arg kBool.rs.res mayLF),(17,K2 (kRow Fr).arg (kInt.arg.such fewI) oPow.res powsF),(23,K2 aPow aFew ((kRow Pg1).rs2 kInt).out.res kCommit),(24,K3 aPow aFew (kRow Fr).arg ((kRow Fr).rs3 (kRow Pg1) kInt).out.res kOpen),(28,Kr2 addRF),(30,KL (ArgL.cons (kRow Pg2).arg (ArgL.cons (kRow Pg1).arg (ArgL.cons (kRow Fr).arg (ArgL.cons (kRow Fr).arg (ArgL.cons (kRow Pg1).arg ArgL.nil))))) kBool.rs.out.res (fun x=>kCheck x.1 x.2.1 x.2.2.1 x.2.2.2.1 x.2.2.2.2.1))] [17]) Tryz.func6 (c:=codeOf Tryz.f6) (by kernel_rfl) (InpL.cons (kRow Fr).inp (InpL.cons (inpRw .fr) (InpL.cons (kRow Fr).inp (InpL.cons (kRow Fr).inp InpL.nil)))) kBool.rs.out (kzgHonest tau f z more) (vs := [vtau,vf,vz,vmore]) (x:=(tau,f,z,more,())) ⟨gtau,gf,gz,gmore,rfl⟩ fun g =>
  (DoesL.outs (Ens_ok (.cons begun18_ok (.cons mayLF_ok (.cons powsF_ok (.cons kCommit_ok (.cons kOpen_ok (.cons addR_ok (.cons kCheck_ok .nil)))))))) 300 false (kzgHonest_run begun18 mayLF powsF kCommit kOpen addRF kCheck tau f z more) (h g.2.1).1 (h g.2.1).2)
def kzgLinear_T (f0:Bool) (f1:List Fr->Int->Bool) (f2:Fr->Int->List Pg1 × Pg2) (f3:List Pg1 × Pg2->List Fr->Pg1 × Int) (f4:List Fr->Fr->List Fr) (f5:List Fr->List Fr->List Fr) (f6:Pg1->Pg1->Pg1) (f7:Pg1->Fr->Pg1) (tau:Fr) (f:List Fr) (m:List Fr) (k:Fr):Tree (Option ((Bool) × Pr)) :=
 (.br (!(f0))
  (.leaf (some ((false,.t))))
  (.br (!(f1 [tau,k] 2))
   (.leaf (some ((true,.t))))
   (.vc (0+f.length*4<=(rowsC RK.fr f).length/\0=0/\f.length<1125899906842624/\0=0/\4=4)
    (.br (!(f1 (List.take f.length (List.drop 0 f)) 6))
     (.leaf (some ((true,.t))))
     (.vc (0+m.length*4<=(rowsC RK.fr m).length/\0=0/\m.length<1125899906842624/\0=0/\4=4)
      (.br (!(f1 (List.take m.length (List.drop 0 m)) 6))
       (.leaf (some ((true,.t))))
       (.vc (fewI 6)
        (.vc (((0+(f2 tau 6).fst.length*13<=(rowsC RK.g1 (f2 tau 6).fst).length/\0=0/\(f2 tau 6).fst.length<1125899906842624/\0=0/\13=13)/\fewP (List.take (f2 tau 6).fst.length (List.drop 0 (f2 tau 6).fst),(f2 tau 6).snd))/\(0+f.length*4<=(rowsC RK.fr f).length/\0=0/\f.length<1125899906842624/\0=0/\4=4)/\fewR (List.take f.length (List.drop 0 f)))
         (.vc (((0+(f2 tau 6).fst.length*13<=(rowsC RK.g1 (f2 tau 6).fst).length/\0=0/\(f2 tau 6).fst.length<1125899906842624/\0=0/\13=13)/\fewP (List.take (f2 tau 6).fst.length (List.drop 0 (f2 tau 6).fst),(f2 tau 6).snd))/\(0+m.length*4<=(rowsC RK.fr m).length/\0=0/\m.length<1125899906842624/\0=0/\4=4)/\fewR (List.take m.length (List.drop 0 m)))
          (.vc ((0+m.length*4<=(rowsC RK.fr m).length/\0=0/\m.length<1125899906842624/\0=0/\4=4)/\fewR (List.take m.length (List.drop 0 m)))
           (.vc (((0+f.length*4<=(rowsC RK.fr f).length/\0=0/\f.length<1125899906842624/\0=0/\4=4)/\fewR (List.take f.length (List.drop 0 f)))/\(0+(f4 (List.take m.length (List.drop 0 m)) k).length*4<=(rowsC RK.fr (f4 (List.take m.length (List.drop 0 m)) k)).length/\0=0/\(f4 (List.take m.length (List.drop 0 m)) k).length<1125899906842624/\0=0/\4=4)/\fewR (List.take (f4 (List.take m.length (List.drop 0 m)) k).length (List.drop 0 (f4 (List.take m.length (List.drop 0 m)) k))))
            (.vc (((0+(f2 tau 6).fst.length*13<=(rowsC RK.g1 (f2 tau 6).fst).length/\0=0/\(f2 tau 6).fst.length<1125899906842624/\0=0/\13=13)/\fewP (List.take (f2 tau 6).fst.length (List.drop 0 (f2 tau 6).fst),(f2 tau 6).snd))/\(0+(f5 (List.take f.length (List.drop 0 f)) (List.take (f4 (List.take m.length (List.drop 0 m)) k).length (List.drop 0 (f4 (List.take m.length (List.drop 0 m)) k)))).length*4<=(rowsC RK.fr (f5 (List.take f.length (List.drop 0 f)) (List.take (f4 (List.take m.length (List.drop 0 m)) k).length (List.drop 0 (f4 (List.take m.length (List.drop 0 m)) k))))).length/\0=0/\(f5 (List.take f.length (List.drop 0 f)) (List.take (f4 (List.take m.length (List.drop 0 m)) k).length (List.drop 0 (f4 (List.take m.length (List.drop 0 m)) k)))).length<1125899906842624/\0=0/\4=4)/\fewR (List.take (f5 (List.take f.length (List.drop 0 f)) (List.take (f4 (List.take m.length (List.drop 0 m)) k).length (List.drop 0 (f4 (List.take m.length (List.drop 0 m)) k)))).length (List.drop 0 (f5 (List.take f.length (List.drop 0 f)) (List.take (f4 (List.take m.length (List.drop 0 m)) k).length (List.drop 0 (f4 (List.take m.length (List.drop 0 m)) k)))))))
             (.br ((f3 (List.take (f2 tau 6).fst.length (List.drop 0 (f2 tau 6).fst),(f2 tau 6).snd) (List.take (f5 (List.take f.length (List.drop 0 f)) (List.take (f4 (List.take m.length (List.drop 0 m)) k).length (List.drop 0 (f4 (List.take m.length (List.drop 0 m)) k)))).length (List.drop 0 (f5 (List.take f.length (List.drop 0 f)) (List.take (f4 (List.take m.length (List.drop 0 m)) k).length (List.drop 0 (f4 (List.take m.length (List.drop 0 m)) k))))))).snd==0)
              (.leaf (some (((f3 (List.take (f2 tau 6).fst.length (List.drop 0 (f2 tau 6).fst),(f2 tau 6).snd) (List.take (f5 (List.take f.length (List.drop 0 f)) (List.take (f4 (List.take m.length (List.drop 0 m)) k).length (List.drop 0 (f4 (List.take m.length (List.drop 0 m)) k)))).length (List.drop 0 (f5 (List.take f.length (List.drop 0 f)) (List.take (f4 (List.take m.length (List.drop 0 m)) k).length (List.drop 0 (f4 (List.take m.length (List.drop 0 m)) k))))))).fst.x.l0==(f6 (f3 (List.take (f2 tau 6).fst.length (List.drop 0 (f2 tau 6).fst),(f2 tau 6).snd) (List.take f.length (List.drop 0 f))).fst (f7 (f3 (List.take (f2 tau 6).fst.length (List.drop 0 (f2 tau 6).fst),(f2 tau 6).snd) (List.take m.length (List.drop 0 m))).fst k)).x.l0 && ((f3 (List.take (f2 tau 6).fst.length (List.drop 0 (f2 tau 6).fst),(f2 tau 6).snd) (List.take (f5 (List.take f.length (List.drop 0 f)) (List.take (f4 (List.take m.length (List.drop 0 m)) k).length (List.drop 0 (f4 (List.take m.length (List.drop 0 m)) k)))).length (List.drop 0 (f5 (List.take f.length (List.drop 0 f)) (List.take (f4 (List.take m.length (List.drop 0 m)) k).length (List.drop 0 (f4 (List.take m.length (List.drop 0 m)) k))))))).fst.x.l1==(f6 (f3 (List.take (f2 tau 6).fst.length (List.drop 0 (f2 tau 6).fst),(f2 tau 6).snd) (List.take f.length (List.drop 0 f))).fst (f7 (f3 (List.take (f2 tau 6).fst.length (List.drop 0 (f2 tau 6).fst),(f2 tau 6).snd) (List.take m.length (List.drop 0 m))).fst k)).x.l1 && ((f3 (List.take (f2 tau 6).fst.length (List.drop 0 (f2 tau 6).fst),(f2 tau 6).snd) (List.take (f5 (List.take f.length (List.drop 0 f)) (List.take (f4 (List.take m.length (List.drop 0 m)) k).length (List.drop 0 (f4 (List.take m.length (List.drop 0 m)) k)))).length (List.drop 0 (f5 (List.take f.length (List.drop 0 f)) (List.take (f4 (List.take m.length (List.drop 0 m)) k).length (List.drop 0 (f4 (List.take m.length (List.drop 0 m)) k))))))).fst.x.l2==(f6 (f3 (List.take (f2 tau 6).fst.length (List.drop 0 (f2 tau 6).fst),(f2 tau 6).snd) (List.take f.length (List.drop 0 f))).fst (f7 (f3 (List.take (f2 tau 6).fst.length (List.drop 0 (f2 tau 6).fst),(f2 tau 6).snd) (List.take m.length (List.drop 0 m))).fst k)).x.l2 && ((f3 (List.take (f2 tau 6).fst.length (List.drop 0 (f2 tau 6).fst),(f2 tau 6).snd) (List.take (f5 (List.take f.length (List.drop 0 f)) (List.take (f4 (List.take m.length (List.drop 0 m)) k).length (List.drop 0 (f4 (List.take m.length (List.drop 0 m)) k)))).length (List.drop 0 (f5 (List.take f.length (List.drop 0 f)) (List.take (f4 (List.take m.length (List.drop 0 m)) k).length (List.drop 0 (f4 (List.take m.length (List.drop 0 m)) k))))))).fst.x.l3==(f6 (f3 (List.take (f2 tau 6).fst.length (List.drop 0 (f2 tau 6).fst),(f2 tau 6).snd) (List.take f.length (List.drop 0 f))).fst (f7 (f3 (List.take (f2 tau 6).fst.length (List.drop 0 (f2 tau 6).fst),(f2 tau 6).snd) (List.take m.length (List.drop 0 m))).fst k)).x.l3 && ((f3 (List.take (f2 tau 6).fst.length (List.drop 0 (f2 tau 6).fst),(f2 tau 6).snd) (List.take (f5 (List.take f.length (List.drop 0 f)) (List.take (f4 (List.take m.length (List.drop 0 m)) k).length (List.drop 0 (f4 (List.take m.length (List.drop 0 m)) k)))).length (List.drop 0 (f5 (List.take f.length (List.drop 0 f)) (List.take (f4 (List.take m.length (List.drop 0 m)) k).length (List.drop 0 (f4 (List.take m.length (List.drop 0 m)) k))))))).fst.x.l4==(f6 (f3 (List.take (f2 tau 6).fst.length (List.drop 0 (f2 tau 6).fst),(f2 tau 6).snd) (List.take f.length (List.drop 0 f))).fst (f7 (f3 (List.take (f2 tau 6).fst.length (List.drop 0 (f2 tau 6).fst),(f2 tau 6).snd) (List.take m.length (List.drop 0 m))).fst k)).x.l4 && ((f3 (List.take (f2 tau 6).fst.length (List.drop 0 (f2 tau 6).fst),(f2 tau 6).snd) (List.take (f5 (List.take f.length (List.drop 0 f)) (List.take (f4 (List.take m.length (List.drop 0 m)) k).length (List.drop 0 (f4 (List.take m.length (List.drop 0 m)) k)))).length (List.drop 0 (f5 (List.take f.length (List.drop 0 f)) (List.take (f4 (List.take m.length (List.drop 0 m)) k).length (List.drop 0 (f4 (List.take m.length (List.drop 0 m)) k))))))).fst.x.l5==(f6 (f3 (List.take (f2 tau 6).fst.length (List.drop 0 (f2 tau 6).fst),(f2 tau 6).snd) (List.take f.length (List.drop 0 f))).fst (f7 (f3 (List.take (f2 tau 6).fst.length (List.drop 0 (f2 tau 6).fst),(f2 tau 6).snd) (List.take m.length (List.drop 0 m))).fst k)).x.l5 && true))))) && ((f3 (List.take (f2 tau 6).fst.length (List.drop 0 (f2 tau 6).fst),(f2 tau 6).snd) (List.take (f5 (List.take f.length (List.drop 0 f)) (List.take (f4 (List.take m.length (List.drop 0 m)) k).length (List.drop 0 (f4 (List.take m.length (List.drop 0 m)) k)))).length (List.drop 0 (f5 (List.take f.length (List.drop 0 f)) (List.take (f4 (List.take m.length (List.drop 0 m)) k).length (List.drop 0 (f4 (List.take m.length (List.drop 0 m)) k))))))).fst.y.l0==(f6 (f3 (List.take (f2 tau 6).fst.length (List.drop 0 (f2 tau 6).fst),(f2 tau 6).snd) (List.take f.length (List.drop 0 f))).fst (f7 (f3 (List.take (f2 tau 6).fst.length (List.drop 0 (f2 tau 6).fst),(f2 tau 6).snd) (List.take m.length (List.drop 0 m))).fst k)).y.l0 && ((f3 (List.take (f2 tau 6).fst.length (List.drop 0 (f2 tau 6).fst),(f2 tau 6).snd) (List.take (f5 (List.take f.length (List.drop 0 f)) (List.take (f4 (List.take m.length (List.drop 0 m)) k).length (List.drop 0 (f4 (List.take m.length (List.drop 0 m)) k)))).length (List.drop 0 (f5 (List.take f.length (List.drop 0 f)) (List.take (f4 (List.take m.length (List.drop 0 m)) k).length (List.drop 0 (f4 (List.take m.length (List.drop 0 m)) k))))))).fst.y.l1==(f6 (f3 (List.take (f2 tau 6).fst.length (List.drop 0 (f2 tau 6).fst),(f2 tau 6).snd) (List.take f.length (List.drop 0 f))).fst (f7 (f3 (List.take (f2 tau 6).fst.length (List.drop 0 (f2 tau 6).fst),(f2 tau 6).snd) (List.take m.length (List.drop 0 m))).fst k)).y.l1 && ((f3 (List.take (f2 tau 6).fst.length (List.drop 0 (f2 tau 6).fst),(f2 tau 6).snd) (List.take (f5 (List.take f.length (List.drop 0 f)) (List.take (f4 (List.take m.length (List.drop 0 m)) k).length (List.drop 0 (f4 (List.take m.length (List.drop 0 m)) k)))).length (List.drop 0 (f5 (List.take f.length (List.drop 0 f)) (List.take (f4 (List.take m.length (List.drop 0 m)) k).length (List.drop 0 (f4 (List.take m.length (List.drop 0 m)) k))))))).fst.y.l2==(f6 (f3 (List.take (f2 tau 6).fst.length (List.drop 0 (f2 tau 6).fst),(f2 tau 6).snd) (List.take f.length (List.drop 0 f))).fst (f7 (f3 (List.take (f2 tau 6).fst.length (List.drop 0 (f2 tau 6).fst),(f2 tau 6).snd) (List.take m.length (List.drop 0 m))).fst k)).y.l2 && ((f3 (List.take (f2 tau 6).fst.length (List.drop 0 (f2 tau 6).fst),(f2 tau 6).snd) (List.take (f5 (List.take f.length (List.drop 0 f)) (List.take (f4 (List.take m.length (List.drop 0 m)) k).length (List.drop 0 (f4 (List.take m.length (List.drop 0 m)) k)))).length (List.drop 0 (f5 (List.take f.length (List.drop 0 f)) (List.take (f4 (List.take m.length (List.drop 0 m)) k).length (List.drop 0 (f4 (List.take m.length (List.drop 0 m)) k))))))).fst.y.l3==(f6 (f3 (List.take (f2 tau 6).fst.length (List.drop 0 (f2 tau 6).fst),(f2 tau 6).snd) (List.take f.length (List.drop 0 f))).fst (f7 (f3 (List.take (f2 tau 6).fst.length (List.drop 0 (f2 tau 6).fst),(f2 tau 6).snd) (List.take m.length (List.drop 0 m))).fst k)).y.l3 && ((f3 (List.take (f2 tau 6).fst.length (List.drop 0 (f2 tau 6).fst),(f2 tau 6).snd) (List.take (f5 (List.take f.length (List.drop 0 f)) (List.take (f4 (List.take m.length (List.drop 0 m)) k).length (List.drop 0 (f4 (List.take m.length (List.drop 0 m)) k)))).length (List.drop 0 (f5 (List.take f.length (List.drop 0 f)) (List.take (f4 (List.take m.length (List.drop 0 m)) k).length (List.drop 0 (f4 (List.take m.length (List.drop 0 m)) k))))))).fst.y.l4==(f6 (f3 (List.take (f2 tau 6).fst.length (List.drop 0 (f2 tau 6).fst),(f2 tau 6).snd) (List.take f.length (List.drop 0 f))).fst (f7 (f3 (List.take (f2 tau 6).fst.length (List.drop 0 (f2 tau 6).fst),(f2 tau 6).snd) (List.take m.length (List.drop 0 m))).fst k)).y.l4 && ((f3 (List.take (f2 tau 6).fst.length (List.drop 0 (f2 tau 6).fst),(f2 tau 6).snd) (List.take (f5 (List.take f.length (List.drop 0 f)) (List.take (f4 (List.take m.length (List.drop 0 m)) k).length (List.drop 0 (f4 (List.take m.length (List.drop 0 m)) k)))).length (List.drop 0 (f5 (List.take f.length (List.drop 0 f)) (List.take (f4 (List.take m.length (List.drop 0 m)) k).length (List.drop 0 (f4 (List.take m.length (List.drop 0 m)) k))))))).fst.y.l5==(f6 (f3 (List.take (f2 tau 6).fst.length (List.drop 0 (f2 tau 6).fst),(f2 tau 6).snd) (List.take f.length (List.drop 0 f))).fst (f7 (f3 (List.take (f2 tau 6).fst.length (List.drop 0 (f2 tau 6).fst),(f2 tau 6).snd) (List.take m.length (List.drop 0 m))).fst k)).y.l5 && true))))) && ((f3 (List.take (f2 tau 6).fst.length (List.drop 0 (f2 tau 6).fst),(f2 tau 6).snd) (List.take (f5 (List.take f.length (List.drop 0 f)) (List.take (f4 (List.take m.length (List.drop 0 m)) k).length (List.drop 0 (f4 (List.take m.length (List.drop 0 m)) k)))).length (List.drop 0 (f5 (List.take f.length (List.drop 0 f)) (List.take (f4 (List.take m.length (List.drop 0 m)) k).length (List.drop 0 (f4 (List.take m.length (List.drop 0 m)) k))))))).fst.inf==(f6 (f3 (List.take (f2 tau 6).fst.length (List.drop 0 (f2 tau 6).fst),(f2 tau 6).snd) (List.take f.length (List.drop 0 f))).fst (f7 (f3 (List.take (f2 tau 6).fst.length (List.drop 0 (f2 tau 6).fst),(f2 tau 6).snd) (List.take m.length (List.drop 0 m))).fst k)).inf && true)),.t))))
              (.leaf (some ((false,.t)))))))))))))))))
theorem kzgLinear_run (f0:Bool) (f1:List Fr->Int->Bool) (f2:Fr->Int->List Pg1 × Pg2) (f3:List Pg1 × Pg2->List Fr->Pg1 × Int) (f4:List Fr->Fr->List Fr) (f5:List Fr->List Fr->List Fr) (f6:Pg1->Pg1->Pg1) (f7:Pg1->Fr->Pg1) (tau:Fr) (f:List Fr) (m:List Fr) (k:Fr):endT (Ens [(21,K0  kBool.rs.out.res f0),(14,K2 (argRw .fr) kInt.arg kBool.rs.res f1),(17,K2 (kRow Fr).arg (kInt.arg.such fewI) oPow.res f2),(23,K2 aPow aFew ((kRow Pg1).rs2 kInt).out.res f3),(34,K2 aFew (kRow Fr).arg oFrs.res f4),(33,K2 aFew aFew oFrs.res f5),(35,K2 (kRow Pg1).arg (kRow Pg1).arg (kRow Pg1).rs.res f6),(36,K2 (kRow Pg1).arg (kRow Fr).arg (kRow Pg1).rs.res f7)] [17,34,33]) kBool.rs.out 300 Tryz.f7 (flat (codeOf Tryz.f7)) (startSt Tryz.f7 [.one ((kRow Fr).av tau),rwV .fr 0 f,rwV .fr 1 m,.one ((kRow Fr).av k)] [rwHE .fr f,rwHE .fr m])=kzgLinear_T f0 f1 f2 f3 f4 f5 f6 f7 tau f m k:=by kernel_rfl
def kzgLinear (tau:Fr) (f:List Fr) (m:List Fr) (k:Fr):Bool:=(kzgLinear_T begun18 mayLF powsF kCommit rScaleF rAddF plus1R times1R tau f m k).outD false
theorem kzgLinear_gives' (tau:Fr) (f:List Fr) (m:List Fr) (k:Fr) {w:World} {vtau vf vm vk:Value} (gtau:(kRow Fr).arg.is w vtau tau) (gf:(argRw .fr).is w vf f) (gm:(argRw .fr).is w vm m) (gk:(kRow Fr).arg.is w vk k) (h:(inpRw .fr).fact f->(inpRw .fr).fact m->(kzgLinear_T begun18 mayLF powsF kCommit rScaleF rAddF plus1R times1R tau f m k).full=true/\(kzgLinear_T begun18 mayLF powsF kCommit rScaleF rAddF plus1R times1R tau f m k).okAll):Gives Tryz.prog 7 #[vtau,vf,vm,vk] w kBool.rs.out.res (kzgLinear tau f m k) :=
 GLg (E:=Ens [(21,K0  kBool.rs.out.res begun18),(14,K2 (argRw .fr) kInt.arg kBool.rs.res mayLF),(17,K2 (kRow Fr).arg (kInt.arg.such fewI) oPow.res powsF),(23,K2 aPow aFew ((kRow Pg1).rs2 kInt).out.res kCommit),(34,K2 aFew (kRow Fr).arg oFrs.res rScaleF),(33,K2 aFew aFew oFrs.res rAddF),(35,K2 (kRow Pg1).arg (kRow Pg1).arg (kRow Pg1).rs.res plus1R),(36,K2 (kRow Pg1).arg (kRow Fr).arg (kRow Pg1).rs.res times1R)] [17,34,33]) Tryz.func7 (c:=codeOf Tryz.f7) (by kernel_rfl) (InpL.cons (kRow Fr).inp (InpL.cons (inpRw .fr) (InpL.cons (inpRw .fr) (InpL.cons (kRow Fr).inp InpL.nil)))) kBool.rs.out (kzgLinear tau f m k) (vs := [vtau,vf,vm,vk]) (x:=(tau,f,m,k,())) ⟨gtau,gf,gm,gk,rfl⟩ fun g =>
  (DoesL.outs (Ens_ok (.cons begun18_ok (.cons mayLF_ok (.cons powsF_ok (.cons kCommit_ok (.cons rScaleF_ok (.cons rAddF_ok (.cons plus1R_ok (.cons times1R_ok .nil))))))))) 300 false (kzgLinear_run begun18 mayLF powsF kCommit rScaleF rAddF plus1R times1R tau f m k) (h g.2.1 g.2.2.1).1 (h g.2.1 g.2.2.1).2)
def kzgOut_T (f0:Bool) (f1:UInt64->Pg1 × Bool) (f2:Pg1->Bool) (f3:Fr->Bool) (f4:Pg1) (f5:Fr->Pg2) (f6:Pg2->Pg1->Fr->Fr->Pg1->Bool) (tau:Fr) (n:UInt64) (which:Bool):Tree (Option ((Bool) × Pr)) :=
 (.br (!(f0))
  (.leaf (some ((false,.t))))
  (.br (!((f1 n).snd))
   (.leaf (some ((true,.t))))
   (.br (f2 (f1 n).fst)
    (.leaf (some ((true,.t))))
    (.br (!(f3 tau))
     (.leaf (some ((true,.t))))
     (.br (which)
      (.leaf (some ((!f6 (f5 tau) (f1 n).fst { l0:=UInt64.ofNat 1,l1:=UInt64.ofNat 0,l2:=UInt64.ofNat 0,l3:=UInt64.ofNat 0 } { l0:=UInt64.ofNat 2,l1:=UInt64.ofNat 0,l2:=UInt64.ofNat 0,l3:=UInt64.ofNat 0 } f4,.t))))
      (.leaf (some ((!f6 (f5 tau) f4 { l0:=UInt64.ofNat 1,l1:=UInt64.ofNat 0,l2:=UInt64.ofNat 0,l3:=UInt64.ofNat 0 } { l0:=UInt64.ofNat 2,l1:=UInt64.ofNat 0,l2:=UInt64.ofNat 0,l3:=UInt64.ofNat 0 } (f1 n).fst,.t)))))))))
theorem kzgOut_run (f0:Bool) (f1:UInt64->Pg1 × Bool) (f2:Pg1->Bool) (f3:Fr->Bool) (f4:Pg1) (f5:Fr->Pg2) (f6:Pg2->Pg1->Fr->Fr->Pg1->Bool) (tau:Fr) (n:UInt64) (which:Bool):endT (Ens [(21,K0  kBool.rs.out.res f0),(37,K1 kU64.arg ((kRow Pg1).rs2 kBool).res f1),(38,K1 (kRow Pg1).arg kBool.rs.res f2),(22,Krb f3),(39,K0 (kRow Pg1).rs.res f4),(31,K1 (kRow Fr).arg (kRow Pg2).rs.res f5),(30,KL (ArgL.cons (kRow Pg2).arg (ArgL.cons (kRow Pg1).arg (ArgL.cons (kRow Fr).arg (ArgL.cons (kRow Fr).arg (ArgL.cons (kRow Pg1).arg ArgL.nil))))) kBool.rs.out.res (fun x=>f6 x.1 x.2.1 x.2.2.1 x.2.2.2.1 x.2.2.2.2.1))] []) kBool.rs.out 300 Tryz.f8 (flat (codeOf Tryz.f8)) (startSt Tryz.f8 [.one ((kRow Fr).av tau),.one (kU64.av n),.one (kBool.av which)] [])=kzgOut_T f0 f1 f2 f3 f4 f5 f6 tau n which:=by kernel_rfl
def kzgOut (tau:Fr) (n:UInt64) (which:Bool):Bool:=(kzgOut_T begun18 out8 in1R mayRF gen1R commH kCheck tau n which).outD false
theorem kzgOut_gives' (h : ∀ (tau:Fr) (n:UInt64) (which:Bool),(kzgOut_T begun18 out8 in1R mayRF gen1R commH kCheck tau n which).full=true/\(kzgOut_T begun18 out8 in1R mayRF gen1R commH kCheck tau n which).okAll) {w:World} {vtau vn vwhich:Value} {tau:Fr} {n:UInt64} {which:Bool} (gtau:(kRow Fr).arg.is w vtau tau) (gn:kU64.arg.is w vn n) (gwhich:kBool.arg.is w vwhich which):Gives Tryz.prog 8 #[vtau,vn,vwhich] w kBool.rs.out.res (kzgOut tau n which) :=
 G3g (E:=Ens [(21,K0  kBool.rs.out.res begun18),(37,K1 kU64.arg ((kRow Pg1).rs2 kBool).res out8),(38,K1 (kRow Pg1).arg kBool.rs.res in1R),(22,Krb mayRF),(39,K0 (kRow Pg1).rs.res gen1R),(31,K1 (kRow Fr).arg (kRow Pg2).rs.res commH),(30,KL (ArgL.cons (kRow Pg2).arg (ArgL.cons (kRow Pg1).arg (ArgL.cons (kRow Fr).arg (ArgL.cons (kRow Fr).arg (ArgL.cons (kRow Pg1).arg ArgL.nil))))) kBool.rs.out.res (fun x=>kCheck x.1 x.2.1 x.2.2.1 x.2.2.2.1 x.2.2.2.2.1))] []) Tryz.func8 (c:=codeOf Tryz.f8) (by kernel_rfl) (kRow Fr).inp kU64.inp kBool.inp kBool.rs.out (kzgOut tau n which) gtau gn gwhich fun _ _ _=>DoesL.outs (Ens_ok (.cons begun18_ok (.cons out8_ok (.cons in1R_ok (.cons mayR_ok (.cons gen1R_ok (.cons commH_ok (.cons kCheck_ok .nil)))))))) 300 false (kzgOut_run begun18 out8 in1R mayRF gen1R commH kCheck tau n which) (h tau n which).1 (h tau n which).2
def kzgPads_T (f0:Bool) (f1:List Fr->Int->Bool) (f2:Fr->Int->List Pg1 × Pg2) (f3:List Pg1 × Pg2->List Fr->Pg1 × Int) (f4:List Pg1 × Pg2->List Fr->Fr->Fr × Pg1 × Int) (tau:Fr) (f:List Fr) (z:Fr) (n:UInt8):Tree (Option ((Bool) × Pr)) :=
 (.br (!(f0))
  (.leaf (some ((false,.t))))
  (.br (!(f1 [tau,z] 2))
   (.leaf (some ((true,.t))))
   (.vc (0+f.length*4<=(rowsC RK.fr f).length/\0=0/\f.length<1125899906842624/\0=0/\4=4)
    (.br (!(f1 (List.take f.length (List.drop 0 f)) 5))
     (.leaf (some ((true,.t))))
     (.vc (fewI 5)
      (.vc ((0+f.length*4<=(rowsC RK.fr f).length/\0=0)/\0+f.length<=9223372036854775807/\(0+f.length)*32<=140737488355328)
       (.vc ((0+(0+f.length)*4<=(rowsC RK.fr ([]++List.take (mulNn f.length (4 / 4)) (List.drop 0 f))).length/\0=0)/\0<=(↑(n % UInt8.ofNat 30).toNat:Int)/\0+f.length+(↑(n % UInt8.ofNat 30).toNat:Int).toNat<=9223372036854775807/\(0+f.length+(↑(n % UInt8.ofNat 30).toNat:Int).toNat)*32<=140737488355328)
        (.vc (((0+(f2 tau 5).fst.length*13<=(rowsC RK.g1 (f2 tau 5).fst).length/\0=0/\(f2 tau 5).fst.length<1125899906842624/\0=0/\13=13)/\fewP (List.take (f2 tau 5).fst.length (List.drop 0 (f2 tau 5).fst),(f2 tau 5).snd))/\(0+f.length*4<=(rowsC RK.fr f).length/\0=0/\f.length<1125899906842624/\0=0/\4=4)/\fewR (List.take f.length (List.drop 0 f)))
         (.vc (((0+(f2 tau 5).fst.length*13<=(rowsC RK.g1 (f2 tau 5).fst).length/\0=0/\(f2 tau 5).fst.length<1125899906842624/\0=0/\13=13)/\fewP (List.take (f2 tau 5).fst.length (List.drop 0 (f2 tau 5).fst),(f2 tau 5).snd))/\(0+(0+f.length+(↑(n % UInt8.ofNat 30).toNat:Int).toNat)*4<=(rowsC RK.fr (List.take (mulNn (0+f.length) (4 / 4)) (List.drop 0 ([]++List.take (mulNn f.length (4 / 4)) (List.drop 0 f)))++List.replicate (↑(n % UInt8.ofNat 30).toNat:Int).toNat { l0:=0,l1:=0,l2:=0,l3:=0 })).length/\0 % 4=0/\0+f.length+(↑(n % UInt8.ofNat 30).toNat:Int).toNat<1125899906842624/\0*4=0/\4=4)/\fewR (List.take (0+f.length+(↑(n % UInt8.ofNat 30).toNat:Int).toNat) (List.drop (0 / 4) (List.take (mulNn (0+f.length) (4 / 4)) (List.drop 0 ([]++List.take (mulNn f.length (4 / 4)) (List.drop 0 f)))++List.replicate (↑(n % UInt8.ofNat 30).toNat:Int).toNat { l0:=0,l1:=0,l2:=0,l3:=0 }))))
          (.vc (((0+(f2 tau 5).fst.length*13<=(rowsC RK.g1 (f2 tau 5).fst).length/\0=0/\(f2 tau 5).fst.length<1125899906842624/\0=0/\13=13)/\fewP (List.take (f2 tau 5).fst.length (List.drop 0 (f2 tau 5).fst),(f2 tau 5).snd))/\(0+f.length*4<=(rowsC RK.fr f).length/\0=0/\f.length<1125899906842624/\0=0/\4=4)/\fewR (List.take f.length (List.drop 0 f)))
           (.vc (((0+(f2 tau 5).fst.length*13<=(rowsC RK.g1 (f2 tau 5).fst).length/\0=0/\(f2 tau 5).fst.length<1125899906842624/\0=0/\13=13)/\fewP (List.take (f2 tau 5).fst.length (List.drop 0 (f2 tau 5).fst),(f2 tau 5).snd))/\(0+(0+f.length+(↑(n % UInt8.ofNat 30).toNat:Int).toNat)*4<=(rowsC RK.fr (List.take (mulNn (0+f.length) (4 / 4)) (List.drop 0 ([]++List.take (mulNn f.length (4 / 4)) (List.drop 0 f)))++List.replicate (↑(n % UInt8.ofNat 30).toNat:Int).toNat { l0:=0,l1:=0,l2:=0,l3:=0 })).length/\0 % 4=0/\0+f.length+(↑(n % UInt8.ofNat 30).toNat:Int).toNat<1125899906842624/\0*4=0/\4=4)/\fewR (List.take (0+f.length+(↑(n % UInt8.ofNat 30).toNat:Int).toNat) (List.drop (0 / 4) (List.take (mulNn (0+f.length) (4 / 4)) (List.drop 0 ([]++List.take (mulNn f.length (4 / 4)) (List.drop 0 f)))++List.replicate (↑(n % UInt8.ofNat 30).toNat:Int).toNat { l0:=0,l1:=0,l2:=0,l3:=0 }))))
            (.br ((f3 (List.take (f2 tau 5).fst.length (List.drop 0 (f2 tau 5).fst),(f2 tau 5).snd) (List.take f.length (List.drop 0 f))).snd==0)
             (.br ((f3 (List.take (f2 tau 5).fst.length (List.drop 0 (f2 tau 5).fst),(f2 tau 5).snd) (List.take (0+f.length+(↑(n % UInt8.ofNat 30).toNat:Int).toNat) (List.drop 0 (List.take (0+f.length) (List.drop 0 ([]++List.take f.length (List.drop 0 f)))++List.replicate (↑(n % UInt8.ofNat 30).toNat:Int).toNat { l0:=0,l1:=0,l2:=0,l3:=0 })))).snd==0)
              (.br ((f4 (List.take (f2 tau 5).fst.length (List.drop 0 (f2 tau 5).fst),(f2 tau 5).snd) (List.take f.length (List.drop 0 f)) z).snd.snd==0)
               (.br ((f4 (List.take (f2 tau 5).fst.length (List.drop 0 (f2 tau 5).fst),(f2 tau 5).snd) (List.take (0+f.length+(↑(n % UInt8.ofNat 30).toNat:Int).toNat) (List.drop 0 (List.take (0+f.length) (List.drop 0 ([]++List.take f.length (List.drop 0 f)))++List.replicate (↑(n % UInt8.ofNat 30).toNat:Int).toNat { l0:=0,l1:=0,l2:=0,l3:=0 }))) z).snd.snd==0)
                (.br (pg1Eq ((f3 (List.take (f2 tau 5).fst.length (List.drop 0 (f2 tau 5).fst),(f2 tau 5).snd) (List.take f.length (List.drop 0 f))).fst) ((f3 (List.take (f2 tau 5).fst.length (List.drop 0 (f2 tau 5).fst),(f2 tau 5).snd) (List.take (0+f.length+(↑(n % UInt8.ofNat 30).toNat:Int).toNat) (List.drop 0 (List.take (0+f.length) (List.drop 0 ([]++List.take f.length (List.drop 0 f)))++List.replicate (↑(n % UInt8.ofNat 30).toNat:Int).toNat { l0:=0,l1:=0,l2:=0,l3:=0 })))).fst))
                 (.br (frEq ((f4 (List.take (f2 tau 5).fst.length (List.drop 0 (f2 tau 5).fst),(f2 tau 5).snd) (List.take f.length (List.drop 0 f)) z).fst) ((f4 (List.take (f2 tau 5).fst.length (List.drop 0 (f2 tau 5).fst),(f2 tau 5).snd) (List.take (0+f.length+(↑(n % UInt8.ofNat 30).toNat:Int).toNat) (List.drop 0 (List.take (0+f.length) (List.drop 0 ([]++List.take f.length (List.drop 0 f)))++List.replicate (↑(n % UInt8.ofNat 30).toNat:Int).toNat { l0:=0,l1:=0,l2:=0,l3:=0 }))) z).fst))
                  (.leaf (some (((f4 (List.take (f2 tau 5).fst.length (List.drop 0 (f2 tau 5).fst),(f2 tau 5).snd) (List.take f.length (List.drop 0 f)) z).snd.fst.x.l0==(f4 (List.take (f2 tau 5).fst.length (List.drop 0 (f2 tau 5).fst),(f2 tau 5).snd) (List.take (0+f.length+(↑(n % UInt8.ofNat 30).toNat:Int).toNat) (List.drop (0 / 4) (List.take (mulNn (0+f.length) (4 / 4)) (List.drop 0 ([]++List.take (mulNn f.length (4 / 4)) (List.drop 0 f)))++List.replicate (↑(n % UInt8.ofNat 30).toNat:Int).toNat { l0:=0,l1:=0,l2:=0,l3:=0 }))) z).snd.fst.x.l0 && ((f4 (List.take (f2 tau 5).fst.length (List.drop 0 (f2 tau 5).fst),(f2 tau 5).snd) (List.take f.length (List.drop 0 f)) z).snd.fst.x.l1==(f4 (List.take (f2 tau 5).fst.length (List.drop 0 (f2 tau 5).fst),(f2 tau 5).snd) (List.take (0+f.length+(↑(n % UInt8.ofNat 30).toNat:Int).toNat) (List.drop (0 / 4) (List.take (mulNn (0+f.length) (4 / 4)) (List.drop 0 ([]++List.take (mulNn f.length (4 / 4)) (List.drop 0 f)))++List.replicate (↑(n % UInt8.ofNat 30).toNat:Int).toNat { l0:=0,l1:=0,l2:=0,l3:=0 }))) z).snd.fst.x.l1 && ((f4 (List.take (f2 tau 5).fst.length (List.drop 0 (f2 tau 5).fst),(f2 tau 5).snd) (List.take f.length (List.drop 0 f)) z).snd.fst.x.l2==(f4 (List.take (f2 tau 5).fst.length (List.drop 0 (f2 tau 5).fst),(f2 tau 5).snd) (List.take (0+f.length+(↑(n % UInt8.ofNat 30).toNat:Int).toNat) (List.drop (0 / 4) (List.take (mulNn (0+f.length) (4 / 4)) (List.drop 0 ([]++List.take (mulNn f.length (4 / 4)) (List.drop 0 f)))++List.replicate (↑(n % UInt8.ofNat 30).toNat:Int).toNat { l0:=0,l1:=0,l2:=0,l3:=0 }))) z).snd.fst.x.l2 && ((f4 (List.take (f2 tau 5).fst.length (List.drop 0 (f2 tau 5).fst),(f2 tau 5).snd) (List.take f.length (List.drop 0 f)) z).snd.fst.x.l3==(f4 (List.take (f2 tau 5).fst.length (List.drop 0 (f2 tau 5).fst),(f2 tau 5).snd) (List.take (0+f.length+(↑(n % UInt8.ofNat 30).toNat:Int).toNat) (List.drop (0 / 4) (List.take (mulNn (0+f.length) (4 / 4)) (List.drop 0 ([]++List.take (mulNn f.length (4 / 4)) (List.drop 0 f)))++List.replicate (↑(n % UInt8.ofNat 30).toNat:Int).toNat { l0:=0,l1:=0,l2:=0,l3:=0 }))) z).snd.fst.x.l3 && ((f4 (List.take (f2 tau 5).fst.length (List.drop 0 (f2 tau 5).fst),(f2 tau 5).snd) (List.take f.length (List.drop 0 f)) z).snd.fst.x.l4==(f4 (List.take (f2 tau 5).fst.length (List.drop 0 (f2 tau 5).fst),(f2 tau 5).snd) (List.take (0+f.length+(↑(n % UInt8.ofNat 30).toNat:Int).toNat) (List.drop (0 / 4) (List.take (mulNn (0+f.length) (4 / 4)) (List.drop 0 ([]++List.take (mulNn f.length (4 / 4)) (List.drop 0 f)))++List.replicate (↑(n % UInt8.ofNat 30).toNat:Int).toNat { l0:=0,l1:=0,l2:=0,l3:=0 }))) z).snd.fst.x.l4 && ((f4 (List.take (f2 tau 5).fst.length (List.drop 0 (f2 tau 5).fst),(f2 tau 5).snd) (List.take f.length (List.drop 0 f)) z).snd.fst.x.l5==(f4 (List.take (f2 tau 5).fst.length (List.drop 0 (f2 tau 5).fst),(f2 tau 5).snd) (List.take (0+f.length+(↑(n % UInt8.ofNat 30).toNat:Int).toNat) (List.drop (0 / 4) (List.take (mulNn (0+f.length) (4 / 4)) (List.drop 0 ([]++List.take (mulNn f.length (4 / 4)) (List.drop 0 f)))++List.replicate (↑(n % UInt8.ofNat 30).toNat:Int).toNat { l0:=0,l1:=0,l2:=0,l3:=0 }))) z).snd.fst.x.l5 && true))))) && ((f4 (List.take (f2 tau 5).fst.length (List.drop 0 (f2 tau 5).fst),(f2 tau 5).snd) (List.take f.length (List.drop 0 f)) z).snd.fst.y.l0==(f4 (List.take (f2 tau 5).fst.length (List.drop 0 (f2 tau 5).fst),(f2 tau 5).snd) (List.take (0+f.length+(↑(n % UInt8.ofNat 30).toNat:Int).toNat) (List.drop (0 / 4) (List.take (mulNn (0+f.length) (4 / 4)) (List.drop 0 ([]++List.take (mulNn f.length (4 / 4)) (List.drop 0 f)))++List.replicate (↑(n % UInt8.ofNat 30).toNat:Int).toNat { l0:=0,l1:=0,l2:=0,l3:=0 }))) z).snd.fst.y.l0 && ((f4 (List.take (f2 tau 5).fst.length (List.drop 0 (f2 tau 5).fst),(f2 tau 5).snd) (List.take f.length (List.drop 0 f)) z).snd.fst.y.l1==(f4 (List.take (f2 tau 5).fst.length (List.drop 0 (f2 tau 5).fst),(f2 tau 5).snd) (List.take (0+f.length+(↑(n % UInt8.ofNat 30).toNat:Int).toNat) (List.drop (0 / 4) (List.take (mulNn (0+f.length) (4 / 4)) (List.drop 0 ([]++List.take (mulNn f.length (4 / 4)) (List.drop 0 f)))++List.replicate (↑(n % UInt8.ofNat 30).toNat:Int).toNat { l0:=0,l1:=0,l2:=0,l3:=0 }))) z).snd.fst.y.l1 && ((f4 (List.take (f2 tau 5).fst.length (List.drop 0 (f2 tau 5).fst),(f2 tau 5).snd) (List.take f.length (List.drop 0 f)) z).snd.fst.y.l2==(f4 (List.take (f2 tau 5).fst.length (List.drop 0 (f2 tau 5).fst),(f2 tau 5).snd) (List.take (0+f.length+(↑(n % UInt8.ofNat 30).toNat:Int).toNat) (List.drop (0 / 4) (List.take (mulNn (0+f.length) (4 / 4)) (List.drop 0 ([]++List.take (mulNn f.length (4 / 4)) (List.drop 0 f)))++List.replicate (↑(n % UInt8.ofNat 30).toNat:Int).toNat { l0:=0,l1:=0,l2:=0,l3:=0 }))) z).snd.fst.y.l2 && ((f4 (List.take (f2 tau 5).fst.length (List.drop 0 (f2 tau 5).fst),(f2 tau 5).snd) (List.take f.length (List.drop 0 f)) z).snd.fst.y.l3==(f4 (List.take (f2 tau 5).fst.length (List.drop 0 (f2 tau 5).fst),(f2 tau 5).snd) (List.take (0+f.length+(↑(n % UInt8.ofNat 30).toNat:Int).toNat) (List.drop (0 / 4) (List.take (mulNn (0+f.length) (4 / 4)) (List.drop 0 ([]++List.take (mulNn f.length (4 / 4)) (List.drop 0 f)))++List.replicate (↑(n % UInt8.ofNat 30).toNat:Int).toNat { l0:=0,l1:=0,l2:=0,l3:=0 }))) z).snd.fst.y.l3 && ((f4 (List.take (f2 tau 5).fst.length (List.drop 0 (f2 tau 5).fst),(f2 tau 5).snd) (List.take f.length (List.drop 0 f)) z).snd.fst.y.l4==(f4 (List.take (f2 tau 5).fst.length (List.drop 0 (f2 tau 5).fst),(f2 tau 5).snd) (List.take (0+f.length+(↑(n % UInt8.ofNat 30).toNat:Int).toNat) (List.drop (0 / 4) (List.take (mulNn (0+f.length) (4 / 4)) (List.drop 0 ([]++List.take (mulNn f.length (4 / 4)) (List.drop 0 f)))++List.replicate (↑(n % UInt8.ofNat 30).toNat:Int).toNat { l0:=0,l1:=0,l2:=0,l3:=0 }))) z).snd.fst.y.l4 && ((f4 (List.take (f2 tau 5).fst.length (List.drop 0 (f2 tau 5).fst),(f2 tau 5).snd) (List.take f.length (List.drop 0 f)) z).snd.fst.y.l5==(f4 (List.take (f2 tau 5).fst.length (List.drop 0 (f2 tau 5).fst),(f2 tau 5).snd) (List.take (0+f.length+(↑(n % UInt8.ofNat 30).toNat:Int).toNat) (List.drop (0 / 4) (List.take (mulNn (0+f.length) (4 / 4)) (List.drop 0 ([]++List.take (mulNn f.length (4 / 4)) (List.drop 0 f)))++List.replicate (↑(n % UInt8.ofNat 30).toNat:Int).toNat { l0:=0,l1:=0,l2:=0,l3:=0 }))) z).snd.fst.y.l5 && true))))) && ((f4 (List.take (f2 tau 5).fst.length (List.drop 0 (f2 tau 5).fst),(f2 tau 5).snd) (List.take f.length (List.drop 0 f)) z).snd.fst.inf==(f4 (List.take (f2 tau 5).fst.length (List.drop 0 (f2 tau 5).fst),(f2 tau 5).snd) (List.take (0+f.length+(↑(n % UInt8.ofNat 30).toNat:Int).toNat) (List.drop (0 / 4) (List.take (mulNn (0+f.length) (4 / 4)) (List.drop 0 ([]++List.take (mulNn f.length (4 / 4)) (List.drop 0 f)))++List.replicate (↑(n % UInt8.ofNat 30).toNat:Int).toNat { l0:=0,l1:=0,l2:=0,l3:=0 }))) z).snd.fst.inf && true)),.t))))
                  (.leaf (some ((false,.t)))))
                 (.leaf (some ((false,.t)))))
                (.leaf (some ((false,.t)))))
               (.leaf (some ((false,.t)))))
              (.leaf (some ((false,.t)))))
             (.leaf (some ((false,.t))))))))))))))))
theorem kzgPads_run (f0:Bool) (f1:List Fr->Int->Bool) (f2:Fr->Int->List Pg1 × Pg2) (f3:List Pg1 × Pg2->List Fr->Pg1 × Int) (f4:List Pg1 × Pg2->List Fr->Fr->Fr × Pg1 × Int) (tau:Fr) (f:List Fr) (z:Fr) (n:UInt8):endT (Ens [(21,K0  kBool.rs.out.res f0),(14,K2 (argRw .fr) kInt.arg kBool.rs.res f1),(17,K2 (kRow Fr).arg (kInt.arg.such fewI) oPow.res f2),(23,K2 aPow aFew ((kRow Pg1).rs2 kInt).out.res f3),(24,K3 aPow aFew (kRow Fr).arg ((kRow Fr).rs3 (kRow Pg1) kInt).out.res f4)] [17]) kBool.rs.out 300 Tryz.f9 (flat (codeOf Tryz.f9)) (startSt Tryz.f9 [.one ((kRow Fr).av tau),rwV .fr 0 f,.one ((kRow Fr).av z),.one (kU8.av n)] [rwHE .fr f])=kzgPads_T f0 f1 f2 f3 f4 tau f z n:=by kernel_rfl
def kzgPads (tau:Fr) (f:List Fr) (z:Fr) (n:UInt8):Bool:=(kzgPads_T begun18 mayLF powsF kCommit kOpen tau f z n).outD false
theorem kzgPads_gives' (tau:Fr) (f:List Fr) (z:Fr) (n:UInt8) {w:World} {vtau vf vz vn:Value} (gtau:(kRow Fr).arg.is w vtau tau) (gf:(argRw .fr).is w vf f) (gz:(kRow Fr).arg.is w vz z) (gn:kU8.arg.is w vn n) (h:(inpRw .fr).fact f->(kzgPads_T begun18 mayLF powsF kCommit kOpen tau f z n).full=true/\(kzgPads_T begun18 mayLF powsF kCommit kOpen tau f z n).okAll):Gives Tryz.prog 9 #[vtau,vf,vz,vn] w kBool.rs.out.res (kzgPads tau f z n) :=
 GLg (E:=Ens [(21,K0  kBool.rs.out.res begun18),(14,K2 (argRw .fr) kInt.arg kBool.rs.res mayLF),(17,K2 (kRow Fr).arg (kInt.arg.such fewI) oPow.res powsF),(23,K2 aPow aFew ((kRow Pg1).rs2 kInt).out.res kCommit),(24,K3 aPow aFew (kRow Fr).arg ((kRow Fr).rs3 (kRow Pg1) kInt).out.res kOpen)] [17]) Tryz.func9 (c:=codeOf Tryz.f9) (by kernel_rfl) (InpL.cons (kRow Fr).inp (InpL.cons (inpRw .fr) (InpL.cons (kRow Fr).inp (InpL.cons kU8.inp InpL.nil)))) kBool.rs.out (kzgPads tau f z n) (vs := [vtau,vf,vz,vn]) (x:=(tau,f,z,n,())) ⟨gtau,gf,gz,gn,rfl⟩ fun g =>
  (DoesL.outs (Ens_ok (.cons begun18_ok (.cons mayLF_ok (.cons powsF_ok (.cons kCommit_ok (.cons kOpen_ok .nil)))))) 300 false (kzgPads_run begun18 mayLF powsF kCommit kOpen tau f z n) (h g.2.1).1 (h g.2.1).2)
end Go.Proofs.YtgpafcehehaiiaaGreat
set_option maxRecDepth 100000
namespace Go.Proofs.YtgpafcehehaiiaaGreat
open Go.RowKit
theorem mayLs_ok : ∀ {l:List Fr},mayLs mayRF l=true->okFs l
 | [],_=>okFs_nil
 | x :: l,h=>by
  rw [mayLs_cons] at h
  cases e:mayRF x with
  | false =>
   rw [e] at h
   cases h
  | true =>
   rw [e] at h
   have h:mayLs mayRF l=true:=h
   intro y hy
   rcases List.mem_cons.1 hy with rfl | hy
   ·exact mayR_ok' e
   ·exact mayLs_ok h y hy
theorem mayLF_true {l:List Fr} {n:Int} (h:mayLF l n=true):okFs l/\(l.length:Int)<=n:=by
 unfold mayLF at h
 cases e:mayLs mayRF l with
 | false=>rw [e] at h;cases h
 | true =>
  rw [e] at h
  exact ⟨mayLs_ok e,of_decide_eq_true h⟩
theorem mayLF_few {l:List Fr} {n:Nat} (h:mayLF l n=true) (hn:n<4294967296):fewR l:=by
 have:=(mayLF_true h).2
 show l.length<4294967296
 omega
theorem commG_def (f0:Pg1->Fr->Pg1) (f1:Pg1) (k:Fr):commG_G f0 f1 k=f0 f1 k:=rfl
theorem commG_eq (k:Fr):commG k=times1R gen1R k:=by unfold commG;exact commG_def _ _ _
theorem commH_def (f0:Pg2->Fr->Pg2) (f1:Pg2) (k:Fr):commH_G f0 f1 k=f0 f1 k:=rfl
theorem commH_eq (k:Fr):commH k=times2R gen2R k:=by unfold commH;exact commH_def _ _ _
theorem VR.one_mul (x:VR):1*x=x:=by grind
theorem at1_comm {k:Fr} (hk:k.ok):At1 (commG k) k.v:=by
 have:=at1_times at1_gen hk
 rw [VR.one_mul,<- commG_eq] at this
 exact this
theorem at2_comm {k:Fr} (hk:k.ok):At2 (commH k) k.v:=by
 obtain ⟨h1,h2⟩:=times2R_pt at2_gen.good k
 rw [commH_eq]
 refine ⟨h1,?_⟩
 rw [h2,at2_gen.pt,hm_one]
 unfold hm
 rw [Fr.v_nat hk]
theorem ofR_one:ofRF 1=oneFr:=rfl
theorem powK_v {x:Fr} (hx:x.ok) : ∀ n,(powK (ofRF 1) mulRF x n).ok/\(powK (ofRF 1) mulRF x n).v=x.v ^ n
 | 0=>by
  show (ofRF 1).ok/\(ofRF 1).v=x.v ^ 0
  rw [ofR_one,pow_zero',v_oneFr]
  exact ⟨oneFr_ok,rfl⟩
 | n+1=>by
  obtain ⟨h1,h2⟩:=powK_v hx n
  obtain ⟨m1,m2⟩:=mulR_v h1 hx
  rw [powK_succ]
  refine ⟨m1,?_⟩
  rw [m2,h2,pow_succ',CR.mul_comm]
theorem powsF_fst (x:Fr) (n:Nat):(powsF x n).1=powL (ofRF 1) commG mulRF x n:=by simp only [powsF,Int.toNat_natCast]
theorem powsF_snd (x:Fr) (n:Nat):(powsF x n).2=commH x:=by simp only [powsF]
theorem powsF_len (x:Fr) (n:Nat):(powsF x n).1.length=n:=by rw [powsF_fst,powL_len]
theorem getD_range {α:Type} (g:Nat->α) (d:α) {n i:Nat} (hi:i<n):((List.range n).map g).getD i d=g i:=by
 rw [List.getD_eq_getElem?_getD,List.getElem?_map,List.getElem?_range hi]
 rfl
theorem powsF_at {x:Fr} (hx:x.ok) (n:Nat) {i:Nat} (hi:i<n):At1 ((powsF x n).1.getD i pg10) (x.v ^ i):=by
 rw [powsF_fst]
 unfold powL
 rw [getD_range _ pg10 hi]
 obtain ⟨h1,h2⟩:=powK_v hx i
 have:=at1_comm h1
 rw [h2] at this
 exact this
theorem kCommit_G (F:List Fr->List Fr) (S:List Pg1->List Fr->Pg1) (p:List Pg1 × Pg2) (f:List Fr):(kCommit_T F S p f).outD (pg10,0)=cond (decide (((F f).length:Int) > (p.1.length:Int))) (pg10,8) (S p.1 (F f),0):=by
 unfold kCommit_T
 simp only [outD_br,outD_vc,outD_leaf,wholeFr,wholeG1]
 rfl
theorem kCommit_eq (p:List Pg1 × Pg2) (f:List Fr):kCommit p f=cond (decide (((cutL f).length:Int) > (p.1.length:Int))) (pg10,8) (sumG1 p.1 (cutL f),0):=kCommit_G _ _ p f
theorem cond_le {α:Type} {a b:Nat} (h:a<=b) (x y:α):cond (decide ((a:Int) > (b:Int))) x y=y:=by
 rw [decide_eq_false (by omega)]
 rfl
theorem kCommit_short {p:List Pg1 × Pg2} {f:List Fr} (h:(cutL f).length<=p.1.length):kCommit p f=(sumG1 p.1 (cutL f),0):=by rw [kCommit_eq,cond_le h]
theorem sum_val {t:Fr} (ht:t.ok) {n:Nat} {f:List Fr} (hf:okFs f) (hn:f.length<=n):At1 (sumG1 (powsF t n).1 f) (hor t.v (vL f)):=by
 have h:=at1_sum (ps:=(powsF t n).1) (ks:=f) (X:=fun i=>t.v ^ i) (fun i hi=>powsF_at ht n (by rw [powsF_len] at hi;exact hi)) (fun i hi=>okFs_get hf i)
 have e:sumN1 (powsF t n).1 f=f.length:=by
  unfold sumN1
  rw [powsF_len]
  exact Nat.min_eq_left hn
 rw [e,vdot_hor t.v f f.length (Nat.le_refl _),List.take_length] at h
 exact h
theorem kCommit_val {t:Fr} (ht:t.ok) {n:Nat} {f:List Fr} (hf:okFs f) (hn:(cutL f).length<=n):(kCommit (powsF t n) f).2=0/\At1 (kCommit (powsF t n) f).1 (hor t.v (vL f)):=by
 have h:=sum_val ht (cutL_ok hf) hn
 rw [cutL_hor] at h
 rw [kCommit_short (by rw [powsF_len];exact hn)]
 dsimp only
 exact ⟨rfl,h⟩
theorem kCommit_cut (p:List Pg1 × Pg2) {f g:List Fr} (h:cutL f=cutL g):kCommit p f=kCommit p g:=by rw [kCommit_eq,kCommit_eq,h]
theorem kOpen_G (F:List Fr->List Fr) (L:List Fr->Fr->List Fr × Fr) (C:List Pg1 × Pg2->List Fr->Pg1 × Int) (p:List Pg1 × Pg2) (f:List Fr) (z:Fr) (d:Fr × Pg1 × Int):(kOpen_T F L C p f z).outD d =
  cond (decide (((F f).length:Int) > (p.1.length:Int))) (frZ,pg10,8) (cond ((C p (L f z).1).2 != 0) (frZ,pg10,(C p (L f z).1).2) ((L f z).2,(C p (L f z).1).1,0)):=by
 unfold kOpen_T
 simp only [outD_br,outD_vc,outD_leaf,wholeFr,wholeG1]
 rfl
theorem kOpen_eq (p:List Pg1 × Pg2) (f:List Fr) (z:Fr):kOpen p f z =
  cond (decide (((cutL f).length:Int) > (p.1.length:Int))) (frZ,pg10,8) (cond ((kCommit p (linF f z).1).2 != 0) (frZ,pg10,(kCommit p (linF f z).1).2) ((linF f z).2,(kCommit p (linF f z).1).1,0)):=kOpen_G _ _ _ p f z _
theorem cond_zero {α β:Type} (x:β) (a b:α):cond ((x,(0:Int)).2 != 0) a b=b:=rfl
theorem kOpen_short {p:List Pg1 × Pg2} {f:List Fr} {z:Fr} (hz:z.ok) (h:(cutL f).length<=p.1.length):kOpen p f z=((linF f z).2,(kCommit p (linF f z).1).1,0):=by
 have hs:=linF_short f hz
 have hc:=cutL_le (linF f z).1
 rw [kOpen_eq,cond_le h,kCommit_short (by omega),cond_zero]
theorem kOpen_val {t:Fr} (ht:t.ok) {n:Nat} {f:List Fr} (hf:okFs f) {z:Fr} (hz:z.ok) (hn:(cutL f).length<=n) :
  (kOpen (powsF t n) f z).2.2=0/\(kOpen (powsF t n) f z).1.ok/\(kOpen (powsF t n) f z).1.v=hor z.v (vL f)/\At1 (kOpen (powsF t n) f z).2.1 (hor t.v (vL (linF f z).1))/\hor t.v (vL f)=hor t.v (vL (linF f z).1)*(t.v-z.v)+hor z.v (vL f):=by
 obtain ⟨h1,h2,h3,h4⟩:=linF_v hf hz t.v
 have hs:=linF_short f hz
 have hc:=cutL_le (linF f z).1
 rw [kOpen_short hz (by rw [powsF_len];exact hn)]
 exact ⟨rfl,h2,h3,(kCommit_val ht h1 (by omega)).2,h4⟩
theorem kOpen_cut (p:List Pg1 × Pg2) {f g:List Fr} {z:Fr} (hz:z.ok) (h:cutL f=cutL g):kOpen p f z=kOpen p g z:=by
 rw [kOpen_eq,kOpen_eq,linF_cut f hz,linF_cut g hz,h]
theorem kCheck_G (i1:Pg1->Bool) (i2:Pg2->Bool) (o1:Pg1) (oF:UInt64->Fr) (nF:Fr->Fr) (S:List Pg1->List Fr->Pg1) (o2:Pg2) (n1:Pg1->Pg1) (C:List Duo->Bool) (t:Pg2) (c:Pg1) (z y:Fr) (w:Pg1):(kCheck_T i1 i2 o1 oF nF S o2 n1 C t c z y w).outD false =
  (i1 c && (i1 w && (i2 t && C [⟨S [c,o1,w] [oF 1,nF y,z],o2⟩,⟨n1 w,t⟩]))):=by
 unfold kCheck_T
 simp only [outD_br,outD_vc,outD_leaf]
 cases i1 c <;> cases i1 w <;> cases i2 t <;> rfl
theorem kCheck_eq (t:Pg2) (c:Pg1) (z y:Fr) (w:Pg1):kCheck t c z y w=(inG1 c && (inG1 w && (inG2 t && prCheck [⟨sumG1 [c,oneG1,w] [ofPR 1,negPR y,z],oneG2⟩,⟨negG1 w,t⟩]))):=kCheck_G _ _ _ _ _ _ _ _ _ t c z y w
theorem at1_inG {p:Pg1} {x:VR} (h:At1 p x):inG1 p=true:=(in1_iff p).2 ⟨h.good,h.in1.sub⟩
theorem at2_inG {p:Pg2} {x:VR} (h:At2 p x):inG2 p=true:=(in2_iff p).2 ⟨h.good,h.in2.sub⟩
theorem at1_one:At1 oneG1 1:=⟨gen1_good,by rw [gm_one]⟩
theorem at2_one:At2 oneG2 1:=⟨gen2_good,by rw [hm_one]⟩
theorem sum3 {a b c:Pg1} {k l m:Fr} {A B C:VR} (ha:At1 a A) (hb:At1 b B) (hc:At1 c C) (hk:k.ok) (hl:l.ok) (hm:m.ok):At1 (sumG1 [a,b,c] [k,l,m]) (0+A*k.v+B*l.v+C*m.v):=by
 have h:=at1_sum (ps := [a,b,c]) (ks := [k,l,m]) (X:=fun i => [A,B,C].getD i 0) (fun i hi=>by
  match i,hi with
  | 0,_=>exact ha
  | 1,_=>exact hb
  | 2,_=>exact hc) (fun i hi=>by
  match i,hi with
  | 0,_=>exact hk
  | 1,_=>exact hl
  | 2,_=>exact hm)
 exact h
theorem VR.three (c y w z:VR):0+c*1+1 * -y+w*z=c-y+w*z:=by grind
theorem VR.move (c y w z t:VR):c-y+w*z=w*t <-> c-y=w*(t-z):=by
 constructor
 ·intro h
  grind
 ·intro h
  grind
theorem negPR_v {y:Fr} (hy:y.ok):(negPR y).ok/\(negPR y).v = -y.v:=by
 rw [negPR_eq]
 exact ⟨neg_okR hy,v_negR hy⟩
theorem ofPR_one:ofPR 1=oneFr:=rfl
theorem kCheck_val {t:Pg2} {c w:Pg1} {z y:Fr} {T C W:VR} (ht:At2 t T) (hc:At1 c C) (hw:At1 w W) (hz:z.ok) (hy:y.ok):kCheck t c z y w=true <-> C-y.v=W*(T-z.v):=by
 rw [kCheck_eq,at1_inG hc,at1_inG hw,at2_inG ht,Bool.true_and,Bool.true_and,Bool.true_and,ofPR_one]
 have hs:=sum3 hc at1_one hw oneFr_ok (negPR_v hy).1 hz
 rw [v_oneFr,(negPR_v hy).2,VR.three] at hs
 rw [check_val hs hw at2_one ht]
 exact VR.move _ _ _ _ _
end Go.Proofs.YtgpafcehehaiiaaGreat
set_option maxRecDepth 100000
namespace Go.Proofs.YtgpafcehehaiiaaGreat
open Go.RowKit
theorem fewP_of (x:Fr) {n:Nat} (h:n<4294967296):few (powsF x n).1:=by
 show (powsF x n).1.length<4294967296
 rw [powsF_len]
 exact h
def frN (n:Nat):Fr:=⟨UInt64.ofNat n,UInt64.ofNat 0,UInt64.ofNat 0,UInt64.ofNat 0⟩
theorem frN_ok {n:Nat} (h:n<18446744073709551616):(frN n).ok/\(frN n).nat=n:=by
 have e:(frN n).nat=n:=by
  show (UInt64.ofNat n).toNat+W64*((UInt64.ofNat 0).toNat+W64*((UInt64.ofNat 0).toNat+W64*(UInt64.ofNat 0).toNat))=n
  rw [UInt64.toNat_ofNat',show (UInt64.ofNat 0).toNat=0 from rfl,Nat.mul_zero,Nat.add_zero,Nat.mul_zero,Nat.add_zero,Nat.mul_zero,Nat.add_zero]
  exact Nat.mod_eq_of_lt h
 refine ⟨?_,e⟩
 unfold Fr.ok
 rw [e]
 exact Nat.lt_trans h (by decide +kernel)
theorem cond_and (a b:Bool):cond a b false=(a && b):=by cases a <;> rfl
theorem begun18_G (P:Fr->Int->List Pg1 × Pg2) (C:List Pg1 × Pg2->List Fr->Pg1 × Int) (O:List Pg1 × Pg2->List Fr->Fr->Fr × Pg1 × Int) (g:Fr->Pg1) (K:Pg2->Pg1->Fr->Fr->Pg1->Bool):(begun18_T P C O g K).outD false =
  ((C (P (frN 2) 3) [frN 1,frN 1]).2==0 && (pg1Eq (C (P (frN 2) 3) [frN 1,frN 1]).1 (g (frN 3)) && ((O (P (frN 2) 3) [frN 1,frN 1] (frN 5)).2.2==0 && (frEq (O (P (frN 2) 3) [frN 1,frN 1] (frN 5)).1 (frN 6) && K (P (frN 2) 3).2 (C (P (frN 2) 3) [frN 1,frN 1]).1 (frN 5) (O (P (frN 2) 3) [frN 1,frN 1] (frN 5)).1 (O (P (frN 2) 3) [frN 1,frN 1] (frN 5)).2.1)))):=by
 unfold begun18_T
 simp only [outD_br,outD_vc,outD_leaf,wholeFr,wholeG1,cond_and]
 rfl
theorem open_check {t:Fr} (ht:t.ok) {n:Nat} {f:List Fr} (hf:okFs f) {z y:Fr} (hz:z.ok) (hy:y.ok) (hn:(cutL f).length<=n) :
  kCheck (powsF t n).2 (kCommit (powsF t n) f).1 z y (kOpen (powsF t n) f z).2.1=true <-> y.v=hor z.v (vL f):=by
 obtain ⟨c1,c2⟩:=kCommit_val ht hf hn
 obtain ⟨o1,o2,o3,o4,o5⟩:=kOpen_val ht hf hz hn
 rw [powsF_snd,kCheck_val (at2_comm ht) c2 o4 hz hy,o5]
 generalize hor t.v (vL (linF f z).1)*(t.v-z.v)=a
 generalize hor z.v (vL f)=b
 generalize y.v=c
 constructor
 ·intro h
  grind
 ·intro h
  rw [h]
  grind
theorem okFs_two {a b:Fr} (ha:a.ok) (hb:b.ok):okFs [a,b]:=fun x hx=>by
 rcases List.mem_cons.1 hx with rfl | hx
 ·exact ha
 ·rcases List.mem_cons.1 hx with rfl | hx
  ·exact hb
  ·exact (List.not_mem_nil hx).elim
theorem hor_two (t a b:VR):hor t [a,b]=a+t*(b+t*0):=rfl
theorem v3:(frN 1).v+(frN 2).v*((frN 1).v+(frN 2).v*0)=(frN 3).v:=VR.ext (by decide +kernel)
theorem v6:(frN 1).v+(frN 5).v*((frN 1).v+(frN 5).v*0)=(frN 6).v:=VR.ext (by decide +kernel)
theorem begun18_true:begun18=true:=by
 have k1:=(frN_ok (n:=1) (by decide)).1
 have k2:=(frN_ok (n:=2) (by decide)).1
 have k3:=(frN_ok (n:=3) (by decide)).1
 have k5:=(frN_ok (n:=5) (by decide)).1
 have k6:=(frN_ok (n:=6) (by decide)).1
 have hf:=okFs_two k1 k1
 have hn:(cutL [frN 1,frN 1]).length<=3:=Nat.le_trans (cutL_le _) (by decide)
 obtain ⟨c1,c2⟩:=kCommit_val k2 (n:=3) hf hn
 obtain ⟨o1,o2,o3,o4,o5⟩:=kOpen_val k2 (n:=3) hf k5 hn
 rw [show vL [frN 1,frN 1] = [(frN 1).v,(frN 1).v] from rfl,hor_two,v3] at c2
 rw [show vL [frN 1,frN 1] = [(frN 1).v,(frN 1).v] from rfl,hor_two,v6] at o3
 have e1:=At1.eq c2 (at1_comm k3)
 have e2:=Fr.v_inj o2 k6 o3
 have hc:=(open_check k2 (n:=3) hf k5 o2 hn).2 (by rw [o3,show vL [frN 1,frN 1] = [(frN 1).v,(frN 1).v] from rfl,hor_two,v6])
 unfold begun18
 rw [begun18_G]
 rw [show ((3:Nat):Int)=3 from rfl] at *
 rw [c1,e1,o1,e2,(pg1Eq_iff _ _).2 rfl,(frEq_iff _ _).2 rfl]
 rw [e1,e2] at hc
 rw [hc]
 rfl
theorem kzgChecks_G (b:Bool) (M:List Fr->Int->Bool) (s a m:Fr->Fr->Fr) (H:Fr->Pg2) (g:Fr->Pg1) (K:Pg2->Pg1->Fr->Fr->Pg1->Bool) (tau c z y u:Fr) (fit:Bool):(kzgChecks_T b M s a m H g K tau c z y u fit).outD false =
  cond (!b) false (cond (!M [tau,c,z,y,u] 5) true (K (H tau) (g (cond fit (a y (m (s tau z) u)) c)) z y (g u)==frEq (s (cond fit (a y (m (s tau z) u)) c) y) (m (s tau z) u))):=by
 unfold kzgChecks_T
 simp only [outD_br,outD_vc,outD_leaf]
 cases fit <;> rfl
theorem kzgChecks_L {M:List Fr->Int->Bool} {s a m:Fr->Fr->Fr} {H:Fr->Pg2} {g:Fr->Pg1} {K:Pg2->Pg1->Fr->Fr->Pg1->Bool} {tau c z y u:Fr} {fit:Bool} (h:M [tau,c,z,y,u] 5=true->K (H tau) (g (cond fit (a y (m (s tau z) u)) c)) z y (g u)=frEq (s (cond fit (a y (m (s tau z) u)) c) y) (m (s tau z) u)):(kzgChecks_T true M s a m H g K tau c z y u fit).outD false=true:=by
 rw [kzgChecks_G]
 cases e:M [tau,c,z,y,u] 5 with
 | false=>rfl
 | true =>
  rw [h e]
  exact beq_self_eq_true _
theorem cond_okR {b:Bool} {x y:Fr} (hx:x.ok) (hy:y.ok):(cond b x y).ok:=by cases b <;> assumption
theorem kzgChecks_law (tau c z y u:Fr) (fit:Bool):kzgChecks tau c z y u fit=true:=by
 unfold kzgChecks
 rw [begun18_true]
 refine kzgChecks_L fun e => ?_
 have h:=(mayLF_true e).1
 have k1:=h tau (by simp)
 have k2:=h c (by simp)
 have k3:=h z (by simp)
 have k4:=h y (by simp)
 have k5:=h u (by simp)
 have s1:=sub_okR k1 k3
 have m1:=mul_okR (a:=subRF tau z) k5
 have hc:(cond fit (addRF y (mulRF (subRF tau z) u)) c).ok:=cond_okR (add_okR k4 m1) k2
 generalize cond fit (addRF y (mulRF (subRF tau z) u)) c=d at *
 have h1:=kCheck_val (at2_comm k1) (at1_comm hc) (at1_comm k5) k3 k4
 have h2:=frEq_v (sub_okR hc k4) m1
 rw [v_subR hc k4,v_mulR s1 k5,v_subR k1 k3] at h2
 rw [Bool.eq_iff_iff,h1,h2,CR.mul_comm]
theorem kzgChecks_ok (tau c z y u:Fr) (fit:Bool):(kzgChecks_T begun18 mayLF subRF addRF mulRF commH commG kCheck tau c z y u fit).full=true/\(kzgChecks_T begun18 mayLF subRF addRF mulRF commH commG kCheck tau c z y u fit).okAll:=by
 refine ⟨rfl,?_⟩
 unfold kzgChecks_T
 simp only [Tree.okAll,Pr.holds,implies_true,and_self]
theorem kzgHonest_G (b:Bool) (M:List Fr->Int->Bool) (P:Fr->Int->List Pg1 × Pg2) (C:List Pg1 × Pg2->List Fr->Pg1 × Int) (O:List Pg1 × Pg2->List Fr->Fr->Fr × Pg1 × Int) (a:Fr->Fr->Fr) (K:Pg2->Pg1->Fr->Fr->Pg1->Bool) (tau:Fr) (f:List Fr) (z more:Fr):(kzgHonest_T b M P C O a K tau f z more).outD false =
  cond (!b) false (cond (!M [tau,z,more] 3) true (cond (!M f 6) true ((C (P tau 6) f).2==0 && ((O (P tau 6) f z).2.2==0 && (K (P tau 6).2 (C (P tau 6) f).1 z (O (P tau 6) f z).1 (O (P tau 6) f z).2.1 && cond (frEq more frZ) true (!K (P tau 6).2 (C (P tau 6) f).1 z (a (O (P tau 6) f z).1 more) (O (P tau 6) f z).2.1)))))):=by
 unfold kzgHonest_T
 simp only [outD_br,outD_vc,outD_leaf,wholeFr,wholeG1,cond_and]
 rfl
theorem kzgHonest_law (tau:Fr) (f:List Fr) (z more:Fr):kzgHonest tau f z more=true:=by
 unfold kzgHonest
 rw [kzgHonest_G,begun18_true]
 cases e:mayLF [tau,z,more] 3 with
 | false=>rfl
 | true =>
  cases e2:mayLF f 6 with
  | false=>rfl
  | true =>
   have h:=(mayLF_true e).1
   have k1:=h tau (by simp)
   have k2:=h z (by simp)
   have k3:=h more (by simp)
   obtain ⟨hf,hl⟩:=mayLF_true e2
   have hn:(cutL f).length<=6:=Nat.le_trans (cutL_le _) (by omega)
   obtain ⟨c1,c2⟩:=kCommit_val k1 (n:=6) hf hn
   obtain ⟨o1,o2,o3,o4,o5⟩:=kOpen_val k1 (n:=6) hf k2 hn
   have hc:=(open_check k1 (n:=6) hf k2 o2 hn).2 o3
   have hd:=open_check k1 (n:=6) hf k2 (add_okR o2 k3) hn
   rw [v_addR o2 k3,o3] at hd
   rw [show ((6:Nat):Int)=6 from rfl] at *
   show ((kCommit (powsF tau 6) f).2==0 && ((kOpen (powsF tau 6) f z).2.2==0 && (kCheck (powsF tau 6).2 (kCommit (powsF tau 6) f).1 z (kOpen (powsF tau 6) f z).1 (kOpen (powsF tau 6) f z).2.1 && cond (frEq more frZ) true (!kCheck (powsF tau 6).2 (kCommit (powsF tau 6) f).1 z (addRF (kOpen (powsF tau 6) f z).1 more) (kOpen (powsF tau 6) f z).2.1))))=true
   rw [c1,o1,hc]
   cases e3:frEq more frZ with
   | true=>rfl
   | false =>
    have:kCheck (powsF tau 6).2 (kCommit (powsF tau 6) f).1 z (addRF (kOpen (powsF tau 6) f z).1 more) (kOpen (powsF tau 6) f z).2.1=false:=by
     rw [Bool.eq_false_iff]
     intro q
     have q:=hd.1 q
     have q1:more.v=frZ.v:=by
      rw [frZ_v]
      generalize hor z.v (vL f)=a at q
      generalize more.v=b at q
      grind
     rw [(frEq_v k3 frZ_ok).2 q1] at e3
     cases e3
    rw [this]
    rfl
theorem kzgHonest_ok (tau:Fr) (f:List Fr) (z more:Fr) (hf:f.length<topLen):(kzgHonest_T begun18 mayLF powsF kCommit kOpen addRF kCheck tau f z more).full=true/\(kzgHonest_T begun18 mayLF powsF kCommit kOpen addRF kCheck tau f z more).okAll:=by
 have hp:few (powsF tau 6).1:=fewP_of tau (n:=6) (by decide)
 refine ⟨rfl,fun _=>trivial,fun _=>⟨fun _=>trivial,fun _=>⟨vcAllFr hf,fun _=>trivial,fun h2 => ?_⟩⟩⟩
 rw [wholeFr] at h2
 have h3:fewR f:=mayLF_few (n:=6) (of_not_false h2) (by decide)
 refine ⟨⟨by decide,by decide⟩,⟨vcFewG hp,vcFew h3⟩,⟨vcFewG hp,vcFew h3⟩,?_⟩
 simp only [Tree.okAll,Pr.holds,implies_true,and_self]
theorem kzgOut_G (b:Bool) (o:UInt64->Pg1 × Bool) (i:Pg1->Bool) (M:Fr->Bool) (g:Pg1) (H:Fr->Pg2) (K:Pg2->Pg1->Fr->Fr->Pg1->Bool) (tau:Fr) (n:UInt64) (which:Bool):(kzgOut_T b o i M g H K tau n which).outD false =
  cond (!b) false (cond (!(o n).2) true (cond (i (o n).1) true (cond (!M tau) true (cond which (!K (H tau) (o n).1 (frN 1) (frN 2) g) (!K (H tau) g (frN 1) (frN 2) (o n).1))))):=by
 unfold kzgOut_T
 simp only [outD_br,outD_vc,outD_leaf]
 rfl
theorem kCheck_out1 {t:Pg2} {c w:Pg1} {z y:Fr} (h:inG1 c=false):kCheck t c z y w=false:=by rw [kCheck_eq,h,Bool.false_and]
theorem kCheck_out2 {t:Pg2} {c w:Pg1} {z y:Fr} (h:inG1 w=false):kCheck t c z y w=false:=by rw [kCheck_eq,h,Bool.false_and,Bool.and_false]
theorem kzgOut_L {o:UInt64->Pg1 × Bool} {i:Pg1->Bool} {M:Fr->Bool} {g:Pg1} {H:Fr->Pg2} {K:Pg2->Pg1->Fr->Fr->Pg1->Bool} {tau:Fr} {n:UInt64} {which:Bool} (h:(o n).2=true->i (o n).1=false->K (H tau) (o n).1 (frN 1) (frN 2) g=false/\K (H tau) g (frN 1) (frN 2) (o n).1=false):(kzgOut_T true o i M g H K tau n which).outD false=true:=by
 rw [kzgOut_G]
 cases e1:(o n).2 with
 | false=>rfl
 | true =>
  cases e2:i (o n).1 with
  | true=>rfl
  | false =>
   obtain ⟨h1,h2⟩:=h e1 e2
   rw [h1,h2]
   cases M tau <;> cases which <;> rfl
theorem kzgOut_law (tau:Fr) (n:UInt64) (which:Bool):kzgOut tau n which=true:=by
 unfold kzgOut
 rw [begun18_true]
 refine kzgOut_L fun e1 e2 => ?_
 have hi:inG1 (out8 n).1=false:=by
  rw [<- in1R_eq (out8_good e1)]
  exact e2
 exact ⟨kCheck_out1 hi,kCheck_out2 hi⟩
theorem kzgOut_ok (tau:Fr) (n:UInt64) (which:Bool):(kzgOut_T begun18 out8 in1R mayRF gen1R commH kCheck tau n which).full=true/\(kzgOut_T begun18 out8 in1R mayRF gen1R commH kCheck tau n which).okAll:=by
 refine ⟨rfl,?_⟩
 unfold kzgOut_T
 simp only [Tree.okAll,Pr.holds,implies_true,and_self]
end Go.Proofs.YtgpafcehehaiiaaGreat
set_option maxRecDepth 100000
namespace Go.Proofs.YtgpafcehehaiiaaGreat
open Go.RowKit
theorem kzgChecks_gives (tau c z y u:Fr) (fit:Bool) (w:World):Gives Tryz.prog 5 ((KdL.cons (kRow Fr) (KdL.cons (kRow Fr) (KdL.cons (kRow Fr) (KdL.cons (kRow Fr) (KdL.cons (kRow Fr) (KdL.cons kBool KdL.nil)))))).vals (tau,c,z,y,u,fit,())).toArray w kBool.rs.res true:=by
 have:=kzgChecks_gives' tau c z y u fit (kzgChecks_ok tau c z y u fit) w
 rw [kzgChecks_law] at this
 exact this
theorem kzgHonest_gives {w:World} {v0 v1 v2 v3:Value} {tau:Fr} {f:List Fr} {z more:Fr} (g0:(kRow Fr).arg.is w v0 tau) (g1:RwIs .fr w v1 f) (g2:(kRow Fr).arg.is w v2 z) (g3:(kRow Fr).arg.is w v3 more):Gives Tryz.prog 6 #[v0,v1,v2,v3] w kBool.rs.res true:=by
 have:=kzgHonest_gives' tau f z more g0 g1 g2 g3 (fun hf=>kzgHonest_ok tau f z more hf)
 rw [kzgHonest_law] at this
 exact this
theorem kzgOut_gives {w:World} {v0 v1 v2:Value} {tau:Fr} {n:UInt64} {which:Bool} (g0:(kRow Fr).arg.is w v0 tau) (g1:kU64.arg.is w v1 n) (g2:kBool.arg.is w v2 which):Gives Tryz.prog 8 #[v0,v1,v2] w kBool.rs.res true:=by
 have:=kzgOut_gives' kzgOut_ok g0 g1 g2
 rw [kzgOut_law] at this
 exact this
theorem kzgLinear_G (b:Bool) (M:List Fr->Int->Bool) (P:Fr->Int->List Pg1 × Pg2) (C:List Pg1 × Pg2->List Fr->Pg1 × Int) (S:List Fr->Fr->List Fr) (A:List Fr->List Fr->List Fr) (p:Pg1->Pg1->Pg1) (t:Pg1->Fr->Pg1) (tau:Fr) (f m:List Fr) (k:Fr):(kzgLinear_T b M P C S A p t tau f m k).outD false =
  cond (!b) false (cond (!M [tau,k] 2) true (cond (!M f 6) true (cond (!M m 6) true ((C (P tau 6) (A f (S m k))).2==0 && pg1Eq (C (P tau 6) (A f (S m k))).1 (p (C (P tau 6) f).1 (t (C (P tau 6) m).1 k)))))):=by
 unfold kzgLinear_T
 simp only [outD_br,outD_vc,outD_leaf,wholeFr,wholeG1,cond_and]
 rfl
theorem kzgLinear_L {M:List Fr->Int->Bool} {P:Fr->Int->List Pg1 × Pg2} {C:List Pg1 × Pg2->List Fr->Pg1 × Int} {S:List Fr->Fr->List Fr} {A:List Fr->List Fr->List Fr} {p:Pg1->Pg1->Pg1} {t:Pg1->Fr->Pg1} {tau:Fr} {f m:List Fr} {k:Fr} (h:M [tau,k] 2=true->M f 6=true->M m 6=true->(C (P tau 6) (A f (S m k))).2=0/\(C (P tau 6) (A f (S m k))).1=p (C (P tau 6) f).1 (t (C (P tau 6) m).1 k)):(kzgLinear_T true M P C S A p t tau f m k).outD false=true:=by
 rw [kzgLinear_G]
 cases e:M [tau,k] 2 with
 | false=>rfl
 | true =>
  cases e2:M f 6 with
  | false=>rfl
  | true =>
   cases e3:M m 6 with
   | false=>rfl
   | true =>
    obtain ⟨h1,h2⟩:=h e e2 e3
    rw [h1,h2,(pg1Eq_iff _ _).2 rfl]
    rfl
theorem okFs_map {l:List Fr} {g:Fr->Fr} (h : ∀ x ∈ l,(g x).ok):okFs (l.map g):=fun y hy=>by
 obtain ⟨x,hx,rfl⟩:=List.mem_map.1 hy
 exact h x hx
theorem vL_scale {l:List Fr} (h:okFs l) {k:Fr} (hk:k.ok):vL (l.map fun a=>mulRF a k)=(vL l).map fun a=>a*k.v:=by
 unfold vL
 rw [List.map_map,List.map_map]
 refine List.map_congr_left fun x hx => ?_
 exact v_mulR (h x hx) hk
theorem rScale_v {l:List Fr} (h:okFs l) {k:Fr} (hk:k.ok) (t:VR):okFs (rScaleF l k)/\hor t (vL (rScaleF l k))=hor t (vL l)*k.v:=by
 unfold rScaleF
 refine ⟨cutL_ok (okFs_map fun x _=>mul_okR hk),?_⟩
 rw [cutL_hor,vL_scale h hk,hor_scale]
theorem hor_atL (t:VR) (l:List Fr) {n:Nat} (h:l.length<=n):hor t ((List.range n).map fun i=>(atL l i).v)=hor t (vL l):=by
 have e:((List.range n).map fun i=>(atL l i).v)=vL l++List.replicate (n-l.length) 0:=by
  refine List.ext_getElem? fun i => ?_
  rw [List.getElem?_map]
  by_cases hi:i<n
  ·rw [List.getElem?_range hi]
   show some (atL l i).v=_
   unfold atL vL
   by_cases h1:i<l.length
   ·rw [List.getElem?_append_left (by rw [List.length_map];exact h1),List.getElem?_map,List.getD_eq_getElem?_getD,List.getElem?_eq_getElem h1]
    rfl
   ·rw [List.getElem?_append_right (by rw [List.length_map];omega),List.length_map,List.getElem?_replicate,if_pos (by omega),List.getD_eq_getElem?_getD,List.getElem?_eq_none (by omega)]
    exact congrArg some frZ_v
  ·rw [List.getElem?_eq_none (by rw [List.length_range];omega),List.getElem?_eq_none (by unfold vL;rw [List.length_append,List.length_map,List.length_replicate];omega)]
   rfl
 rw [e,hor_pad]
theorem rAdd_v {l m:List Fr} (hl:okFs l) (hm:okFs m) (t:VR):okFs (rAddF l m)/\hor t (vL (rAddF l m))=hor t (vL l)+hor t (vL m):=by
 unfold rAddF
 have h1 : ∀ i,(atL l i).ok:=fun i=>okFs_get hl i
 have h2 : ∀ i,(atL m i).ok:=fun i=>okFs_get hm i
 refine ⟨cutL_ok (fun y hy => ?_),?_⟩
 ·unfold addTo at hy
  obtain ⟨i,_,rfl⟩:=List.mem_map.1 hy
  exact add_okR (h1 i) (h2 i)
 ·rw [cutL_hor]
  have e:vL (addTo l m (maxN l m))=(List.range (maxN l m)).map fun i=>(atL l i).v+(atL m i).v:=by
   unfold vL addTo
   rw [List.map_map]
   refine List.map_congr_left fun i _ => ?_
   exact v_addR (h1 i) (h2 i)
  rw [e,hor_add,hor_atL t l (n:=maxN l m) (Nat.le_max_right _ _),hor_atL t m (n:=maxN l m) (Nat.le_max_left _ _)]
theorem rScale_len (l:List Fr) (k:Fr):(rScaleF l k).length<=l.length:=by
 unfold rScaleF
 refine Nat.le_trans (cutL_le _) ?_
 rw [List.length_map]
 exact Nat.le_refl _
theorem rAdd_len (l m:List Fr):(rAddF l m).length<=maxN l m:=by
 unfold rAddF
 refine Nat.le_trans (cutL_le _) ?_
 rw [addTo_len]
 exact Nat.le_refl _
theorem kzgLinear_law (tau:Fr) (f m:List Fr) (k:Fr):kzgLinear tau f m k=true:=by
 unfold kzgLinear
 rw [begun18_true]
 refine kzgLinear_L fun e1 e2 e3 => ?_
 have h:=(mayLF_true e1).1
 have k1:=h tau (by simp)
 have k2:=h k (by simp)
 obtain ⟨hf,lf⟩:=mayLF_true e2
 obtain ⟨hm,lm⟩:=mayLF_true e3
 obtain ⟨s1,s2⟩:=rScale_v hm k2 tau.v
 obtain ⟨a1,a2⟩:=rAdd_v hf s1 tau.v
 have l1:f.length<=6:=by omega
 have l2:m.length<=6:=by omega
 have l3:(rAddF f (rScaleF m k)).length<=6:=Nat.le_trans (rAdd_len _ _) (Nat.max_le.2 ⟨Nat.le_trans (rScale_len _ _) l2,l1⟩)
 obtain ⟨c1,c2⟩:=kCommit_val k1 (n:=6) hf (Nat.le_trans (cutL_le _) l1)
 obtain ⟨d1,d2⟩:=kCommit_val k1 (n:=6) hm (Nat.le_trans (cutL_le _) l2)
 obtain ⟨b1,b2⟩:=kCommit_val k1 (n:=6) a1 (Nat.le_trans (cutL_le _) l3)
 rw [a2,s2] at b2
 exact ⟨b1,At1.eq b2 (at1_plus c2 (at1_times d2 k2))⟩
theorem kzgLinear_ok (tau:Fr) (f m:List Fr) (k:Fr) (hf:f.length<topLen) (hm:m.length<topLen):(kzgLinear_T begun18 mayLF powsF kCommit rScaleF rAddF plus1R times1R tau f m k).full=true/\(kzgLinear_T begun18 mayLF powsF kCommit rScaleF rAddF plus1R times1R tau f m k).okAll:=by
 have hp:few (powsF tau 6).1:=fewP_of tau (n:=6) (by decide)
 refine ⟨rfl,fun _=>trivial,fun _=>⟨fun _=>trivial,fun _=>⟨vcAllFr hf,fun _=>trivial,fun h2=>⟨vcAllFr hm,fun _=>trivial,fun h3 => ?_⟩⟩⟩⟩
 rw [wholeFr] at h2 h3
 have f1:fewR f:=mayLF_few (n:=6) (of_not_false h2) (by decide)
 have f2:fewR m:=mayLF_few (n:=6) (of_not_false h3) (by decide)
 have f3:fewR (rScaleF m k):=Nat.lt_of_le_of_lt (rScale_len m k) f2
 have f4:fewR (rAddF f (rScaleF m k)):=Nat.lt_of_le_of_lt (rAdd_len _ _) (Nat.max_lt.2 ⟨f3,f1⟩)
 refine ⟨⟨by decide,by decide⟩,⟨vcFewG hp,vcFew f1⟩,⟨vcFewG hp,vcFew f2⟩,vcFew f2,?_⟩
 rw [wholeFr f,wholeFr m,wholeFr (rScaleF m k),wholeFr (rAddF f (rScaleF m k))]
 refine ⟨⟨vcFew' f1,vcFew' f3⟩,⟨vcFewG hp,vcFew' f4⟩,?_⟩
 simp only [Tree.okAll,Pr.holds,implies_true,and_self]
theorem kzgLinear_gives {w:World} {v0 v1 v2 v3:Value} {tau:Fr} {f m:List Fr} {k:Fr} (g0:(kRow Fr).arg.is w v0 tau) (g1:RwIs .fr w v1 f) (g2:RwIs .fr w v2 m) (g3:(kRow Fr).arg.is w v3 k):Gives Tryz.prog 7 #[v0,v1,v2,v3] w kBool.rs.res true:=by
 have:=kzgLinear_gives' tau f m k g0 g1 g2 g3 (fun hf hm=>kzgLinear_ok tau f m k hf hm)
 rw [kzgLinear_law] at this
 exact this
end Go.Proofs.YtgpafcehehaiiaaGreat
set_option maxRecDepth 100000
namespace Go.Proofs.YtgpafcehehaiiaaGreat
open Go.RowKit
def padM (n:UInt8):Nat:=(((n % UInt8.ofNat 30).toNat:Nat):Int).toNat
def padL (f:List Fr) (m:Nat):List Fr:=List.take (0+f.length+m) (List.drop 0 (List.take (0+f.length) (List.drop 0 ([]++List.take f.length (List.drop 0 f)))++List.replicate m ⟨0,0,0,0⟩))
theorem padX (f:List Fr):List.take (mulNn (0+f.length) (4 / 4)) (List.drop 0 ([]++List.take (mulNn f.length (4 / 4)) (List.drop 0 f)))=f:=by
 show List.take (0+f.length) (List.drop 0 ([]++List.take f.length (List.drop 0 f)))=f
 rw [List.nil_append,wholeFr,Nat.zero_add,wholeFr]
theorem padL_eq (f:List Fr) (m:Nat):padL f m=f++List.replicate m frZ:=by
 unfold padL
 rw [List.nil_append,wholeFr,Nat.zero_add,wholeFr,List.drop_zero,List.take_of_length_le (by rw [List.length_append,List.length_replicate];exact Nat.le_refl _)]
 rfl
def padsG (C:List Pg1 × Pg2->List Fr->Pg1 × Int) (O:List Pg1 × Pg2->List Fr->Fr->Fr × Pg1 × Int) (p:List Pg1 × Pg2) (f g:List Fr) (z:Fr):Bool :=
 ((C p f).2==0 && ((C p g).2==0 && ((O p f z).2.2==0 && ((O p g z).2.2==0 && (pg1Eq (C p f).1 (C p g).1 && (frEq (O p f z).1 (O p g z).1 && pg1Eq (O p f z).2.1 (O p g z).2.1))))))
theorem kzgPads_G (b:Bool) (M:List Fr->Int->Bool) (P:Fr->Int->List Pg1 × Pg2) (C:List Pg1 × Pg2->List Fr->Pg1 × Int) (O:List Pg1 × Pg2->List Fr->Fr->Fr × Pg1 × Int) (tau:Fr) (f:List Fr) (z:Fr) (n:UInt8):(kzgPads_T b M P C O tau f z n).outD false =
  cond (!b) false (cond (!M [tau,z] 2) true (cond (!M (List.take f.length (List.drop 0 f)) 5) true (padsG C O (List.take (P tau 5).1.length (List.drop 0 (P tau 5).1),(P tau 5).2) (List.take f.length (List.drop 0 f)) (padL f (padM n)) z))):=by
 unfold kzgPads_T
 simp only [outD_br,outD_vc,outD_leaf,cond_and]
 rfl
theorem padsG_true {C:List Pg1 × Pg2->List Fr->Pg1 × Int} {O:List Pg1 × Pg2->List Fr->Fr->Fr × Pg1 × Int} {p:List Pg1 × Pg2} {f g:List Fr} {z:Fr} (h1:C p g=C p f) (h2:O p g z=O p f z) (h3:(C p f).2=0) (h4:(O p f z).2.2=0):padsG C O p f g z=true:=by
 unfold padsG
 rw [h1,h2,h3,h4,(pg1Eq_iff _ _).2 rfl,(frEq_iff _ _).2 rfl,(pg1Eq_iff _ _).2 rfl]
 rfl
theorem kzgPads_law (tau:Fr) (f:List Fr) (z:Fr) (n:UInt8):kzgPads tau f z n=true:=by
 unfold kzgPads
 rw [kzgPads_G,begun18_true,wholeFr,wholeG1,padL_eq]
 cases e:mayLF [tau,z] 2 with
 | false=>rfl
 | true =>
  cases e2:mayLF f 5 with
  | false=>rfl
  | true =>
   have h:=(mayLF_true e).1
   have k1:=h tau (by simp)
   have k2:=h z (by simp)
   obtain ⟨hf,hl⟩:=mayLF_true e2
   have hn:(cutL f).length<=5:=Nat.le_trans (cutL_le _) (by omega)
   have hc:cutL (f++List.replicate (padM n) frZ)=cutL f:=cutL_zeros f (padM n)
   have c:=(kCommit_val k1 (n:=5) hf hn).1
   have o:=(kOpen_val k1 (n:=5) hf k2 hn).1
   rw [show ((5:Nat):Int)=5 from rfl] at c o
   show padsG kCommit kOpen ((powsF tau 5).1,(powsF tau 5).2) f (f++List.replicate (padM n) frZ) z=true
   generalize powsF tau 5=p at c o ⊢
   obtain ⟨p1,p2⟩:=p
   exact padsG_true (kCommit_cut _ hc) (kOpen_cut _ k2 hc) c o
theorem padC1 {f:List Fr} (h:f.length<=5):(0+f.length*4<=(rowsC RK.fr f).length/\0=0)/\0+f.length<=9223372036854775807/\(0+f.length)*32<=140737488355328:=by
 refine ⟨⟨?_,rfl⟩,by omega,by omega⟩
 rw [rowsC_len]
 show 0+f.length*4<=f.length*4
 omega
theorem padC2 {f:List Fr} (h:f.length<=5) {m:Nat} (hm:m<30):(0+(0+f.length)*4<=(rowsC RK.fr ([]++List.take (mulNn f.length (4 / 4)) (List.drop 0 f))).length/\0=0)/\0<=((m:Nat):Int)/\0+f.length+((m:Nat):Int).toNat<=9223372036854775807/\(0+f.length+((m:Nat):Int).toNat)*32<=140737488355328:=by
 rw [Int.toNat_natCast]
 refine ⟨⟨?_,rfl⟩,Int.natCast_nonneg _,by omega,by omega⟩
 rw [rowsC_len]
 show 0+(0+f.length)*4<=([]++List.take f.length (List.drop 0 f)).length*4
 rw [List.nil_append,wholeFr]
 omega
theorem padC3 {f:List Fr} (h:f.length<=5) {m:Nat} (hm:m<30):(0+(0+f.length+((m:Nat):Int).toNat)*4<=(rowsC RK.fr (List.take (mulNn (0+f.length) (4 / 4)) (List.drop 0 ([]++List.take (mulNn f.length (4 / 4)) (List.drop 0 f)))++List.replicate ((m:Nat):Int).toNat (⟨0,0,0,0⟩:Fr))).length/\0 % 4=0/\0+f.length+((m:Nat):Int).toNat<1125899906842624/\0*4=0/\4=4)/\fewR (List.take (0+f.length+((m:Nat):Int).toNat) (List.drop (0 / 4) (List.take (mulNn (0+f.length) (4 / 4)) (List.drop 0 ([]++List.take (mulNn f.length (4 / 4)) (List.drop 0 f)))++List.replicate ((m:Nat):Int).toNat (⟨0,0,0,0⟩:Fr)))):=by
 rw [Int.toNat_natCast,padX]
 refine ⟨⟨?_,rfl,by omega,rfl,rfl⟩,?_⟩
 ·rw [rowsC_len,List.length_append,List.length_replicate]
  show 0+(0+f.length+m)*4<=(f.length+m)*4
  omega
 ·show List.length _<4294967296
  rw [List.length_take]
  omega
theorem kzgPads_ok (tau:Fr) (f:List Fr) (z:Fr) (n:UInt8) (hf:f.length<topLen):(kzgPads_T begun18 mayLF powsF kCommit kOpen tau f z n).full=true/\(kzgPads_T begun18 mayLF powsF kCommit kOpen tau f z n).okAll:=by
 have hp:few (powsF tau 5).1:=fewP_of tau (n:=5) (by decide)
 refine ⟨rfl,fun _=>trivial,fun _=>⟨fun _=>trivial,fun _=>⟨vcAllFr hf,fun _=>trivial,fun h2 => ?_⟩⟩⟩
 rw [wholeFr] at h2
 have h3:fewR f:=mayLF_few (n:=5) (of_not_false h2) (by decide)
 have h4:f.length<=5:=by
  have:=(mayLF_true (of_not_false h2)).2
  omega
 have hm:(n % UInt8.ofNat 30).toNat<30:=by
  rw [UInt8.toNat_mod]
  exact Nat.mod_lt _ (by decide)
 refine ⟨⟨by decide,by decide⟩,padC1 h4,padC2 h4 hm,⟨vcFewG hp,vcFew h3⟩,⟨vcFewG hp,padC3 h4 hm⟩,⟨vcFewG hp,vcFew h3⟩,⟨vcFewG hp,padC3 h4 hm⟩,?_⟩
 simp only [Tree.okAll,Pr.holds,implies_true,and_self]
theorem kzgPads_gives {w:World} {v0 v1 v2 v3:Value} {tau:Fr} {f:List Fr} {z:Fr} {n:UInt8} (g0:(kRow Fr).arg.is w v0 tau) (g1:RwIs .fr w v1 f) (g2:(kRow Fr).arg.is w v2 z) (g3:kU8.arg.is w v3 n):Gives Tryz.prog 9 #[v0,v1,v2,v3] w kBool.rs.res true:=by
 have:=kzgPads_gives' tau f z n g0 g1 g2 g3 (fun hf=>kzgPads_ok tau f z n hf)
 rw [kzgPads_law] at this
 exact this
end Go.Proofs.YtgpafcehehaiiaaGreat