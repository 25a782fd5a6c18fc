/- Texts of the proof, joined. -/
import Derived.Test.YtibfppbffdedoaaZM5
set_option linter.unusedSectionVars false
set_option linter.unusedSimpArgs false
set_option linter.unusedVariables false
namespace Go.Proofs.Ytibfppbffdedoaa
open Go.RowKit
section
def Ad (pl:Sp1->Sp1->Sp1) (s:Sp1):Nat->Sp1
 | 0=>eS
 | i+1=>pl (Ad pl s i) s
def iP (pl:Sp1->Sp1->Sp1) (s:Sp1):Tab .sp1:=⟨gn (Ad pl s),rfl⟩
theorem G7 (pl:Sp1->Sp1->Sp1) (s:Sp1):ag (En [(59,K2 ks1.arg ks1.arg ks1.rs.res pl)]) (aa (Tab .sp1)).rs 300 Try.f156 [.one (ks1.av s)] = .leaf (some (iP pl s)):=by kernel_rfl
theorem Ac:CallOk Try.prog 156 (K1 ks1.arg (aa (Tab .sp1)).rs.res (iP aN)) :=
 P1 (E:=En [(59,K2 ks1.arg ks1.arg ks1.rs.res aN)]) (aw (.cons ud .nil)) Try.func156 (ae Try.func156 (by kernel_rfl) (by kernel_rfl)) 300 ks1 (aa (Tab .sp1)).rs (iP aN) (fun s=>G7 aN s) (fun s=>Tree.sat_leaf rfl)
noncomputable abbrev sum1C:List Code:=flat (dx Try.f108)
noncomputable abbrev Gq (k:Nat):Code:=aG Try.f108 k
def mI (lf:Pg1->Sp1) (tb:Sp1->Tab .sp1) (tw:Sp1->Sp1) (pl:Sp1->Sp1->Sp1) (ly:Sp1->Pg1):eO := [(60,K1 kg1.arg ks1.rs.res lf),(156,K1 ks1.arg (aa (Tab .sp1)).rs.res tb),(117,K1 ks1.arg ks1.rs.res tw),(59,K2 ks1.arg ks1.arg ks1.rs.res pl),(58,K1 ks1.arg kg1.rs.res ly)]
def kO:List Cell:=dS 12 ++ [.ff]
theorem Ai (T:eO) (ps:List Pg1) (ks:List Fr):dw (En T) 100 ((flat (ad Try.f108)).take 1) (af Try.f108 [rwV .g1 0 ps,rwV .fr 1 ks] [bh .g1 ps,bh .fr ks]) [0,1,4] [0,1,2] = .leaf (ax 67 [(0,rwV .g1 0 ps),(1,rwV .fr 1 ks),(4,cn 2)] [bh .g1 ps,bh .fr ks,own 30 kO]):=by kernel_rfl
theorem Af (lf:Pg1->Sp1) (tb:Sp1->Tab .sp1) (tw:Sp1->Sp1) (pl:Sp1->Sp1->Sp1) (ly:Sp1->Pg1) (ps:List Pg1) (ks:List Fr):letI za':=(if (↑ks.length:Int)<(↑ps.length:Int) then (↑ks.length:Int) else (↑ps.length:Int));letI zb':=ac RK.g1 ps;letI zc':=za'.toNat-0;letI zd':=(↑ks.length:Int);letI ze':=(↑ps.length:Int);stageG (En (mI lf tb tw pl ly)) 300 (sum1C.take 3) (ax 67 [(0,rwV .g1 0 ps),(1,rwV .fr 1 ks),(4,cn 2)] [bh .g1 ps,bh .fr ks,own 30 kO]) [0,1,4,5,6,19,20,21] [0,1,2] [(0,.as),(1,.as),(4,.as),(5,.int),(6,.nilE 3 288),(19,.slc),(20,.int),(21,.int)] [.as,.as,.as] [(149,.rowsM .sp1 15)]=(.vc (0+ps.length*13<=zb'.length/\0<13) (.vc (0+ks.length*4<=(ac RK.fr ks).length/\0<4) (.vc ((0<=if zd'<ze' then zd' else ze')/\0<=za'.toNat/\za'.toNat<=ps.length/\0+ps.length*13<=zb'.length/\0<13/\(0=0 \/ 0<za'.toNat)/\0=0/\13=13) (.vc (0+zc'*13<=zb'.length/\0<13) (.leaf (ax 67 [(0,.one (.c (.slc 0 0 (ps.length) 13 (.of 0) false))),(1,.one (.c (.slc 1 0 (ks.length) 4 (.of 0) false))),(4,.one (.c (.ptr 2 0))),(5,.one (.c (.int .i64 za'))),(6,.one (.c (.slc 3 0 0 288 (.of 0) false))),(19,.one (.c (.slc 0 0 zc' 13 (.of 0) false))),(20,.one (.c (.int .i64 ((↑zc':Int))))),(21,.one (.c (.int .i64 0)))] [.live ⟨false,0,13,(.rows .g1 (ps:List Pg1)),false⟩,.live ⟨false,0,4,(.rows .fr (ks:List Fr)),false⟩,.live ⟨true,30,0,(.row [(.lit .u64 0),(.lit .u64 0),(.lit .u64 0),(.lit .u64 0),(.lit .u64 0),(.lit .u64 0),(.lit .u64 0),(.lit .u64 0),(.lit .u64 0),(.lit .u64 0),(.lit .u64 0),(.lit .u64 0),.ff]),false⟩,.live ⟨true,149,288,(.rows .sp1 ([]:List Sp1)),false⟩])))))):=by kernel_rfl
def vY (l:List Sp1):HE := .live ⟨true,149,288,.rows .sp1 l,false⟩
def o6 (ps:List Pg1) (ks:List Fr) (n z:Int) (c:Nat) (tl:List Sp1):St:=ax 67 [(0,rwV .g1 0 ps),(1,rwV .fr 1 ks),(4,cn 2),(5,vI n),(6,.one (.c (.slc 3 0 c 288 (.of 0) false))),(19,.one (.c (.slc 0 0 n.toNat 13 (.of 0) false))),(20,vI n),(21,vI z)] [bh .g1 ps,bh .fr ks,own 30 kO,vY tl]
theorem xl (lf:Pg1->Sp1) (tb:Sp1->Tab .sp1) (tw:Sp1->Sp1) (pl:Sp1->Sp1->Sp1) (ly:Sp1->Pg1) (ps:List Pg1) (ks:List Fr) (n z:Int) (c:Nat) (tl:List Sp1):letI za':=tb (lf (ps.getD (0+z.toNat) iT));roundP (En (mI lf tb tw pl ly)) 300 (Gq 0) (o6 ps ks n z c tl) (fo [0,1,4,5,6,19,20,21] [0,1,2] [6])=(.br (decide (z<n)) (.vc ((0<=z/\z<(↑n.toNat:Int))/\0+n.toNat*13<=(ac RK.g1 ps).length/\0<13/\0=0) (.vc (0+z.toNat<ps.length) (.vc ((0+c*288<=(ac RK.sp1 tl).length/\0=0)/\c+1<=9223372036854775807/\(c+1)*2304<=140737488355328) (.leaf ((.normal,ax 67 [(0,.one (.c (.slc 0 0 (ps.length) 13 (.of 0) false))),(1,.one (.c (.slc 1 0 (ks.length) 4 (.of 0) false))),(4,.one (.c (.ptr 2 0))),(5,.one (.c (.int .i64 (n)))),(6,.one (.c (.slc 3 0 (c+1) 288 (.of 0) false))),(19,.one (.c (.slc 0 0 (n.toNat) 13 (.of 0) false))),(20,.one (.c (.int .i64 (n)))),(21,.one (.c (.int .i64 (IntKind.i64.wrap (z+1)))))] [.live ⟨false,0,13,(.rows .g1 (ps:List Pg1)),false⟩,.live ⟨false,0,4,(.rows .fr (ks:List Fr)),false⟩,.live ⟨true,30,0,(.row [(.lit .u64 0),(.lit .u64 0),(.lit .u64 0),(.lit .u64 0),(.lit .u64 0),(.lit .u64 0),(.lit .u64 0),(.lit .u64 0),(.lit .u64 0),(.lit .u64 0),(.lit .u64 0),(.lit .u64 0),.ff]),false⟩,.live ⟨true,149,288,(.rows .sp1 (List.take (iV c (288 / 18)) (List.drop 0 tl) ++ [za'.xs.getD 0 { x:=fp0,y:=fp0,z:=fp0 },za'.xs.getD 1 { x:=fp0,y:=fp0,z:=fp0 },za'.xs.getD 2 { x:=fp0,y:=fp0,z:=fp0 },za'.xs.getD 3 { x:=fp0,y:=fp0,z:=fp0 },za'.xs.getD 4 { x:=fp0,y:=fp0,z:=fp0 },za'.xs.getD 5 { x:=fp0,y:=fp0,z:=fp0 },za'.xs.getD 6 { x:=fp0,y:=fp0,z:=fp0 },za'.xs.getD 7 { x:=fp0,y:=fp0,z:=fp0 },za'.xs.getD 8 { x:=fp0,y:=fp0,z:=fp0 },za'.xs.getD 9 { x:=fp0,y:=fp0,z:=fp0 },za'.xs.getD 10 { x:=fp0,y:=fp0,z:=fp0 },za'.xs.getD 11 { x:=fp0,y:=fp0,z:=fp0 },za'.xs.getD 12 { x:=fp0,y:=fp0,z:=fp0 },za'.xs.getD 13 { x:=fp0,y:=fp0,z:=fp0 },za'.xs.getD 14 { x:=fp0,y:=fp0,z:=fp0 },za'.xs.getD 15 { x:=fp0,y:=fp0,z:=fp0 }]:List Sp1)),false⟩])))))) (.leaf ((.exit 0,ax 67 [(0,.one (.c (.slc 0 0 (ps.length) 13 (.of 0) false))),(1,.one (.c (.slc 1 0 (ks.length) 4 (.of 0) false))),(4,.one (.c (.ptr 2 0))),(5,.one (.c (.int .i64 (n)))),(6,.one (.c (.slc 3 0 (c) 288 (.of 0) false))),(19,.one (.c (.slc 0 0 (n.toNat) 13 (.of 0) false))),(20,.one (.c (.int .i64 (n)))),(21,.one (.c (.int .i64 (z))))] [.live ⟨false,0,13,(.rows .g1 (ps:List Pg1)),false⟩,.live ⟨false,0,4,(.rows .fr (ks:List Fr)),false⟩,.live ⟨true,30,0,(.row [(.lit .u64 0),(.lit .u64 0),(.lit .u64 0),(.lit .u64 0),(.lit .u64 0),(.lit .u64 0),(.lit .u64 0),(.lit .u64 0),(.lit .u64 0),(.lit .u64 0),(.lit .u64 0),(.lit .u64 0),.ff]),false⟩,.live ⟨true,149,288,(.rows .sp1 (tl:List Sp1)),false⟩])))):=by kernel_rfl
theorem Ha (lf:Pg1->Sp1) (tb:Sp1->Tab .sp1) (tw:Sp1->Sp1) (pl:Sp1->Sp1->Sp1) (ly:Sp1->Pg1) (ps:List Pg1) (ks:List Fr) (n z:Int) (c:Nat) (tl:List Sp1):letI za':Fp := { l0:=UInt64.ofNat 0,l1:=UInt64.ofNat 0,l2:=UInt64.ofNat 0,l3:=UInt64.ofNat 0,l4:=UInt64.ofNat 0,l5:=UInt64.ofNat 0 };stageG (En (mI lf tb tw pl ly)) 300 ((sum1C.drop 4).take 3) (o6 ps ks n z c tl) [1,4,5,6,9,10] [1,2,3,4] [(1,.as),(4,.as),(5,.as),(6,.as),(9,.as),(10,.int)] [.as,.as,.as,.one .sp1] []=(.leaf (ax 67 [(1,.one (.c (.slc 0 0 (ks.length) 4 (.of 0) false))),(4,.one (.c (.ptr 1 0))),(5,.one (.c (.int .i64 (n)))),(6,.one (.c (.slc 2 0 (c) 288 (.of 0) false))),(9,.one (.c (.ptr 3 0))),(10,.one (.c (.int .i64 256)))] [.live ⟨false,0,4,(.rows .fr (ks:List Fr)),false⟩,.live ⟨true,30,0,(.row [(.lit .u64 0),(.lit .u64 0),(.lit .u64 0),(.lit .u64 0),(.lit .u64 0),(.lit .u64 0),(.lit .u64 0),(.lit .u64 0),(.lit .u64 0),(.lit .u64 0),(.lit .u64 0),(.lit .u64 0),.ff]),false⟩,.live ⟨true,149,288,(.rows .sp1 (tl:List Sp1)),false⟩,.live ⟨true,80,0,(.row (Row.cs ({ x:=za',y:=za',z:=za' }:Sp1))),false⟩])):=by kernel_rfl
def mu (ks:List Fr) (n z:Int) (c:Nat) (tl:List Sp1) (o:Sp1):St:=ax 67 [(1,rwV .fr 0 ks),(4,cn 1),(5,vI n),(6,.one (.c (.slc 2 0 c 288 (.of 0) false))),(9,cn 3),(10,vI z)] [bh .fr ks,own 30 kO,vY tl,own 80 (Row.cs o)]
theorem G9 (lf:Pg1->Sp1) (tb:Sp1->Tab .sp1) (tw:Sp1->Sp1) (pl:Sp1->Sp1->Sp1) (ly:Sp1->Pg1) (ks:List Fr) (n z:Int) (c:Nat) (tl:List Sp1) (o:Sp1):CS (En (mI lf tb tw pl ly)) kg1.rs.out 300 Try.f108 ((sum1C.drop 7).take 6) (mu ks n z c tl o) [1,4,5,6,9,10,43,44] [0,1,2,3] [(1,.as),(4,.as),(5,.as),(6,.as),(9,.as),(10,.as),(43,.as),(44,.int)] [.as,.as,.as,.as] []=(.br (decide (IntKind.i64.wrap (z-4)<0)) (.leaf (.inr (some ((ly o,.t))))) (.leaf (.inl (ax 67 [(1,.one (.c (.slc 0 0 (ks.length) 4 (.of 0) false))),(4,.one (.c (.ptr 1 0))),(5,.one (.c (.int .i64 (n)))),(6,.one (.c (.slc 2 0 (c) 288 (.of 0) false))),(9,.one (.c (.ptr 3 0))),(10,.one (.c (.int .i64 (IntKind.i64.wrap (z-4))))),(43,.one (.c (.int .i64 (n)))),(44,.one (.c (.int .i64 0)))] [.live ⟨false,0,4,(.rows .fr (ks:List Fr)),false⟩,.live ⟨true,30,0,(.row [(.lit .u64 0),(.lit .u64 0),(.lit .u64 0),(.lit .u64 0),(.lit .u64 0),(.lit .u64 0),(.lit .u64 0),(.lit .u64 0),(.lit .u64 0),(.lit .u64 0),(.lit .u64 0),(.lit .u64 0),.ff]),false⟩,.live ⟨true,149,288,(.rows .sp1 (tl:List Sp1)),false⟩,.live ⟨true,80,0,(.row (Row.cs (tw (tw (tw (tw o))):Sp1))),false⟩])))):=by kernel_rfl
def mr (ks:List Fr) (n z j:Int) (c:Nat) (tl:List Sp1) (o:Sp1):St:=ax 67 [(1,rwV .fr 0 ks),(4,cn 1),(5,vI n),(6,.one (.c (.slc 2 0 c 288 (.of 0) false))),(9,cn 3),(10,vI z),(43,vI n),(44,vI j)] [bh .fr ks,own 30 kO,vY tl,own 80 (Row.cs o)]
def GM (k:Fr) (z:Int):UInt64:=fu (k.limb (IntKind.i64.wrap (z.tdiv 64)).toNat) ((UInt64.ofNat (z.tmod 64 % 18446744073709551616).toNat).toNat:Int) % UInt64.ofNat 16
def fr0:Fr:=⟨0,0,0,0⟩
def sp0:Sp1:=⟨fp0,fp0,fp0⟩
theorem xk (lf:Pg1->Sp1) (tb:Sp1->Tab .sp1) (tw:Sp1->Sp1) (pl:Sp1->Sp1->Sp1) (ly:Sp1->Pg1) (ks:List Fr) (n z j:Int) (c:Nat) (tl:List Sp1) (o:Sp1):letI za':=((GM (ks.getD (0+j.toNat) fr0) z).toNat:Int);aM (En (mI lf tb tw pl ly)) 300 (Gq 2) (mr ks n z j c tl o) (same [1,4,5,6,9,10,43,44] [0,1,2,3]) = .br (decide (j<n)) (.vc ((0<=j/\j<(ks.length:Int))/\0+ks.length*4<=(ac RK.fr ks).length/\0<4/\0=0) (.vc ((0<=IntKind.i64.wrap (z.tdiv 64)/\IntKind.i64.wrap (z.tdiv 64)<4)/\(0+j.toNat)*4<(ac RK.fr ks).length) (.vc (0+j.toNat<ks.length/\(IntKind.i64.wrap (z.tdiv 64)).toNat<4) (.vc ((0<=j/\j<(c:Int))/\0+c*288<=(ac RK.sp1 tl).length/\0<288/\0=0) (.vc ((0<=za'/\za'<16)/\(0+j.toNat)*288<(ac RK.sp1 tl).length) (.vc ((0+j.toNat)*16+za'.toNat<tl.length) (.leaf (.normal,mr ks n z (IntKind.i64.wrap (j+1)) c tl (pl o (tl.getD ((0+j.toNat)*16+za'.toNat) sp0)))))))))) (.leaf (.exit 4,mr ks n z j c tl o)):=by kernel_rfl
theorem D5 (T:eO) (ks:List Fr) (n z j:Int) (c:Nat) (tl:List Sp1) (o:Sp1):oQ (En T) kg1.rs.out 100 Try.f108 [.goto 0] (mr ks n z j c tl o) [1,4,5,6,9,10] [0,1,2,3] = .leaf (.inl (.goto 0,mu ks n z c tl o)):=by kernel_rfl
theorem NF (k:Fr) (z:Int):(GM k z).toNat<16:=by
 unfold GM
 rw [UInt64.toNat_mod]
 exact Nat.mod_lt _ (by decide)
def iA (pl:Sp1->Sp1->Sp1) (tl:List Sp1) (ks:List Fr) (z:Int):Nat->Sp1->Sp1
 | 0,o=>o
 | j+1,o=>pl (iA pl tl ks z j o) (tl.getD (j*16+(GM (ks.getD j fr0) z).toNat) sp0)
def jh (tw:Sp1->Sp1) (pl:Sp1->Sp1->Sp1) (tl:List Sp1) (ks:List Fr) (n:Nat):Nat->Sp1->Sp1
 | 0,o=>o
 | m+1,o=>jh tw pl tl ks n m (iA pl tl ks ((4*m:Nat):Int) n (tw (tw (tw (tw o)))))
def cS (f:Pg1->Tab .sp1) (ps:List Pg1):List Sp1:=ps.flatMap fun p=>(f p).xs
theorem nR (f:Pg1->Tab .sp1) : ∀ ps:List Pg1,(cS f ps).length=ps.length*16
 | []=>rfl
 | p :: ps=>by
  have:=nR f ps
  have h16:(f p).xs.length=16:=(f p).len
  simp only [cS,List.flatMap_cons,List.length_append,List.length_cons] at this ⊢
  rw [this,h16]
  omega
theorem Ab (f:Pg1->Tab .sp1) (ps:List Pg1) (p:Pg1):cS f (ps ++ [p])=cS f ps++gn (fun i=>(f p).xs.getD i sp0):=by
 have:=Tab.cells (f p)
 simp only [cS,List.flatMap_append,List.flatMap_cons,List.flatMap_nil,List.append_nil]
 exact congrArg _ this.symm
abbrev aA (ps:List Pg1) (ks:List Fr):Nat:=min ks.length ps.length
def fQ (p:Pg1):Tab .sp1:=iP aN (dG p)
def dT (ps:List Pg1) (ks:List Fr):Pg1:=dj (jh bj aN (cS fQ (ps.take (aA ps ks))) ks (aA ps ks) 64 eS)
theorem Bi (a b:Nat):(if (a:Int)<(b:Int) then (a:Int) else (b:Int))=((min a b:Nat):Int):=by
 split <;> omega
theorem GT (c:Nat) (tl:List Sp1) (h:tl.length=c*16):List.take (iV c 16) (List.drop 0 tl)=tl:=by
 rw [gL,List.drop_zero,<- h,List.take_length]
theorem r9:EnvOk (En (mI dG (iP aN) bj aN dj)):=aw (.cons Fq (.cons Ac (.cons qa (.cons ud (.cons Fv .nil)))))
theorem Aj (ps:List Pg1) (ks:List Fr) (hp:ps.length<aD) (hk:ks.length<aD) (hs:aA ps ks<4294967296) :
  DoesL (En (mI dG (iP aN) bj aN dj)) (sum1C.take 7) (ax 67 [(0,rwV .g1 0 ps),(1,rwV .fr 1 ks),(4,cn 2)] [bh .g1 ps,bh .fr ks,own 30 kO])
   fun r=>match r.1 with | .normal=>r.2=mu ks (aA ps ks:Nat) 256 (aA ps ks) (cS fQ (ps.take (aA ps ks))) eS | _=>False:=by
 have hE:=r9
 have hN:aA ps ks<=ps.length:=Nat.min_le_right _ _
 refine DoesL.stageG hE 300 3 _ _ _ _ _ ((congrArg (fun c=>stageG _ 300 c _ _ _ _ _ _) (List.take_take (i:=3) (j:=7) (l:=sum1C))).trans (Af dG (iP aN) bj aN dj ps ks)) ?_
 rw [Bi]
 refine ⟨⟨by rw [eK];omega,by decide⟩,fun _=>⟨⟨by rw [aE];omega,by decide⟩,fun _=>⟨⟨by omega,by omega,by rw [Int.toNat_natCast];exact hN,by rw [eK];omega,by decide,.inl rfl,rfl,rfl⟩,fun _=>⟨⟨by rw [eK,Int.toNat_natCast,Nat.sub_zero];have:=Nat.mul_le_mul_right 13 hN;omega,by decide⟩,?_⟩⟩⟩⟩
 intro _
 show DoesL _ _ (o6 ps ks ((aA ps ks:Nat):Int) ((0:Nat):Int) 0 (cS fQ (ps.take 0))) _
 refine DoesL.blockLoop (B:=Gq 0) (rest:=(sum1C.take 7).drop 4) (id:=0) (by kernel_rfl) (fun j : { j:Nat // j<=aA ps ks }=>o6 ps ks ((aA ps ks:Nat):Int) (j.1:Int) j.1 (cS fQ (ps.take j.1))) (fun j=>aA ps ks-j.1) ⟨0,Nat.zero_le _⟩ fun j => ?_
 obtain ⟨j,hj⟩:=j
 show Does _ _ (o6 ps ks ((aA ps ks:Nat):Int) (j:Int) j (cS fQ (ps.take j))) _
 have hlen:(cS fQ (ps.take j)).length=j*16:=by rw [nR,List.length_take,Nat.min_eq_left (by omega)]
 refine Does.roundP hE 300 _ (xl dG (iP aN) bj aN dj ps ks ((aA ps ks:Nat):Int) (j:Int) j (cS fQ (ps.take j))) ⟨fun h => ?_,fun h => ?_⟩
 ·simp only [decide_eq_true_eq] at h
  have hj1:j<aA ps ks:=by omega
  refine ⟨⟨⟨by omega,by rw [Int.toNat_natCast];omega⟩,by rw [eK,Int.toNat_natCast];have:=Nat.mul_le_mul_right 13 hN;omega,by decide,rfl⟩,fun _=>⟨by rw [Int.toNat_natCast];omega,fun _=>⟨⟨⟨by rw [nW,hlen];omega,rfl⟩,by omega,by omega⟩,fun _ => ?_⟩⟩⟩
  refine ⟨⟨j+1,hj1⟩,by show aA ps ks-(j+1)<aA ps ks-j;omega,?_⟩
  rw [kg j (by omega),Int.toNat_natCast,Nat.zero_add,GT j _ hlen]
  have e1:ps.take (j+1)=ps.take j ++ [ps.getD j iT]:=by
   rw [List.take_add_one,List.getD]
   rw [List.getElem?_eq_getElem (by omega)]
   rfl
  have e2:cS fQ (ps.take (j+1))=cS fQ (ps.take j)++gn (fun i=>(fQ (ps.getD j iT)).xs.getD i sp0):=by rw [e1,Ab]
  show _=o6 ps ks ((aA ps ks:Nat):Int) ((j+1:Nat):Int) (j+1) (cS fQ (ps.take (j+1)))
  rw [e2]
  rfl
 ·simp only [decide_eq_false_iff_not] at h
  obtain rfl:j=aA ps ks:=by omega
  refine ⟨rfl,?_⟩
  refine DoesL.stageG hE 300 3 _ _ _ _ _ ((congrArg (fun c=>stageG _ 300 c _ _ _ _ _ _) (show List.take 3 (List.drop 4 (List.take 7 sum1C))=(sum1C.drop 4).take 3 by kernel_rfl)).trans (Ha dG (iP aN) bj aN dj ps ks ((aA ps ks:Nat):Int) ((aA ps ks:Nat):Int) (aA ps ks) (cS fQ (ps.take (aA ps ks))))) ?_
  exact ⟨_,Wk.refl _,rfl⟩
abbrev xb (ps:List Pg1) (ks:List Fr):Type := { q:Nat × Sp1 // q.1<=64/\dj (jh bj aN (cS fQ (ps.take (aA ps ks))) ks (aA ps ks) q.1 q.2)=dT ps ks }
def Ak (ps:List Pg1) (ks:List Fr) (q:xb ps ks):St:=mu ks (aA ps ks:Nat) ((4*q.1.1:Nat):Int) (aA ps ks) (cS fQ (ps.take (aA ps ks))) q.1.2
def vJ (ps:List Pg1) (ks:List Fr):xb ps ks:=⟨(64,eS),Nat.le_refl _,by unfold dT;rfl⟩
theorem Ah (ps:List Pg1) (ks:List Fr):Ak ps ks (vJ ps ks)=mu ks (aA ps ks:Nat) 256 (aA ps ks) (cS fQ (ps.take (aA ps ks))) eS:=by
 unfold Ak
 have e:((4*(vJ ps ks).1.1:Nat):Int)=256:=by
  show ((4*64:Nat):Int)=256
  decide
 rw [e]
 rfl
theorem Ag (ps:List Pg1) (ks:List Fr) (hp:ps.length<aD) (hk:ks.length<aD) (hf:ps.length<4294967296) (m:Nat) (hm:m<=64) (o:Sp1) (tl:List Sp1) (htl:cS fQ (ps.take (aA ps ks))=tl)
  (hq:dj (jh bj aN tl ks (aA ps ks) m o)=dT ps ks) :
  DoesL (En (mI dG (iP aN) bj aN dj)) (sum1C.drop 7) (mu ks (aA ps ks:Nat) ((4*m:Nat):Int) (aA ps ks) tl o)
   (Within (En (mI dG (iP aN) bj aN dj)) Try.f108 kg1.rs.out (dT ps ks) (Wn fun r=>match r.1 with | .goto l'=>l'=0 /\ ∃ j:xb ps ks,j.1.1<m/\r.2=Ak ps ks j | _=>False)):=by
  have hE:=r9
  have hN:aA ps ks<=ps.length:=Nat.min_le_right _ _
  have hK:aA ps ks<=ks.length:=Nat.min_le_left _ _
  have hlen:tl.length=aA ps ks*16:=by rw [<- htl,nR,List.length_take,Nat.min_eq_left hN]
  refine DoesL.segW hE 300 6 _ _ _ _ _ (G9 dG (iP aN) bj aN dj ks ((aA ps ks:Nat):Int) ((4*m:Nat):Int) (aA ps ks) tl o) ?_
  rw [IntWalk.i64_in (((4*m:Nat):Int)-4) (by omega)]
  refine ⟨fun h => ?_,fun h => ?_⟩
  ·simp only [decide_eq_true_eq] at h
   obtain rfl:m=0:=by omega
   exact ⟨.t,by rw [<- hq];rfl,trivial⟩
  ·simp only [decide_eq_false_iff_not] at h
   obtain ⟨m',rfl⟩ : ∃ m',m=m'+1:=⟨m-1,by omega⟩
   rw [show ((4*(m'+1):Nat):Int)-4=((4*m':Nat):Int) by omega]
   simp only [jh] at hq
   obtain ⟨o4,ho4⟩ : ∃ o4,bj (bj (bj (bj o)))=o4:=⟨_,rfl⟩
   rw [ho4] at hq ⊢
   show DoesL _ _ (mr ks (aA ps ks:Nat) ((4*m':Nat):Int) ((0:Nat):Int) (aA ps ks) tl (iA aN tl ks ((4*m':Nat):Int) 0 o4)) _
   refine DoesL.blockLoop (B:=Gq 2) (rest := [.goto 0]) (id:=4) (by kernel_rfl) (fun j : { j:Nat // j<=aA ps ks }=>mr ks (aA ps ks:Nat) ((4*m':Nat):Int) (j.1:Int) (aA ps ks) tl (iA aN tl ks ((4*m':Nat):Int) j.1 o4)) (fun j=>aA ps ks-j.1) ⟨0,Nat.zero_le _⟩ fun j => ?_
   obtain ⟨j,hj⟩:=j
   show Does _ _ (mr ks (aA ps ks:Nat) ((4*m':Nat):Int) (j:Int) (aA ps ks) tl (iA aN tl ks ((4*m':Nat):Int) j o4)) _
   refine Does.round hE 300 _ (xk dG (iP aN) bj aN dj ks ((aA ps ks:Nat):Int) ((4*m':Nat):Int) (j:Int) (aA ps ks) tl (iA aN tl ks ((4*m':Nat):Int) j o4)) ⟨fun h => ?_,fun h => ?_⟩
   ·simp only [decide_eq_true_eq] at h
    have hj1:j<aA ps ks:=by omega
    have hw:IntKind.i64.wrap (((4*m':Nat):Int).tdiv 64)=((4*m' / 64:Nat):Int):=by
     rw [show (((4*m':Nat):Int).tdiv 64)=((4*m' / 64:Nat):Int) from rfl]
     exact IntWalk.i64_in _ (by omega)
    have hd:=NF (ks.getD j fr0) ((4*m':Nat):Int)
    rw [show (0+((j:Nat):Int).toNat)=j by omega,Int.toNat_natCast]
    refine ⟨⟨⟨by omega,by omega⟩,by rw [aE];omega,by decide,rfl⟩,fun _=>⟨⟨⟨by rw [hw];omega,by rw [hw];omega⟩,by rw [aE];omega⟩,fun _=>⟨⟨by omega,by rw [hw,Int.toNat_natCast];omega⟩,fun _=>⟨⟨⟨by omega,by omega⟩,by rw [nW,hlen];omega,by decide,rfl⟩,fun _ => ?_⟩⟩⟩⟩
    refine ⟨⟨⟨by omega,?_⟩,by rw [nW,hlen];omega⟩,fun _=>⟨?_,fun _ => ?_⟩⟩
    ·omega
    ·rw [hlen]
     omega
    ·refine ⟨⟨j+1,hj1⟩,by show aA ps ks-(j+1)<aA ps ks-j;omega,?_⟩
     rw [kg j (by omega)]
     rw [iA]
   ·simp only [decide_eq_false_iff_not] at h
    obtain rfl:j=aA ps ks:=by omega
    refine ⟨rfl,?_⟩
    refine DoesL.mono (DoesL.iter (o:=kg1.rs.out) (fn:=Try.f108) (x:=dT ps ks) (R:=fun r=>match r.1 with | .goto l'=>l'=0 /\ ∃ j:xb ps ks,j.1.1<m'+1/\r.2=Ak ps ks j | _=>False) hE 100 _ _ (D5 _ ks _ _ _ _ _ _) ?_) fun r hr=>hr
    refine ⟨rfl,⟨(m',iA aN tl ks ((4*m':Nat):Int) (aA ps ks) o4),by show m'<=64;omega,by rw [htl];exact hq⟩,Nat.lt_succ_self _,?_⟩
    exact congrArg (fun t=>mu ks (aA ps ks:Nat) ((4*m':Nat):Int) (aA ps ks) t (iA aN tl ks ((4*m':Nat):Int) (aA ps ks) o4)) htl.symm
abbrev few (xs:List Pg1):Prop:=xs.length<4294967296
theorem yu:CallOk Try.prog 108 (K2 ((aB .g1).such few) (aB .fr) kg1.rs.res dT) :=
 Go.Proofs.Ytibfppbffdedoaa.G2 (E:=En (mI dG (iP aN) bj aN dj)) Try.func108 (c:=ad Try.f108) (by kernel_rfl) (ae Try.func108 (by kernel_rfl) (by kernel_rfl)) ((cI .g1).such few) (cI .fr) kg1.rs.out dT fun ps ks hp hk=>by
  have hE:=r9
  obtain ⟨hp,hf⟩:=hp
  have hp:ps.length<aD:=hp
  have hk:ks.length<aD:=hk
  have hf:ps.length<4294967296:=hf
  have hN:aA ps ks<=ps.length:=Nat.min_le_right _ _
  have hK:aA ps ks<=ks.length:=Nat.min_le_left _ _
  refine DoesL.stageE hE 100 1 [0,1,4] [0,1,2] (Ai _ ps ks) ?_
  refine DoesL.scopeFnG (body:=dx Try.f108) (rest:=B3 Try.f108) (tail := []) (l:=0) hE (by kernel_rfl) (by kernel_rfl) 7 (by kernel_rfl) (Ak ps ks) (fun q=>q.1.1)
   (vJ ps ks) (by rw [Ah];exact Aj ps ks hp hk (by omega)) fun q => ?_
  obtain ⟨⟨m,o⟩,hm,hq⟩:=q
  exact Ag ps ks hp hk hf m hm o _ rfl hq
end
section
abbrev kp6:Kd Fp6:=aa Fp6
noncomputable abbrev tmRC:List Code:=flat (ad Try.f67)
noncomputable abbrev RL:Code:=aG Try.f67 0
abbrev RF (F:Fp6->Fp6->Bool->Fp6):ay:=K3 kp6.arg kp6.arg kBool.arg kp6.rs.res F
noncomputable abbrev LX (o:Fp6) (aF:Fp6->Fp6->Bool->Fp6) (bF:List UInt64->Nat->Bool):Env:=En [(124,K0 kp6.rs.res o),(62,RF aF),(127,R0 bF)]
def Gp (e:List UInt64) (b:Bool) (p x:Fp6) (z:Int):St:=ax 30 [(1,inV 0 e),(2,.one (kBool.av b)),(3,cn 1),(6,cn 2),(7,cn 3),(8,vI z)] [iu eU64 e,own 85 (Row.cs p),own 85 (dS 36),own 85 (Row.cs x)]
theorem D0 (o:Fp6) (aF:Fp6->Fp6->Bool->Fp6) (bF:List UInt64->Nat->Bool) (p:Fp6) (e:List UInt64) (b:Bool):dw (LX o aF bF) 100 (tmRC.take 3) (af Try.f67 [.one (kp6.av p),iL.av 0 e,.one (kBool.av b)] [iu eU64 e]) [1,2,3,6,7,8] [0,1,2,3]=(.vc (0+e.length*1<=(List.map EK.u64.cell e).length/\0<1) (.leaf (ax 30 [(1,.one (.c (.slc 0 0 (e.length) 1 (.of 0) false))),(2,.one (.c (.bool (b)))),(3,.one (.c (.ptr 1 0))),(6,.one (.c (.ptr 2 0))),(7,.one (.c (.ptr 3 0))),(8,.one (.c (.int .i64 (IntKind.i64.wrap (IntKind.i64.wrap (64*(↑e.length:Int))-1)))))] [.live ⟨false,0,1,(.elts .u64 (e:List UInt64)),false⟩,.live ⟨true,85,0,(.row (Row.cs (p:Fp6))),false⟩,.live ⟨true,85,0,(.row [(.lit .u64 0),(.lit .u64 0),(.lit .u64 0),(.lit .u64 0),(.lit .u64 0),(.lit .u64 0),(.lit .u64 0),(.lit .u64 0),(.lit .u64 0),(.lit .u64 0),(.lit .u64 0),(.lit .u64 0),(.lit .u64 0),(.lit .u64 0),(.lit .u64 0),(.lit .u64 0),(.lit .u64 0),(.lit .u64 0),(.lit .u64 0),(.lit .u64 0),(.lit .u64 0),(.lit .u64 0),(.lit .u64 0),(.lit .u64 0),(.lit .u64 0),(.lit .u64 0),(.lit .u64 0),(.lit .u64 0),(.lit .u64 0),(.lit .u64 0),(.lit .u64 0),(.lit .u64 0),(.lit .u64 0),(.lit .u64 0),(.lit .u64 0),(.lit .u64 0)]),false⟩,.live ⟨true,85,0,(.row (Row.cs (o:Fp6))),false⟩]))):=by kernel_rfl
theorem D1 (o:Fp6) (aF:Fp6->Fp6->Bool->Fp6) (bF:List UInt64->Nat->Bool) (p x:Fp6) (e:List UInt64) (b:Bool) (z:Int):letI za':=List.take e.length (List.drop 0 e);letI zb':=(Row.cs (p:Fp6));letI zc':=IntKind.i64.wrap (z-1);aM (LX o aF bF) 100 RL (Gp e b p x z) (same [1,2,3,6,7,8] [0,1,2,3])=(.br (decide (z >= 0)) (.vc (((0+e.length<=e.length/\e.length<1125899906842624/\0=0/\1=1)/\0<=z)/\LA za' z.toNat) (.br (bF za' z.toNat) (.leaf ((.normal,ax 30 [(1,.one (.c (.slc 0 0 (e.length) 1 (.of 0) false))),(2,.one (.c (.bool (b)))),(3,.one (.c (.ptr 1 0))),(6,.one (.c (.ptr 2 0))),(7,.one (.c (.ptr 3 0))),(8,.one (.c (.int .i64 zc')))] [.live ⟨false,0,1,(.elts .u64 (e:List UInt64)),false⟩,.live ⟨true,85,0,(.row zb'),false⟩,.live ⟨true,85,0,(.row [(.lit .u64 0),(.lit .u64 0),(.lit .u64 0),(.lit .u64 0),(.lit .u64 0),(.lit .u64 0),(.lit .u64 0),(.lit .u64 0),(.lit .u64 0),(.lit .u64 0),(.lit .u64 0),(.lit .u64 0),(.lit .u64 0),(.lit .u64 0),(.lit .u64 0),(.lit .u64 0),(.lit .u64 0),(.lit .u64 0),(.lit .u64 0),(.lit .u64 0),(.lit .u64 0),(.lit .u64 0),(.lit .u64 0),(.lit .u64 0),(.lit .u64 0),(.lit .u64 0),(.lit .u64 0),(.lit .u64 0),(.lit .u64 0),(.lit .u64 0),(.lit .u64 0),(.lit .u64 0),(.lit .u64 0),(.lit .u64 0),(.lit .u64 0),(.lit .u64 0)]),false⟩,.live ⟨true,85,0,(.row (Row.cs (aF (aF x x b) p b:Fp6))),false⟩]))) (.leaf ((.normal,ax 30 [(1,.one (.c (.slc 0 0 (e.length) 1 (.of 0) false))),(2,.one (.c (.bool (b)))),(3,.one (.c (.ptr 1 0))),(6,.one (.c (.ptr 2 0))),(7,.one (.c (.ptr 3 0))),(8,.one (.c (.int .i64 zc')))] [.live ⟨false,0,1,(.elts .u64 (e:List UInt64)),false⟩,.live ⟨true,85,0,(.row zb'),false⟩,.live ⟨true,85,0,(.row [(.lit .u64 0),(.lit .u64 0),(.lit .u64 0),(.lit .u64 0),(.lit .u64 0),(.lit .u64 0),(.lit .u64 0),(.lit .u64 0),(.lit .u64 0),(.lit .u64 0),(.lit .u64 0),(.lit .u64 0),(.lit .u64 0),(.lit .u64 0),(.lit .u64 0),(.lit .u64 0),(.lit .u64 0),(.lit .u64 0),(.lit .u64 0),(.lit .u64 0),(.lit .u64 0),(.lit .u64 0),(.lit .u64 0),(.lit .u64 0),(.lit .u64 0),(.lit .u64 0),(.lit .u64 0),(.lit .u64 0),(.lit .u64 0),(.lit .u64 0),(.lit .u64 0),(.lit .u64 0),(.lit .u64 0),(.lit .u64 0),(.lit .u64 0),(.lit .u64 0)]),false⟩,.live ⟨true,85,0,(.row (Row.cs (aF x x b:Fp6))),false⟩]))))) (.leaf ((.exit 0,ax 30 [(1,.one (.c (.slc 0 0 (e.length) 1 (.of 0) false))),(2,.one (.c (.bool (b)))),(3,.one (.c (.ptr 1 0))),(6,.one (.c (.ptr 2 0))),(7,.one (.c (.ptr 3 0))),(8,.one (.c (.int .i64 (z))))] [.live ⟨false,0,1,(.elts .u64 (e:List UInt64)),false⟩,.live ⟨true,85,0,(.row zb'),false⟩,.live ⟨true,85,0,(.row [(.lit .u64 0),(.lit .u64 0),(.lit .u64 0),(.lit .u64 0),(.lit .u64 0),(.lit .u64 0),(.lit .u64 0),(.lit .u64 0),(.lit .u64 0),(.lit .u64 0),(.lit .u64 0),(.lit .u64 0),(.lit .u64 0),(.lit .u64 0),(.lit .u64 0),(.lit .u64 0),(.lit .u64 0),(.lit .u64 0),(.lit .u64 0),(.lit .u64 0),(.lit .u64 0),(.lit .u64 0),(.lit .u64 0),(.lit .u64 0),(.lit .u64 0),(.lit .u64 0),(.lit .u64 0),(.lit .u64 0),(.lit .u64 0),(.lit .u64 0),(.lit .u64 0),(.lit .u64 0),(.lit .u64 0),(.lit .u64 0),(.lit .u64 0),(.lit .u64 0)]),false⟩,.live ⟨true,85,0,(.row (Row.cs (x:Fp6))),false⟩])))):=by kernel_rfl
theorem LW (o:Fp6) (aF:Fp6->Fp6->Bool->Fp6) (bF:List UInt64->Nat->Bool) (p x:Fp6) (e:List UInt64) (b:Bool) (z:Int):cD (LX o aF bF) kp6.rs.out 100 Try.f67 (tmRC.drop 4) (Gp e b p x z) =
 (.leaf (some ((x,.t)))):=by kernel_rfl
def kT (p:Fp6) (e:List UInt64) (b:Bool):Fp6:=zB (fun x=>fz x x b) (fun x=>fz x p b) e (64*e.length) io
abbrev RA (p:Fp6) (e:List UInt64) (b:Bool):Type := { q:Int × Fp6 // -1<=q.1/\q.1<64*e.length/\zB (fun x=>fz x x b) (fun x=>fz x p b) e (q.1+1).toNat q.2=kT p e b }
theorem D2:CallOk Try.prog 67 (K3 kp6.arg aL kBool.arg kp6.rs.res kT) :=
 Go.Proofs.Ytibfppbffdedoaa.G3 (E:=LX io fz dd) Try.func67 (c:=ad Try.f67) (by kernel_rfl) (ae Try.func67 (by kernel_rfl) (by kernel_rfl)) kp6.inp iL kBool.inp kp6.rs.out kT fun p e b _ he _=>by
  have hE:EnvOk (LX io fz dd):=aw (.cons y8 (.cons zN (.cons NQ .nil)))
  have he:e.length<1125899906842624:=he
  refine DoesL.stageE hE 100 3 _ _ (D0 io fz dd p e b) ⟨lI e,fun _ => ?_⟩
  have hw:IntKind.i64.wrap (IntKind.i64.wrap (64*(e.length:Int))-1)=64*(e.length:Int)-1:=by rw [IntWalk.i64_in (64*(e.length:Int)) (by omega),IntWalk.i64_in _ (by omega)]
  rw [hw]
  refine DoesL.blockLoop (B:=RL) (rest:=tmRC.drop 4) (id:=0) (by kernel_rfl) (fun q:RA p e b=>Gp e b p q.1.2 q.1.1) (fun q=>(q.1.1+1).toNat) ⟨(64*(e.length:Int)-1,io),by simp only [];omega,by simp only [];omega,by
   simp only []
   rw [show (64*(e.length:Int)-1+1).toNat=64*e.length by omega]
   simp only [kT]⟩ fun q => ?_
  obtain ⟨⟨z,x⟩,h0,h1,h2⟩:=q
  simp only [] at h0 h1 h2
  show Does _ _ (Gp e b p x z) _
  refine Does.round hE 100 _ (D1 io fz dd p x e b z) ⟨fun h => ?_,fun h => ?_⟩
  ·simp only [ge_iff_le,decide_eq_true_eq] at h
   obtain ⟨n,rfl⟩ : ∃ n:Nat,z=(n:Int):=⟨z.toNat,by omega⟩
   rw [ki n (by omega),whole,Int.toNat_natCast]
   rw [show ((n:Int)+1).toNat=n+1 by omega] at h2
   simp only [zB] at h2
   refine ⟨⟨⟨Kl he,by omega⟩,by show n<64*e.length;omega⟩,fun _=>⟨fun h3 => ?_,fun h3 => ?_⟩⟩
   all_goals
    have hn:((n:Int)-1+1).toNat=n:=by omega
    rw [h3] at h2
    simp only [] at h2
   ·refine ⟨⟨((n:Int)-1,fz (fz x x b) p b),?_,?_,?_⟩,?_,?_⟩
    ·show -1<=(n:Int)-1;omega
    ·show (n:Int)-1<64*e.length;omega
    ·simpa only [hn] using h2
    ·show ((n:Int)-1+1).toNat<((n:Int)+1).toNat;omega
    ·kernel_rfl
   ·refine ⟨⟨((n:Int)-1,fz x x b),?_,?_,?_⟩,?_,?_⟩
    ·show -1<=(n:Int)-1;omega
    ·show (n:Int)-1<64*e.length;omega
    ·simpa only [hn] using h2
    ·show ((n:Int)-1+1).toNat<((n:Int)+1).toNat;omega
    ·kernel_rfl
  ·simp only [ge_iff_le,decide_eq_false_iff_not] at h
   obtain rfl:z = -1:=by omega
   exact ⟨rfl,DoesL.ends hE 100 (LW io fz dd p x e b (-1)) (aV (by
    rw [show ((-1:Int)+1).toNat=0 from rfl] at h2
    simp only [zB] at h2
    exact h2))⟩
def nQ (f0:Fp6->Pg1) (f1:Fp6->List UInt64->Bool->Fp6) (f2:Pg1->Fp6) (a:Pg1) (k:Fr):Pg1:=(f0 (f1 (f2 a) [k.l0,k.l1,k.l2,k.l3] true))
def tR (f0:Fp6->Pg1) (f1:Fp6->List UInt64->Bool->Fp6) (f2:Pg1->Fp6) (a:Pg1) (k:Fr):Tree (Option (Pg1)) :=
 (.leaf (some (f0 (f1 (f2 a) [k.l0,k.l1,k.l2,k.l3] true))))
theorem xh (f0:Fp6->Pg1) (f1:Fp6->List UInt64->Bool->Fp6) (f2:Pg1->Fp6) (a:Pg1) (k:Fr):ag (En [(61,K1 (aa Fp6).arg (aa Pg1).rs.res f0),(67,K3 kp6.arg aL kBool.arg kp6.rs.res f1),(63,K1 (aa Pg1).arg (aa Fp6).rs.res f2)]) (aa Pg1).rs 300 Try.f18 [.one ((aa Pg1).av a),.one ((aa Fr).av k)]=tR f0 f1 f2 a k:=by kernel_rfl
theorem xg (f0:Fp6->Pg1) (f1:Fp6->List UInt64->Bool->Fp6) (f2:Pg1->Fp6) (a:Pg1) (k:Fr):(tR f0 f1 f2 a k).sat fun q=>q=some (nQ f0 f1 f2 a k):=(show some _=some _ from rfl)
def cw (a:Pg1) (k:Fr):Pg1:=nQ vG kT y7 a k
theorem lJ:CallOk Try.prog 18 (K2 (aa Pg1).arg (aa Fr).arg (aa Pg1).rs.res cw) :=
 P2 (aw (.cons CG (.cons D2 (.cons C8 .nil)))) Try.func18 (ae Try.func18 (by kernel_rfl) (by kernel_rfl)) 300 (aa Pg1) (aa Fr) (aa Pg1).rs cw (xh vG kT y7) (xg vG kT y7)
end
set_option maxRecDepth 100000
section
def Kn (n:UInt64):Fr:=({ l0:=n,l1:=UInt64.ofNat 0,l2:=UInt64.ofNat 0,l3:=UInt64.ofNat 0 })
def Km (n:UInt64):Tree (Option (Fr)) :=
 (.leaf (some ({ l0:=n,l1:=UInt64.ofNat 0,l2:=UInt64.ofNat 0,l3:=UInt64.ofNat 0 })))
theorem Im (n:UInt64):ag (En []) (aa Fr).rs 300 Try.f150 [.one (kU64.av n)]=Km n:=by kernel_rfl
theorem Il (n:UInt64):(Km n).sat fun q=>q=some (Kn n):=(show some _=some _ from rfl)
def Ko (n:UInt64):Fr:=Kn  n
theorem MV:CallOk Try.prog 150 (K1 kU64.arg (aa Fr).rs.res Ko) :=
 P1 (aw .nil) Try.func150 (ae Try.func150 (by kernel_rfl) (by kernel_rfl)) 300 kU64 (aa Fr).rs Ko (Im ) (Il )
def wl (f0:Pg1->Fr->Pg1) (f1:Pg1) (k:Fr):Pg1:=(f0 f1 k)
def DB (f0:Pg1->Fr->Pg1) (f1:Pg1) (k:Fr):Tree (Option (Pg1)) :=
 (.leaf (some (f0 f1 k)))
theorem FT (f0:Pg1->Fr->Pg1) (f1:Pg1) (k:Fr):ag (En [(18,K2 (aa Pg1).arg (aa Fr).arg (aa Pg1).rs.res f0),(22,K0 (aa Pg1).rs.res f1)]) (aa Pg1).rs 300 Try.f52 [.one ((aa Fr).av k)]=DB f0 f1 k:=by kernel_rfl
theorem FS (f0:Pg1->Fr->Pg1) (f1:Pg1) (k:Fr):(DB f0 f1 k).sat fun q=>q=some (wl f0 f1 k):=(show some _=some _ from rfl)
def bM (k:Fr):Pg1:=wl cw jD k
theorem ng:CallOk Try.prog 52 (K1 (aa Fr).arg (aa Pg1).rs.res bM) :=
 P1 (aw (.cons lJ (.cons zr .nil))) Try.func52 (ae Try.func52 (by kernel_rfl) (by kernel_rfl)) 300 (aa Fr) (aa Pg1).rs bM (FT cw jD) (FS cw jD)
end
set_option maxRecDepth 100000
section
theorem MN (l:List Fr) (i:Int):cD (En []) r4.out 100 Try.f175 (flat (ad Try.f175)) (af Try.f175 [rwV .fr 0 l,vI i] [bh .fr l])=(.vc (0+l.length*4<=(ac RK.fr l).length/\0<4) (.br (decide (i<(↑l.length:Int))) (.vc ((0<=i/\i<(↑l.length:Int))/\0+l.length*4<=(ac RK.fr l).length/\0<4/\0=0) (.vc (0+i.toNat<l.length) (.leaf (some ((l.getD (0+i.toNat) { l0:=0,l1:=0,l2:=0,l3:=0 },.t)))))) (.leaf (some (({ l0:=UInt64.ofNat 0,l1:=UInt64.ofNat 0,l2:=UInt64.ofNat 0,l3:=UInt64.ofNat 0 },.t)))))):=by kernel_rfl
noncomputable abbrev pbC:List Code:=flat (ad Try.f148)
abbrev aAt:Arg Int:=kInt.arg.such ui
noncomputable abbrev pbE (tF:List Fr->Int->Fr) (aF:Fr->Fr->Fr) (cF:List Fr->List Fr):Env:=Ens [(175,K2 (aB .fr) aAt r4.res tF),(105,Kr2 aF),(176,K8 cF)] [176]
def J9 (l m:List Fr) (n z:Int) (c:Nat) (q:List Fr):St:=ax 34 [(0,rwV .fr 0 l),(1,rwV .fr 1 m),(2,.one ((kFn 105).av ())),(7,CQ 2 c),(16,vI n),(17,vI z)] [bh .fr l,bh .fr m,lg q]
theorem Ic (tF:List Fr->Int->Fr) (aF:Fr->Fr->Fr) (cF:List Fr->List Fr) (l m:List Fr):letI za':=(if (↑m.length:Int) > (↑l.length:Int) then (↑m.length:Int) else (↑l.length:Int));letI zb':=(↑m.length:Int);letI zc':=(↑l.length:Int);letI zd':Fr := { l0:=0,l1:=0,l2:=0,l3:=0 };stageG (pbE tF aF cF) 100 (pbC.take 3) (af Try.f148 [rwV .fr 0 l,rwV .fr 1 m,.one ((kFn 105).av ())] [bh .fr l,bh .fr m]) [0,1,2,7,16,17] [0,1,2] [(0,.as),(1,.as),(2,.as),(7,.as),(16,.as),(17,.int)] [.as,.as,.as] []=(.vc (0+l.length*4<=(ac RK.fr l).length/\0<4) (.vc (0+m.length*4<=(ac RK.fr m).length/\0<4) (.vc ((0<=if zb' > zc' then zb' else zc')/\(za'<=if zb' > zc' then zb' else zc')/\((↑32:Int)*if zb' > zc' then zb' else zc')<=281474976710656/\za'<1125899906842624) (.vc (0+za'.toNat*4<=(ac RK.fr (List.replicate za'.toNat zd')).length/\0<4) (.leaf (ax 34 [(0,.one (.c (.slc 0 0 (l.length) 4 (.of 0) false))),(1,.one (.c (.slc 1 0 (m.length) 4 (.of 0) false))),(2,.one (.c (.fn 105))),(7,.one (.c (.slc 2 0 (za'.toNat) 4 (.of 0) false))),(16,.one (.c (.int .i64 ((↑za'.toNat:Int))))),(17,.one (.c (.int .i64 0)))] [.live ⟨false,0,4,(.rows .fr (l:List Fr)),false⟩,.live ⟨false,0,4,(.rows .fr (m:List Fr)),false⟩,.live ⟨true,24,4,(.rows .fr (List.replicate za'.toNat zd':List Fr)),false⟩])))))):=by kernel_rfl
theorem Ie (tF:List Fr->Int->Fr) (aF:Fr->Fr->Fr) (cF:List Fr->List Fr) (l m:List Fr) (n z:Int) (c:Nat) (q:List Fr):aM (pbE tF aF cF) 300 (aG Try.f148 0) (J9 l m n z c q) (same [0,1,2,7,16,17] [0,1,2])=(.br (decide (z<n)) (.vc ((0+l.length*4<=(ac RK.fr l).length/\0=0/\l.length<1125899906842624/\0=0/\4=4)/\ui z) (.vc ((0+m.length*4<=(ac RK.fr m).length/\0=0/\m.length<1125899906842624/\0=0/\4=4)/\ui z) (.vc ((0<=z/\z<(↑c:Int))/\0+c*4<=(ac RK.fr q).length/\0<4/\0=0) (.vc (0+z.toNat<q.length) (.leaf ((.normal,ax 34 [(0,.one (.c (.slc 0 0 (l.length) 4 (.of 0) false))),(1,.one (.c (.slc 1 0 (m.length) 4 (.of 0) false))),(2,.one (.c (.fn 105))),(7,.one (.c (.slc 2 0 (c) 4 (.of 0) false))),(16,.one (.c (.int .i64 (n)))),(17,.one (.c (.int .i64 (IntKind.i64.wrap (z+1)))))] [.live ⟨false,0,4,(.rows .fr (l:List Fr)),false⟩,.live ⟨false,0,4,(.rows .fr (m:List Fr)),false⟩,.live ⟨true,24,4,(.rows .fr (q.set (0+z.toNat) (aF (tF (List.take l.length (List.drop 0 l)) z) (tF (List.take m.length (List.drop 0 m)) z)):List Fr)),false⟩]))))))) (.leaf ((.exit 0,ax 34 [(0,.one (.c (.slc 0 0 (l.length) 4 (.of 0) false))),(1,.one (.c (.slc 1 0 (m.length) 4 (.of 0) false))),(2,.one (.c (.fn 105))),(7,.one (.c (.slc 2 0 (c) 4 (.of 0) false))),(16,.one (.c (.int .i64 (n)))),(17,.one (.c (.int .i64 (z))))] [.live ⟨false,0,4,(.rows .fr (l:List Fr)),false⟩,.live ⟨false,0,4,(.rows .fr (m:List Fr)),false⟩,.live ⟨true,24,4,(.rows .fr (q:List Fr)),false⟩])))):=by kernel_rfl
theorem PB (tF:List Fr->Int->Fr) (aF:Fr->Fr->Fr) (cF:List Fr->List Fr) (l m:List Fr) (n z:Int) (c:Nat) (q:List Fr):letI za':=List.take c (List.drop 0 q);cD (pbE tF aF cF) oFrs 100 Try.f148 (pbC.drop 4) (J9 l m n z c q)=(.vc ((0+c*4<=(ac RK.fr q).length/\0=0/\c<1125899906842624/\0=0/\4=4)/\gG za') (.leaf (some ((List.take (cF za').length (cF za'),(.p ((cF za').length<=(cF za').length))))))):=by kernel_rfl
noncomputable abbrev pcE (tF:List Fr->Int->Fr) (gF:Fr->Fr->Fr->Fr) (cF:List Fr->List Fr):Env:=Ens [(175,K2 (aB .fr) aAt r4.res tF),(149,K3 (aa Fr).arg (aa Fr).arg (Cw Fr) r4.res gF),(176,K8 cF)] [176]
def J8 (l m:List Fr) (x:Fr) (n z:Int) (c:Nat) (q:List Fr):St:=ax 34 [(0,rwV .fr 0 l),(1,rwV .fr 1 m),(2,.one (.c (.clo 149 2 0))),(7,CQ 3 c),(16,vI n),(17,vI z)] [bh .fr l,bh .fr m,oX Fr x,lg q]
theorem Ia (tF:List Fr->Int->Fr) (gF:Fr->Fr->Fr->Fr) (cF:List Fr->List Fr) (l m:List Fr) (x:Fr):letI za':=(if (↑m.length:Int) > (↑l.length:Int) then (↑m.length:Int) else (↑l.length:Int));letI zb':=(↑m.length:Int);letI zc':=(↑l.length:Int);letI zd':Fr := { l0:=0,l1:=0,l2:=0,l3:=0 };stageG (pcE tF gF cF) 100 (pbC.take 3) (af Try.f148 [rwV .fr 0 l,rwV .fr 1 m,.one (.c (.clo 149 2 0))] [bh .fr l,bh .fr m,oX Fr x]) [0,1,2,7,16,17] [0,1,2,3] [(0,.as),(1,.as),(2,.as),(7,.as),(16,.as),(17,.int)] [.as,.as,.as,.as] []=(.vc (0+l.length*4<=(ac RK.fr l).length/\0<4) (.vc (0+m.length*4<=(ac RK.fr m).length/\0<4) (.vc ((0<=if zb' > zc' then zb' else zc')/\(za'<=if zb' > zc' then zb' else zc')/\((↑32:Int)*if zb' > zc' then zb' else zc')<=281474976710656/\za'<1125899906842624) (.vc (0+za'.toNat*4<=(ac RK.fr (List.replicate za'.toNat zd')).length/\0<4) (.leaf (ax 34 [(0,.one (.c (.slc 0 0 (l.length) 4 (.of 0) false))),(1,.one (.c (.slc 1 0 (m.length) 4 (.of 0) false))),(2,.one (.c (.clo 149 2 0))),(7,.one (.c (.slc 3 0 (za'.toNat) 4 (.of 0) false))),(16,.one (.c (.int .i64 ((↑za'.toNat:Int))))),(17,.one (.c (.int .i64 0)))] [.live ⟨false,0,4,(.rows .fr (l:List Fr)),false⟩,.live ⟨false,0,4,(.rows .fr (m:List Fr)),false⟩,.live ⟨false,0,0,(.row (Row.cs (x:Fr))),false⟩,.live ⟨true,24,4,(.rows .fr (List.replicate za'.toNat zd':List Fr)),false⟩])))))):=by kernel_rfl
theorem Ib (tF:List Fr->Int->Fr) (gF:Fr->Fr->Fr->Fr) (cF:List Fr->List Fr) (l m:List Fr) (x:Fr) (n z:Int) (c:Nat) (q:List Fr):aM (pcE tF gF cF) 300 (aG Try.f148 0) (J8 l m x n z c q) (same [0,1,2,7,16,17] [0,1,2,3])=(.br (decide (z<n)) (.vc ((0+l.length*4<=(ac RK.fr l).length/\0=0/\l.length<1125899906842624/\0=0/\4=4)/\ui z) (.vc ((0+m.length*4<=(ac RK.fr m).length/\0=0/\m.length<1125899906842624/\0=0/\4=4)/\ui z) (.vc ((0<=z/\z<(↑c:Int))/\0+c*4<=(ac RK.fr q).length/\0<4/\0=0) (.vc (0+z.toNat<q.length) (.leaf ((.normal,ax 34 [(0,.one (.c (.slc 0 0 (l.length) 4 (.of 0) false))),(1,.one (.c (.slc 1 0 (m.length) 4 (.of 0) false))),(2,.one (.c (.clo 149 2 0))),(7,.one (.c (.slc 3 0 (c) 4 (.of 0) false))),(16,.one (.c (.int .i64 (n)))),(17,.one (.c (.int .i64 (IntKind.i64.wrap (z+1)))))] [.live ⟨false,0,4,(.rows .fr (l:List Fr)),false⟩,.live ⟨false,0,4,(.rows .fr (m:List Fr)),false⟩,.live ⟨false,0,0,(.row (Row.cs (x:Fr))),false⟩,.live ⟨true,24,4,(.rows .fr (q.set (0+z.toNat) (gF (tF (List.take l.length (List.drop 0 l)) z) (tF (List.take m.length (List.drop 0 m)) z) x):List Fr)),false⟩]))))))) (.leaf ((.exit 0,ax 34 [(0,.one (.c (.slc 0 0 (l.length) 4 (.of 0) false))),(1,.one (.c (.slc 1 0 (m.length) 4 (.of 0) false))),(2,.one (.c (.clo 149 2 0))),(7,.one (.c (.slc 3 0 (c) 4 (.of 0) false))),(16,.one (.c (.int .i64 (n)))),(17,.one (.c (.int .i64 (z))))] [.live ⟨false,0,4,(.rows .fr (l:List Fr)),false⟩,.live ⟨false,0,4,(.rows .fr (m:List Fr)),false⟩,.live ⟨false,0,0,(.row (Row.cs (x:Fr))),false⟩,.live ⟨true,24,4,(.rows .fr (q:List Fr)),false⟩])))):=by kernel_rfl
theorem Pz (tF:List Fr->Int->Fr) (gF:Fr->Fr->Fr->Fr) (cF:List Fr->List Fr) (l m:List Fr) (x:Fr) (n z:Int) (c:Nat) (q:List Fr):letI za':=List.take c (List.drop 0 q);cD (pcE tF gF cF) oFrs 100 Try.f148 (pbC.drop 4) (J8 l m x n z c q)=(.vc ((0+c*4<=(ac RK.fr q).length/\0=0/\c<1125899906842624/\0=0/\4=4)/\gG za') (.leaf (some ((List.take (cF za').length (cF za'),(.p ((cF za').length<=(cF za').length))))))):=by kernel_rfl
noncomputable abbrev psE (bF:List Fr->List Fr->Fr->List Fr):Env:=Ens [(148,K3 cQ cQ (Cv Fr 149) oFrs.res bF)] [148]
theorem Pu (bF:List Fr->List Fr->Fr->List Fr) (l:List Fr) (x:Fr):letI za':=List.take l.length (List.drop 0 l);cD (psE bF) oFrs 100 Try.f99 (flat (ad Try.f99)) (af Try.f99 [rwV .fr 0 l,v4 x] [bh .fr l])=(.vc (((0+l.length*4<=(ac RK.fr l).length/\0=0/\l.length<1125899906842624/\0=0/\4=4)/\gG za')/\gG []) (.leaf (some ((List.take (bF za' [] x).length (bF za' [] x),(.p ((bF za' [] x).length<=(bF za' [] x).length))))))):=by kernel_rfl
noncomputable abbrev paE (bF:List Fr->List Fr->Unit->List Fr):Env:=Ens [(148,K3 cQ cQ (kFn 105).arg oFrs.res bF)] [148]
theorem PD (bF:List Fr->List Fr->Unit->List Fr) (l m:List Fr):letI za':=bF (List.take l.length (List.drop 0 l)) (List.take m.length (List.drop 0 m)) ();cD (paE bF) oFrs 100 Try.f98 (flat (ad Try.f98)) (af Try.f98 [rwV .fr 0 l,rwV .fr 1 m] [bh .fr l,bh .fr m])=(.vc (((0+l.length*4<=(ac RK.fr l).length/\0=0/\l.length<1125899906842624/\0=0/\4=4)/\gG (List.take l.length (List.drop 0 l)))/\(0+m.length*4<=(ac RK.fr m).length/\0=0/\m.length<1125899906842624/\0=0/\4=4)/\gG (List.take m.length (List.drop 0 m))) (.leaf (some ((List.take za'.length za',(.p (za'.length<=za'.length))))))):=by kernel_rfl
noncomputable abbrev s1E (mF:Fr->Fr->Fr):Env:=En [(106,Kr2 mF)]
theorem Pb (mF:Fr->Fr->Fr) (x y k:Fr):cD (s1E mF) r4.out 100 Try.f149 (flat (ad Try.f149)) (af Try.f149 [v4 x,v4 y,.one (.c (.ptr 0 0))] [oX Fr k]) =
 (.leaf (some ((mF x k,.t)))):=by kernel_rfl
end
set_option maxRecDepth 100000
section
theorem Ka:CallOk Try.prog 175 (K2 (aB .fr) aAt r4.res jn) :=
 G2 (E:=En []) Try.func175 (c:=ad Try.f175) (by kernel_rfl) (ae Try.func175 (by kernel_rfl) (by kernel_rfl)) (cI .fr) (kInt.inp.such ui) r4.out jn fun l i hl hi=>by
  have hi:0<=i:=hi.2
  refine DoesL.ends (aw .nil) 100 (MN l i) ⟨bf l,fun _=>⟨fun h => ?_,fun h => ?_⟩⟩
  ·simp only [decide_eq_true_eq] at h
   refine ⟨⟨⟨hi,h⟩,by rw [aE];omega,by decide,rfl⟩,fun _=>⟨by omega,fun _=>⟨.t,?_,trivial⟩⟩⟩
   rw [Nat.zero_add]
   rfl
  ·simp only [decide_eq_false_iff_not] at h
   refine ⟨.t,?_,trivial⟩
   unfold jn atL
   rw [List.getD_eq_getElem?_getD,List.getElem?_eq_none (by omega)]
   rfl
def dI (g:Nat->Fr) (n i:Nat):List Fr:=(List.range i).map g++List.replicate (n-i) frZ
theorem rO (g:Nat->Fr) {n i:Nat} (h:i<=n):(dI g n i).length=n:=by
 unfold dI
 rw [List.length_append,List.length_map,List.length_range,List.length_replicate]
 omega
theorem oK (g:Nat->Fr) (n:Nat):dI g n 0=List.replicate n frZ:=by
 unfold dI
 rw [List.range_zero,List.map_nil,List.nil_append,Nat.sub_zero]
theorem oM (g:Nat->Fr) (n:Nat):dI g n n=(List.range n).map g:=by
 unfold dI
 rw [Nat.sub_self,List.replicate_zero,List.append_nil]
theorem rM (g:Nat->Fr) {n i:Nat} (h:i<n):(dI g n i).set i (g i)=dI g n (i+1):=by
 unfold dI
 obtain ⟨k,hk⟩ : ∃ k,n-i=k+1:=⟨n-i-1,by omega⟩
 rw [List.set_append_right _ _ (by rw [List.length_map,List.length_range];exact Nat.le_refl _),List.length_map,List.length_range,Nat.sub_self,hk,List.replicate_succ,List.set_cons_zero,List.range_succ,List.map_append,List.append_assoc,show n-(i+1)=k by omega]
 rfl
theorem re (l m:List Fr):(if (m.length:Int) > (l.length:Int) then (m.length:Int) else (l.length:Int)).toNat=bR l m:=by rw [rf,Int.toNat_natCast]
def pbG (tF:List Fr->Int->Fr) (aF:Fr->Fr->Fr) (l m:List Fr) (i:Nat):Fr:=aF (tF l i) (tF m i)
theorem MM {tF:List Fr->Int->Fr} {aF:Fr->Fr->Fr} {cF:List Fr->List Fr} (hE:EnvOk (pbE tF aF cF)) (l m:List Fr) (hl:l.length<4294967296) (hm:m.length<4294967296) :
  DoesL (pbE tF aF cF) (flat (ad Try.f148)) (af Try.f148 [rwV .fr 0 l,rwV .fr 1 m,.one ((kFn 105).av ())] [bh .fr l,bh .fr m])
   (EndsAs (pbE tF aF cF) Try.f148 (bK oFrs (cF ((List.range (bR l m)).map (pbG tF aF l m))))):=by
 have hN:bR l m<4294967296:=Nat.max_lt.2 ⟨hm,hl⟩
 refine DoesL.stageG hE 100 3 _ _ _ _ _ (Ic tF aF cF l m) ⟨bf l,fun _=>⟨bf m,fun _ => ?_⟩⟩
 rw [re,rf]
 refine ⟨⟨by omega,by omega,by omega,by omega⟩,fun _=>⟨by rw [aE,List.length_replicate];omega,fun _ => ?_⟩⟩
 refine (?_:DoesL _ _ (J9 l m (bR l m:Int) ((0:Nat):Int) (bR l m) (List.replicate (bR l m) frZ)) _)
 rw [<- oK (pbG tF aF l m)]
 refine DoesL.blockLoop (B:=aG Try.f148 0) (rest:=pbC.drop 4) (id:=0) (by kernel_rfl) (fun j : { j:Nat // j<=bR l m }=>J9 l m (bR l m:Int) (j.1:Int) (bR l m) (dI (pbG tF aF l m) (bR l m) j.1)) (fun j=>bR l m-j.1) ⟨0,Nat.zero_le _⟩ fun j => ?_
 obtain ⟨j,hj⟩:=j
 refine (?_:Does _ _ (J9 l m (bR l m:Int) (j:Int) (bR l m) (dI (pbG tF aF l m) (bR l m) j)) _)
 have hlen:=rO (pbG tF aF l m) hj
 refine Does.round hE 300 _ (Ie tF aF cF l m _ (j:Int) _ (dI (pbG tF aF l m) (bR l m) j)) ⟨fun h => ?_,fun h => ?_⟩
 ·simp only [decide_eq_true_eq] at h
  have hj1:j<bR l m:=by omega
  refine ⟨⟨bN (by show l.length<1125899906842624;omega),iD j⟩,fun _=>⟨⟨bN (by show m.length<1125899906842624;omega),iD j⟩,fun _=>⟨⟨⟨by omega,by omega⟩,by rw [aE,hlen];omega,by decide,rfl⟩,fun _=>⟨by rw [hlen];omega,fun _ => ?_⟩⟩⟩⟩
  refine ⟨⟨j+1,hj1⟩,by show bR l m-(j+1)<bR l m-j;omega,?_⟩
  show _=J9 l m (bR l m:Int) ((j+1:Nat):Int) (bR l m) (dI (pbG tF aF l m) (bR l m) (j+1))
  rw [pS j (by omega),ap rfl,ap rfl,kf,<- rM _ hj1]
  rfl
 ·simp only [decide_eq_false_iff_not] at h
  obtain rfl:j=bR l m:=by omega
  refine ⟨rfl,DoesL.ends hE 100 (PB tF aF cF l m _ _ _ _) ⟨⟨⟨by rw [aE,hlen];omega,rfl,by omega,rfl,rfl⟩,?_⟩,fun _ => ?_⟩⟩
  ·show (List.take (bR l m) (List.drop 0 _)).length<4294967296
   rw [List.length_take]
   omega
  ·rw [ap hlen,List.take_length,oM]
   exact ⟨_,rfl,Nat.le_refl _⟩
def pcG (tF:List Fr->Int->Fr) (gF:Fr->Fr->Fr->Fr) (l m:List Fr) (x:Fr) (i:Nat):Fr:=gF (tF l i) (tF m i) x
theorem ML {tF:List Fr->Int->Fr} {gF:Fr->Fr->Fr->Fr} {cF:List Fr->List Fr} (hE:EnvOk (pcE tF gF cF)) (l m:List Fr) (x:Fr) (hl:l.length<4294967296) (hm:m.length<4294967296) :
  DoesL (pcE tF gF cF) (flat (ad Try.f148)) (af Try.f148 [rwV .fr 0 l,rwV .fr 1 m,.one (.c (.clo 149 2 0))] [bh .fr l,bh .fr m,oX Fr x])
   (EndsAs (pcE tF gF cF) Try.f148 (bK oFrs (cF ((List.range (bR l m)).map (pcG tF gF l m x))))):=by
 have hN:bR l m<4294967296:=Nat.max_lt.2 ⟨hm,hl⟩
 refine DoesL.stageG hE 100 3 _ _ _ _ _ (Ia tF gF cF l m x) ⟨bf l,fun _=>⟨bf m,fun _ => ?_⟩⟩
 rw [re,rf]
 refine ⟨⟨by omega,by omega,by omega,by omega⟩,fun _=>⟨by rw [aE,List.length_replicate];omega,fun _ => ?_⟩⟩
 refine (?_:DoesL _ _ (J8 l m x (bR l m:Int) ((0:Nat):Int) (bR l m) (List.replicate (bR l m) frZ)) _)
 rw [<- oK (pcG tF gF l m x)]
 refine DoesL.blockLoop (B:=aG Try.f148 0) (rest:=pbC.drop 4) (id:=0) (by kernel_rfl) (fun j : { j:Nat // j<=bR l m }=>J8 l m x (bR l m:Int) (j.1:Int) (bR l m) (dI (pcG tF gF l m x) (bR l m) j.1)) (fun j=>bR l m-j.1) ⟨0,Nat.zero_le _⟩ fun j => ?_
 obtain ⟨j,hj⟩:=j
 refine (?_:Does _ _ (J8 l m x (bR l m:Int) (j:Int) (bR l m) (dI (pcG tF gF l m x) (bR l m) j)) _)
 have hlen:=rO (pcG tF gF l m x) hj
 refine Does.round hE 300 _ (Ib tF gF cF l m x _ (j:Int) _ (dI (pcG tF gF l m x) (bR l m) j)) ⟨fun h => ?_,fun h => ?_⟩
 ·simp only [decide_eq_true_eq] at h
  have hj1:j<bR l m:=by omega
  refine ⟨⟨bN (by show l.length<1125899906842624;omega),iD j⟩,fun _=>⟨⟨bN (by show m.length<1125899906842624;omega),iD j⟩,fun _=>⟨⟨⟨by omega,by omega⟩,by rw [aE,hlen];omega,by decide,rfl⟩,fun _=>⟨by rw [hlen];omega,fun _ => ?_⟩⟩⟩⟩
  refine ⟨⟨j+1,hj1⟩,by show bR l m-(j+1)<bR l m-j;omega,?_⟩
  show _=J8 l m x (bR l m:Int) ((j+1:Nat):Int) (bR l m) (dI (pcG tF gF l m x) (bR l m) (j+1))
  rw [pS j (by omega),ap rfl,ap rfl,kf,<- rM _ hj1]
  rfl
 ·simp only [decide_eq_false_iff_not] at h
  obtain rfl:j=bR l m:=by omega
  refine ⟨rfl,DoesL.ends hE 100 (Pz tF gF cF l m x _ _ _ _) ⟨⟨⟨by rw [aE,hlen];omega,rfl,by omega,rfl,rfl⟩,?_⟩,fun _ => ?_⟩⟩
  ·show (List.take (bR l m) (List.drop 0 _)).length<4294967296
   rw [List.length_take]
   omega
  ·rw [ap hlen,List.take_length,oM]
   exact ⟨_,rfl,Nat.le_refl _⟩
def lb (l m:List Fr) (_:Unit):List Fr:=cE ((List.range (bR l m)).map (pbG jn eG l m))
theorem EO:CallOk Try.prog 148 (K3 cQ cQ (kFn 105).arg oFrs.res lb) :=
 G3 (E:=pbE jn eG cE) Try.func148 (c:=ad Try.f148) (by kernel_rfl) (ae Try.func148 (by kernel_rfl) (by kernel_rfl)) iFew iFew (kFn 105).inp oFrs lb fun l m u hl hm _ =>
  MM (bP (.cons Ka (.cons sD (.cons CZ .nil)))) l m hl.2 hm.2
def fB (x y k:Fr):Fr:=cZ x k
theorem xm:CallOk Try.prog 149 (K3 (aa Fr).arg (aa Fr).arg (Cw Fr) r4.res fB) :=
 G3 (E:=s1E cZ) Try.func149 (c:=ad Try.f149) (by kernel_rfl) (ae Try.func149 (by kernel_rfl) (by kernel_rfl)) (aa Fr).inp (aa Fr).inp (P8 Fr) r4.out fB fun x y k _ _ _ =>
  DoesL.ends (aw (.cons mY .nil)) 100 (Pb cZ x y k) ⟨_,rfl,trivial⟩
def mw (l m:List Fr) (x:Fr):List Fr:=cE ((List.range (bR l m)).map (pcG jn fB l m x))
theorem EN:CallOk Try.prog 148 (K3 cQ cQ (Cv Fr 149) oFrs.res mw) :=
 G3 (E:=pcE jn fB cE) Try.func148 (c:=ad Try.f148) (by kernel_rfl) (ae Try.func148 (by kernel_rfl) (by kernel_rfl)) iFew iFew (P7 Fr 149) oFrs mw fun l m x hl hm _ =>
  ML (bP (.cons Ka (.cons xm (.cons CZ .nil)))) l m x hl.2 hm.2
def ez (l m:List Fr):List Fr:=lb l m ()
def bm (l:List Fr) (k:Fr):List Fr:=mw l [] k
theorem d9 {f:List Fr} (h:f.length<4294967296):(0+f.length*4<=(ac RK.fr f).length/\0=0/\f.length<1125899906842624/\0=0/\4=4)/\gG (List.take f.length (List.drop 0 f)):=by
 rw [ap rfl]
 exact ⟨bN (Nat.lt_of_lt_of_le h (by decide)),h⟩
theorem Ig:CallOk Try.prog 98 (K2 cQ cQ oFrs.res ez) :=
 G2 (E:=paE lb) Try.func98 (c:=ad Try.f98) (by kernel_rfl) (ae Try.func98 (by kernel_rfl) (by kernel_rfl)) iFew iFew oFrs ez fun l m hl hm=>by
  refine DoesL.ends (bP (.cons EO .nil)) 100 (PD lb l m) ⟨⟨d9 hl.2,d9 hm.2⟩,fun _ => ?_⟩
  rw [ap rfl,ap rfl,List.take_length]
  exact ⟨_,rfl,Nat.le_refl _⟩
theorem A2:CallOk Try.prog 99 (K2 cQ (aa Fr).arg oFrs.res bm) :=
 G2 (E:=psE mw) Try.func99 (c:=ad Try.f99) (by kernel_rfl) (ae Try.func99 (by kernel_rfl) (by kernel_rfl)) iFew (aa Fr).inp oFrs bm fun l x hl _=>by
  refine DoesL.ends (bP (.cons EN .nil)) 100 (Pu mw l x) ⟨⟨d9 hl.2,by decide⟩,fun _ => ?_⟩
  rw [ap rfl,List.take_length]
  exact ⟨_,rfl,Nat.le_refl _⟩
end
set_option maxRecDepth 100000
section
def sf (f0:UInt64->Fr):Fr:=(f0 (1:UInt64))
def yJ (f0:UInt64->Fr):Tree (Option (Fr)) :=
 (.leaf (some (f0 (1:UInt64))))
theorem AH (f0:UInt64->Fr):ag (En [(150,K1 kU64.arg (aa Fr).rs.res f0)]) (aa Fr).rs 300 Try.f100 []=yJ f0:=by kernel_rfl
theorem AG (f0:UInt64->Fr):(yJ f0).sat fun q=>q=some (sf f0):=(show some _=some _ from rfl)
def a9  : Fr:=sf Ko
theorem ub:CallOk Try.prog 100 (K0 (aa Fr).rs.res a9) :=
 P0 (aw (.cons MV .nil)) Try.func100 (ae Try.func100 (by kernel_rfl) (by kernel_rfl)) 300  (aa Fr).rs a9 (AH Ko) (AG Ko)
def sh (f0:Fr->Fr->Fr) (a:Fr) (b:Fr):Fr:=(f0 a b)
def yK (f0:Fr->Fr->Fr) (a:Fr) (b:Fr):Tree (Option (Fr)) :=
 (.leaf (some (f0 a b)))
theorem AJ (f0:Fr->Fr->Fr) (a:Fr) (b:Fr):ag (En [(40,Kr2 f0)]) (aa Fr).rs 300 Try.f103 [.one ((aa Fr).av a),.one ((aa Fr).av b)]=yK f0 a b:=by kernel_rfl
theorem AI (f0:Fr->Fr->Fr) (a:Fr) (b:Fr):(yK f0 a b).sat fun q=>q=some (sh f0 a b):=(show some _=some _ from rfl)
def aQ (a:Fr) (b:Fr):Fr:=sh bZ a b
theorem nX:CallOk Try.prog 103 (K2 (aa Fr).arg (aa Fr).arg (aa Fr).rs.res aQ) :=
 P2 (aw (.cons wd .nil)) Try.func103 (ae Try.func103 (by kernel_rfl) (by kernel_rfl)) 300 (aa Fr) (aa Fr) (aa Fr).rs aQ (AJ bZ) (AI bZ)
abbrev oG1s:Out (List Pg1):=Oq .g1 30
abbrev Nj (n:Int):Prop:=0<=n/\n<4294967296
abbrev Q1:Arg Int:=kInt.arg.such Nj
abbrev l7 (l:List (List Fr)):Prop:=l.length<4294967296 /\ ∀ xs ∈ l,xs.length<4294967296
abbrev GO:Arg (List (List Fr)):=(w9 .fr).such l7
abbrev RW:Inp (List (List Fr)):=(Gz .fr).such l7
def Kg (l:List Pg1):HE := .live ⟨true,30,13,.rows .g1 l,false⟩
def RM (i c:Nat):AV := .one (.c (.slc i 0 c 13 (.of 0) false))
noncomputable abbrev bpC:List Code:=flat (ad Try.f104)
noncomputable abbrev bpE (oF:UInt64->Fr) (mF:Fr->Fr->Fr):Env:=En [(109,K1 kU64.arg r4.res oF),(106,Kr2 mF)]
def NO (x k:Fr) (n z:Int) (c:Nat) (l:List Fr):St:=ax 20 [(2,cn 0),(5,CQ 2 c),(6,cn 1),(8,vI n),(9,vI z)] [own 24 (Row.cs x),own 24 (Row.cs k),lg l]
theorem Jz (oF:UInt64->Fr) (mF:Fr->Fr->Fr) (x:Fr) (n:Int):stageG (bpE oF mF) 100 (bpC.take 4) (af Try.f104 [v4 x,vI n] []) [2,5,6,8,9] [0,1] [(2,.as),(5,.nilE 2 4),(6,.as),(8,.as),(9,.int)] [.as,.as] [(24,.rows .fr)]=(.leaf (ax 20 [(2,.one (.c (.ptr 0 0))),(5,.one (.c (.slc 2 0 0 4 (.of 0) false))),(6,.one (.c (.ptr 1 0))),(8,.one (.c (.int .i64 (n)))),(9,.one (.c (.int .i64 0)))] [.live ⟨true,24,0,(.row (Row.cs (x:Fr))),false⟩,.live ⟨true,24,0,(.row (Row.cs (oF (UInt64.ofNat 1):Fr))),false⟩,.live ⟨true,24,4,(.rows .fr ([]:List Fr)),false⟩])):=by kernel_rfl
theorem JA (oF:UInt64->Fr) (mF:Fr->Fr->Fr) (x k:Fr) (n z:Int) (c:Nat) (l:List Fr):roundP (bpE oF mF) 300 (aG Try.f104 0) (NO x k n z c l) (fo [2,5,6,8,9] [0,1] [5])=(.br (decide (z<n)) (.vc ((0+c*4<=(ac RK.fr l).length/\0=0)/\c+1<=9223372036854775807/\(c+1)*32<=140737488355328) (.leaf ((.normal,ax 20 [(2,.one (.c (.ptr 0 0))),(5,.one (.c (.slc 2 0 (c+1) 4 (.of 0) false))),(6,.one (.c (.ptr 1 0))),(8,.one (.c (.int .i64 (n)))),(9,.one (.c (.int .i64 (IntKind.i64.wrap (z+1)))))] [.live ⟨true,24,0,(.row (Row.cs (x:Fr))),false⟩,.live ⟨true,24,0,(.row (Row.cs (mF k x:Fr))),false⟩,.live ⟨true,24,4,(.rows .fr (List.take (iV c (4 / 4)) (List.drop 0 l) ++ [k]:List Fr)),false⟩])))) (.leaf ((.exit 0,ax 20 [(2,.one (.c (.ptr 0 0))),(5,.one (.c (.slc 2 0 (c) 4 (.of 0) false))),(6,.one (.c (.ptr 1 0))),(8,.one (.c (.int .i64 (n)))),(9,.one (.c (.int .i64 (z))))] [.live ⟨true,24,0,(.row (Row.cs (x:Fr))),false⟩,.live ⟨true,24,0,(.row (Row.cs (k:Fr))),false⟩,.live ⟨true,24,4,(.rows .fr (l:List Fr)),false⟩])))):=by kernel_rfl
theorem QA (oF:UInt64->Fr) (mF:Fr->Fr->Fr) (x k:Fr) (n z:Int) (c:Nat) (l:List Fr):cD (bpE oF mF) oFrs 100 Try.f104 (bpC.drop 5) (NO x k n z c l) =
 (.leaf (some ((List.take c l,(.p (c<=l.length)))))):=by kernel_rfl
noncomputable abbrev bsC:List Code:=flat (ad Try.f48)
noncomputable abbrev bsE (pF:Fr->Int->List Fr) (aF mF:Fr->Fr->Fr):Env:=Ens [(104,K2 (aa Fr).arg Q1 oFrs.res pF),(105,Kr2 aF),(106,Kr2 mF)] [104]
def NM (y:List Fr) (a:Fr) (n z:Int) (c:Nat) (k:List Fr):St:=ax 28 [(0,rwV .fr 0 y),(4,cn 1),(5,cn 2),(11,CQ 3 c),(12,vI n),(13,vI z)] [bh .fr y,own 24 (dS 4),own 24 (Row.cs a),lg k]
theorem Jx (pF:Fr->Int->List Fr) (aF mF:Fr->Fr->Fr) (y:List Fr) (v:Fr):letI za':=(↑y.length:Int);letI zb':=UInt64.ofNat 0;stageG (bsE pF aF mF) 100 (bsC.take 3) (af Try.f48 [rwV .fr 0 y,v4 v] [bh .fr y]) [0,4,5,11,12,13] [0,2,3,4] [(0,.as),(4,.as),(5,.as),(11,.as),(12,.as),(13,.int)] [.as,.as,.one .fr,.as] []=(.vc (0+y.length*4<=(ac RK.fr y).length/\0<4) (.vc (Nj za') (.vc (0+(pF v za').length*4<=(ac RK.fr (pF v za')).length/\0<4) (.leaf (ax 28 [(0,.one (.c (.slc 0 0 (y.length) 4 (.of 0) false))),(4,.one (.c (.ptr 1 0))),(5,.one (.c (.ptr 2 0))),(11,.one (.c (.slc 3 0 ((pF v za').length) 4 (.of 0) false))),(12,.one (.c (.int .i64 ((↑(pF v za').length:Int))))),(13,.one (.c (.int .i64 0)))] [.live ⟨false,0,4,(.rows .fr (y:List Fr)),false⟩,.live ⟨true,24,0,(.row [(.lit .u64 0),(.lit .u64 0),(.lit .u64 0),(.lit .u64 0)]),false⟩,.live ⟨true,24,0,(.row [(.u64 zb'),(.u64 zb'),(.u64 zb'),(.u64 zb')]),false⟩,.live ⟨true,24,4,(.rows .fr (pF v za':List Fr)),false⟩]))))):=by kernel_rfl
theorem Jy (pF:Fr->Int->List Fr) (aF mF:Fr->Fr->Fr) (y:List Fr) (a:Fr) (n z:Int) (c:Nat) (k:List Fr):letI za':Fr := { l0:=0,l1:=0,l2:=0,l3:=0 };aM (bsE pF aF mF) 300 (aG Try.f48 0) (NM y a n z c k) (same [0,4,5,11,12,13] [0,1,2,3])=(.br (decide (z<n)) (.vc ((0<=z/\z<(↑c:Int))/\0+c*4<=(ac RK.fr k).length/\0<4/\0=0) (.vc (0+z.toNat<k.length) (.vc ((0<=z/\z<(↑y.length:Int))/\0+y.length*4<=(ac RK.fr y).length/\0<4/\0=0) (.vc (0+z.toNat<y.length) (.leaf ((.normal,ax 28 [(0,.one (.c (.slc 0 0 (y.length) 4 (.of 0) false))),(4,.one (.c (.ptr 1 0))),(5,.one (.c (.ptr 2 0))),(11,.one (.c (.slc 3 0 (c) 4 (.of 0) false))),(12,.one (.c (.int .i64 (n)))),(13,.one (.c (.int .i64 (IntKind.i64.wrap (z+1)))))] [.live ⟨false,0,4,(.rows .fr (y:List Fr)),false⟩,.live ⟨true,24,0,(.row [(.lit .u64 0),(.lit .u64 0),(.lit .u64 0),(.lit .u64 0)]),false⟩,.live ⟨true,24,0,(.row (Row.cs (aF a (mF (y.getD (0+z.toNat) za') (k.getD (0+z.toNat) za')):Fr))),false⟩,.live ⟨true,24,4,(.rows .fr (k:List Fr)),false⟩]))))))) (.leaf ((.exit 0,ax 28 [(0,.one (.c (.slc 0 0 (y.length) 4 (.of 0) false))),(4,.one (.c (.ptr 1 0))),(5,.one (.c (.ptr 2 0))),(11,.one (.c (.slc 3 0 (c) 4 (.of 0) false))),(12,.one (.c (.int .i64 (n)))),(13,.one (.c (.int .i64 (z))))] [.live ⟨false,0,4,(.rows .fr (y:List Fr)),false⟩,.live ⟨true,24,0,(.row [(.lit .u64 0),(.lit .u64 0),(.lit .u64 0),(.lit .u64 0)]),false⟩,.live ⟨true,24,0,(.row (Row.cs (a:Fr))),false⟩,.live ⟨true,24,4,(.rows .fr (k:List Fr)),false⟩])))):=by kernel_rfl
theorem Qy (pF:Fr->Int->List Fr) (aF mF:Fr->Fr->Fr) (y:List Fr) (a:Fr) (n z:Int) (c:Nat) (k:List Fr):cD (bsE pF aF mF) r4.out 100 Try.f48 (bsC.drop 4) (NM y a n z c k) =
 (.leaf (some ((a,.t)))):=by kernel_rfl
noncomputable abbrev bqE (pF:Fr->Int->List Fr) (sF:List Pg1->List Fr->Pg1):Env:=Ens [(104,K2 (aa Fr).arg Q1 oFrs.res pF),(108,K2 ((aB .g1).such few) (aB .fr) kg1.rs.res sF)] [104]
theorem Qz (pF:Fr->Int->List Fr) (sF:List Pg1->List Fr->Pg1) (l:List Pg1) (v:Fr):letI za':=(pF v (↑l.length:Int));letI zb':=List.take l.length (List.drop 0 l);cD (bqE pF sF) kg1.rs.out 100 Try.f50 (flat (ad Try.f50)) (af Try.f50 [rwV .g1 0 l,v4 v] [bh .g1 l])=(.vc (0+l.length*13<=(ac RK.g1 l).length/\0<13) (.vc (Nj (↑l.length:Int)) (.vc (((0+l.length*13<=(ac RK.g1 l).length/\0=0/\l.length<1125899906842624/\0=0/\13=13)/\few zb')/\0+za'.length*4<=(ac RK.fr za').length/\0=0/\za'.length<1125899906842624/\0=0/\4=4) (.leaf (some ((sF zb' (List.take za'.length (List.drop 0 za')),.t))))))):=by kernel_rfl
noncomputable abbrev bfE (sF:List Fr->Fr->List Fr) (aF:List Fr->List Fr->List Fr):Env:=Ens [(99,K2 cQ (aa Fr).arg oFrs.res sF),(98,K2 cQ cQ oFrs.res aF)] [99,98,j0 55]
def QZ (f:List (List Fr)) (v:Fr) (i:Int) (c:Nat) (q:List Fr):St:=ax 23 [(0,lsV 0 .fr f),(3,cn 1),(5,CQ 2 c),(6,vI i)] [.lists .fr f,own 24 (Row.cs v),lg q]
theorem JF (sF:List Fr->Fr->List Fr) (aF:List Fr->List Fr->List Fr) (f:List (List Fr)) (v:Fr):dw (bfE sF aF) 100 ((flat (ad Try.f46)).take 1) (af Try.f46 [lsV 0 .fr f,v4 v] [.lists .fr f]) [0,3] [0,1]=(.leaf (ax 23 [(0,.one (.c (.slc 0 0 (f.length) 1 (.of 0) false))),(3,.one (.c (.ptr 1 0)))] [.lists .fr (f),.live ⟨true,24,0,(.row (Row.cs (v:Fr))),false⟩])):=by kernel_rfl
theorem JE (sF:List Fr->Fr->List Fr) (aF:List Fr->List Fr->List Fr) (f:List (List Fr)) (v:Fr):stageG (bfE sF aF) 100 ((flat (dx Try.f46)).take 3) (ax 23 [(0,lsV 0 .fr f),(3,cn 1)] [.lists .fr f,own 24 (Row.cs v)]) [0,3,5,6] [0,1,2] [(0,.as),(3,.as),(5,.slc),(6,.as)] [.as,.as,.rws .fr] []=(.vc (f.length=f.length) (.leaf (ax 23 [(0,.one (.c (.slc 0 0 (f.length) 1 (.of 0) false))),(3,.one (.c (.ptr 1 0))),(5,.one (.c (.slc 2 0 0 4 (.of 0) false))),(6,.one (.c (.int .i64 ((↑f.length:Int)))))] [.lists .fr (f),.live ⟨true,24,0,(.row (Row.cs (v:Fr))),false⟩,.live ⟨true,24,4,(.rows .fr ([]:List Fr)),false⟩]))):=by kernel_rfl
theorem NT (sF:List Fr->Fr->List Fr) (aF:List Fr->List Fr->List Fr) (f:List (List Fr)) (v:Fr) (i:Int) (c:Nat) (q:List Fr):letI za':=sF (List.take c (List.drop 0 q)) v;letI zb':=IntKind.i64.wrap (i-1);letI zc':=List.take za'.length (List.drop 0 za');iterP (bfE sF aF) oFrs 300 Try.f46 ((flat (dx Try.f46)).drop 3) (QZ f v i c q) (fo [0,3,5,6] [0,1] [5])=(.br (decide (IntKind.i64.wrap (i-1)<0)) (.leaf (.inr (some ((List.take c q,(.p (c<=q.length))))))) (.vc ((0+c*4<=(ac RK.fr q).length/\0=0/\c<1125899906842624/\0=0/\4=4)/\gG (List.take c (List.drop 0 q))) (.vc ((0<=IntKind.i64.wrap (i-1)/\IntKind.i64.wrap (i-1)<(↑f.length:Int))/\f.length<=f.length) (.vc (zb'.toNat<f.length) (.vc (((0+za'.length*4<=(ac RK.fr za').length/\0=0/\za'.length<1125899906842624/\0=0/\4=4)/\gG zc')/\(0+(f.getD zb'.toNat []).length*4<=(ac RK.fr (f.getD zb'.toNat [])).length/\0=0/\(f.getD zb'.toNat []).length<1125899906842624/\0=0/\4=4)/\gG (List.take (f.getD zb'.toNat []).length (List.drop 0 (f.getD zb'.toNat [])))) (.leaf (.inl ((.goto 0,ax 23 [(0,.one (.c (.slc 0 0 (f.length) 1 (.of 0) false))),(3,.one (.c (.ptr 1 0))),(5,.one (.c (.slc 2 0 ((aF zc' (List.take (f.getD zb'.toNat []).length (List.drop 0 (f.getD zb'.toNat [])))).length) 4 (.of 0) false))),(6,.one (.c (.int .i64 zb')))] [.lists .fr (f),.live ⟨true,24,0,(.row (Row.cs (v:Fr))),false⟩,.live ⟨true,24,4,(.rows .fr (aF zc' (List.take (f.getD zb'.toNat []).length (List.drop 0 (f.getD zb'.toNat []))):List Fr)),false⟩]))))))))):=by kernel_rfl
noncomputable abbrev rfC:List Code:=flat (ad Try.f47)
noncomputable abbrev rfE (oF:Fr) (sF:List Fr->Fr->List Fr) (aF:List Fr->List Fr->List Fr) (mF:Fr->Fr->Fr):Env:=Ens [(100,K0 (aa Fr).rs.res oF),(102,K2 cQ (aa Fr).arg oFrs.res sF),(101,K2 cQ cQ oFrs.res aF),(103,K2 (aa Fr).arg (aa Fr).arg (aa Fr).rs.res mF)] [102,101,j0 55]
def Ml (f:List (List Fr)) (v k:Fr) (z:Int) (c:Nat) (q:List Fr):St:=ax 27 [(0,lsV 0 .fr f),(3,cn 1),(5,CQ 3 c),(6,cn 2),(7,vI z)] [.lists .fr f,own 24 (Row.cs v),own 24 (Row.cs k),lg q]
theorem HD (oF:Fr) (sF:List Fr->Fr->List Fr) (aF:List Fr->List Fr->List Fr) (mF:Fr->Fr->Fr) (f:List (List Fr)) (v:Fr):stageG (rfE oF sF aF mF) 100 (rfC.take 4) (af Try.f47 [lsV 0 .fr f,v4 v] [.lists .fr f]) [0,3,5,6,7] [0,1,2] [(0,.as),(3,.as),(5,.nilE 3 4),(6,.as),(7,.int)] [.as,.as,.as] [(24,.rows .fr)]=(.leaf (ax 27 [(0,.one (.c (.slc 0 0 (f.length) 1 (.of 0) false))),(3,.one (.c (.ptr 1 0))),(5,.one (.c (.slc 3 0 0 4 (.of 0) false))),(6,.one (.c (.ptr 2 0))),(7,.one (.c (.int .i64 0)))] [.lists .fr (f),.live ⟨true,24,0,(.row (Row.cs (v:Fr))),false⟩,.live ⟨true,24,0,(.row (Row.cs (oF:Fr))),false⟩,.live ⟨true,24,4,(.rows .fr ([]:List Fr)),false⟩])):=by kernel_rfl
theorem HF (oF:Fr) (sF:List Fr->Fr->List Fr) (aF:List Fr->List Fr->List Fr) (mF:Fr->Fr->Fr) (f:List (List Fr)) (v k:Fr) (z:Int) (c:Nat) (q:List Fr):letI za':=List.take c (List.drop 0 q);roundP (rfE oF sF aF mF) 300 (aG Try.f47 0) (Ml f v k z c q) (fo [0,3,5,6,7] [0,1,2] [5])=(.vc (f.length=f.length) (.br (decide (z<(↑f.length:Int))) (.vc ((0<=z/\z<(↑f.length:Int))/\f.length<=f.length) (.vc (z.toNat<f.length) (.vc ((0+(f.getD z.toNat []).length*4<=(ac RK.fr (f.getD z.toNat [])).length/\0=0/\(f.getD z.toNat []).length<1125899906842624/\0=0/\4=4)/\gG (List.take (f.getD z.toNat []).length (List.drop 0 (f.getD z.toNat [])))) (.vc (((0+c*4<=(ac RK.fr q).length/\0=0/\c<1125899906842624/\0=0/\4=4)/\gG za')/\(0+(sF (List.take (f.getD z.toNat []).length (List.drop 0 (f.getD z.toNat []))) k).length*4<=(ac RK.fr (sF (List.take (f.getD z.toNat []).length (List.drop 0 (f.getD z.toNat []))) k)).length/\0=0/\(sF (List.take (f.getD z.toNat []).length (List.drop 0 (f.getD z.toNat []))) k).length<1125899906842624/\0=0/\4=4)/\gG (List.take (sF (List.take (f.getD z.toNat []).length (List.drop 0 (f.getD z.toNat []))) k).length (List.drop 0 (sF (List.take (f.getD z.toNat []).length (List.drop 0 (f.getD z.toNat []))) k)))) (.leaf ((.normal,ax 27 [(0,.one (.c (.slc 0 0 (f.length) 1 (.of 0) false))),(3,.one (.c (.ptr 1 0))),(5,.one (.c (.slc 3 0 ((aF za' (List.take (sF (List.take (f.getD z.toNat []).length (List.drop 0 (f.getD z.toNat []))) k).length (List.drop 0 (sF (List.take (f.getD z.toNat []).length (List.drop 0 (f.getD z.toNat []))) k)))).length) 4 (.of 0) false))),(6,.one (.c (.ptr 2 0))),(7,.one (.c (.int .i64 (IntKind.i64.wrap (z+1)))))] [.lists .fr (f),.live ⟨true,24,0,(.row (Row.cs (v:Fr))),false⟩,.live ⟨true,24,0,(.row (Row.cs (mF k v:Fr))),false⟩,.live ⟨true,24,4,(.rows .fr (aF za' (List.take (sF (List.take (f.getD z.toNat []).length (List.drop 0 (f.getD z.toNat []))) k).length (List.drop 0 (sF (List.take (f.getD z.toNat []).length (List.drop 0 (f.getD z.toNat []))) k))):List Fr)),false⟩]))))))) (.leaf ((.exit 0,ax 27 [(0,.one (.c (.slc 0 0 (f.length) 1 (.of 0) false))),(3,.one (.c (.ptr 1 0))),(5,.one (.c (.slc 3 0 (c) 4 (.of 0) false))),(6,.one (.c (.ptr 2 0))),(7,.one (.c (.int .i64 (z))))] [.lists .fr (f),.live ⟨true,24,0,(.row (Row.cs (v:Fr))),false⟩,.live ⟨true,24,0,(.row (Row.cs (k:Fr))),false⟩,.live ⟨true,24,4,(.rows .fr (q:List Fr)),false⟩]))))):=by kernel_rfl
theorem Pi (oF:Fr) (sF:List Fr->Fr->List Fr) (aF:List Fr->List Fr->List Fr) (mF:Fr->Fr->Fr) (f:List (List Fr)) (v k:Fr) (z:Int) (c:Nat) (q:List Fr):cD (rfE oF sF aF mF) oFrs 100 Try.f47 (rfC.drop 5) (Ml f v k z c q)=(.leaf (some ((List.take c q,(.p (c<=q.length)))))):=by kernel_rfl
noncomputable abbrev lyC:List Code:=flat (ad Try.f43)
noncomputable abbrev lyE (mF:List Fr->Int->Bool):Env:=Ens [(44,K2 (aB .fr) kInt.arg kBool.rs.res mF)] [j0 55]
def Nd (f:List (List Fr)) (n m z:Int):St:=ax 25 [(0,lsV 0 .fr f),(1,vI n),(2,vI m),(7,vI z)] [.lists .fr f]
theorem IS (mF:List Fr->Int->Bool) (f:List (List Fr)) (n m:Int):stageG (lyE mF) 100 (lyC.take 2) (af Try.f43 [lsV 0 .fr f,vI n,vI m] [.lists .fr f]) [0,1,2,7] [0] [(0,.as),(1,.as),(2,.as),(7,.int)] [.as] []=(.leaf (ax 25 [(0,.one (.c (.slc 0 0 (f.length) 1 (.of 0) false))),(1,.one (.c (.int .i64 (n)))),(2,.one (.c (.int .i64 (m)))),(7,.one (.c (.int .i64 0)))] [.lists .fr (f)])):=by kernel_rfl
theorem IT (mF:List Fr->Int->Bool) (f:List (List Fr)) (n m z:Int):oQ (lyE mF) oB 300 Try.f43 [aG Try.f43 0] (Nd f n m z) [0,1,2,7] [0]=(.vc (f.length=f.length) (.br (decide (z<(↑f.length:Int))) (.vc ((0<=z/\z<(↑f.length:Int))/\f.length<=f.length) (.vc (z.toNat<f.length) (.vc (0+(f.getD z.toNat []).length*4<=(ac RK.fr (f.getD z.toNat [])).length/\0=0/\(f.getD z.toNat []).length<1125899906842624/\0=0/\4=4) (.br (!(mF (List.take (f.getD z.toNat []).length (List.drop 0 (f.getD z.toNat []))) m)) (.leaf (.inr (some ((false,.t))))) (.leaf (.inl ((.normal,ax 25 [(0,.one (.c (.slc 0 0 (f.length) 1 (.of 0) false))),(1,.one (.c (.int .i64 (n)))),(2,.one (.c (.int .i64 (m)))),(7,.one (.c (.int .i64 (IntKind.i64.wrap (z+1)))))] [.lists .fr (f)])))))))) (.leaf (.inl ((.exit 0,ax 25 [(0,.one (.c (.slc 0 0 (f.length) 1 (.of 0) false))),(1,.one (.c (.int .i64 (n)))),(2,.one (.c (.int .i64 (m)))),(7,.one (.c (.int .i64 (z))))] [.lists .fr (f)])))))):=by kernel_rfl
theorem PM (mF:List Fr->Int->Bool) (f:List (List Fr)) (n m z:Int):cD (lyE mF) oB 100 Try.f43 (lyC.drop 3) (Nd f n m z) =
 (.vc (f.length=f.length)
  (.leaf (some ((decide ((↑f.length:Int)<=n),.t))))):=by kernel_rfl
noncomputable abbrev lpC:List Code:=flat (ad Try.f51)
noncomputable abbrev lpE (gF:Fr->Pg1):Env:=En [(52,K1 (aa Fr).arg kg1.rs.res gF)]
def Kx (l:List Fr) (z:Int) (c:Nat) (q:List Pg1):St:=ax 20 [(0,rwV .fr 0 l),(3,RM 1 c),(4,vI z)] [bh .fr l,Kg q]
theorem IW (gF:Fr->Pg1) (l:List Fr):stageG (lpE gF) 100 (lpC.take 3) (af Try.f51 [rwV .fr 0 l] [bh .fr l]) [0,3,4] [0] [(0,.as),(3,.nilE 1 13),(4,.int)] [.as] [(30,.rows .g1)]=(.leaf (ax 20 [(0,.one (.c (.slc 0 0 (l.length) 4 (.of 0) false))),(3,.one (.c (.slc 1 0 0 13 (.of 0) false))),(4,.one (.c (.int .i64 0)))] [.live ⟨false,0,4,(.rows .fr (l:List Fr)),false⟩,.live ⟨true,30,13,(.rows .g1 ([]:List Pg1)),false⟩])):=by kernel_rfl
theorem IX (gF:Fr->Pg1) (l:List Fr) (z:Int) (c:Nat) (q:List Pg1):roundP (lpE gF) 300 (aG Try.f51 0) (Kx l z c q) (fo [0,3,4] [0] [3])=(.vc (0+l.length*4<=(ac RK.fr l).length/\0<4) (.br (decide (z<(↑l.length:Int))) (.vc ((0<=z/\z<(↑l.length:Int))/\0+l.length*4<=(ac RK.fr l).length/\0<4/\0=0) (.vc (0+z.toNat<l.length) (.vc ((0+c*13<=(ac RK.g1 q).length/\0=0)/\c+1<=9223372036854775807/\(c+1)*104<=140737488355328) (.leaf ((.normal,ax 20 [(0,.one (.c (.slc 0 0 (l.length) 4 (.of 0) false))),(3,.one (.c (.slc 1 0 (c+1) 13 (.of 0) false))),(4,.one (.c (.int .i64 (IntKind.i64.wrap (z+1)))))] [.live ⟨false,0,4,(.rows .fr (l:List Fr)),false⟩,.live ⟨true,30,13,(.rows .g1 (List.take (iV c (13 / 13)) (List.drop 0 q) ++ [gF (l.getD (0+z.toNat) { l0:=0,l1:=0,l2:=0,l3:=0 })]:List Pg1)),false⟩])))))) (.leaf ((.exit 0,ax 20 [(0,.one (.c (.slc 0 0 (l.length) 4 (.of 0) false))),(3,.one (.c (.slc 1 0 (c) 13 (.of 0) false))),(4,.one (.c (.int .i64 (z))))] [.live ⟨false,0,4,(.rows .fr (l:List Fr)),false⟩,.live ⟨true,30,13,(.rows .g1 (q:List Pg1)),false⟩]))))):=by kernel_rfl
theorem PQ (gF:Fr->Pg1) (l:List Fr) (z:Int) (c:Nat) (q:List Pg1):cD (lpE gF) oG1s 100 Try.f51 (lpC.drop 4) (Kx l z c q) =
 (.leaf (some ((List.take c q,(.p (c<=q.length)))))):=by kernel_rfl
noncomputable abbrev lbE (fF:List (List Fr)->Fr->List Fr) (sF:List Fr->Fr->Fr) (g:Pg1) (pF:List Pg1->Fr->Pg1):Env:=Ens [(46,K2 GO (aa Fr).arg oFrs.res fF),(48,K2 cQ (aa Fr).arg r4.res sF),(22,K0 kg1.rs.res g),(50,K2 ((aB .g1).such few) (aa Fr).arg kg1.rs.res pF)] [46]
theorem PY (fF:List (List Fr)->Fr->List Fr) (sF:List Fr->Fr->Fr) (g:Pg1) (pF:List Pg1->Fr->Pg1):letI za':=(fF [[{ l0:=UInt64.ofNat 1,l1:=UInt64.ofNat 0,l2:=UInt64.ofNat 0,l3:=UInt64.ofNat 0 }],[{ l0:=UInt64.ofNat 2,l1:=UInt64.ofNat 0,l2:=UInt64.ofNat 0,l3:=UInt64.ofNat 0 }]] { l0:=UInt64.ofNat 3,l1:=UInt64.ofNat 0,l2:=UInt64.ofNat 0,l3:=UInt64.ofNat 0 });letI zb':=(pF [g] { l0:=UInt64.ofNat 3,l1:=UInt64.ofNat 0,l2:=UInt64.ofNat 0,l3:=UInt64.ofNat 0 });letI zc':Fr := { l0:=UInt64.ofNat 1,l1:=UInt64.ofNat 0,l2:=UInt64.ofNat 0,l3:=UInt64.ofNat 0 };letI zd':Fr := { l0:=UInt64.ofNat 2,l1:=UInt64.ofNat 0,l2:=UInt64.ofNat 0,l3:=UInt64.ofNat 0 };letI ze':=({ l0:=UInt64.ofNat 7,l1:=UInt64.ofNat 0,l2:=UInt64.ofNat 0,l3:=UInt64.ofNat 0 });cD (lbE fF sF g pF) oB 300 Try.f42 (flat (ad Try.f42)) (af Try.f42 [] [])=(.vc (l7 [[zc'],[zd']]) (.vc (0+za'.length*4<=(ac RK.fr za').length/\0<4) (.br ((↑za'.length:Int)==1) (.vc (0<za'.length/\0+za'.length*4<=(ac RK.fr za').length/\0<4/\0=0) (.vc (0<za'.length) (.br (fJ (za'.getD 0 { l0:=0,l1:=0,l2:=0,l3:=0 }) ze') (.vc (gG [zc',zd']) (.br (fJ (sF [zc',zd'] { l0:=UInt64.ofNat 3,l1:=UInt64.ofNat 0,l2:=UInt64.ofNat 0,l3:=UInt64.ofNat 0 }) ze') (.vc (few [g]) (.leaf (some ((zb'.x.l0==g.x.l0 && (zb'.x.l1==g.x.l1 && (zb'.x.l2==g.x.l2 && (zb'.x.l3==g.x.l3 && (zb'.x.l4==g.x.l4 && (zb'.x.l5==g.x.l5 && true))))) && (zb'.y.l0==g.y.l0 && (zb'.y.l1==g.y.l1 && (zb'.y.l2==g.y.l2 && (zb'.y.l3==g.y.l3 && (zb'.y.l4==g.y.l4 && (zb'.y.l5==g.y.l5 && true))))) && (zb'.inf==g.inf && true)),.t))))) (.leaf (some ((false,.t)))))) (.leaf (some ((false,.t))))))) (.leaf (some ((false,.t))))))):=by kernel_rfl
end
set_option maxRecDepth 100000
section
def pwK (o:Fr) (mF:Fr->Fr->Fr) (x:Fr):Nat->Fr
 | 0=>o
 | n+1=>mF (pwK o mF x n) x
theorem mQ (o:Fr) (mF:Fr->Fr->Fr) (x:Fr) (n:Nat):pwK o mF x (n+1)=mF (pwK o mF x n) x:=rfl
def pwL (o:Fr) (mF:Fr->Fr->Fr) (x:Fr) (n:Nat):List Fr:=(List.range n).map (pwK o mF x)
theorem CV (o:Fr) (mF:Fr->Fr->Fr) (x:Fr) (n:Nat):(pwL o mF x n).length=n:=by unfold pwL;rw [List.length_map,List.length_range]
theorem HV (o:Fr) (mF:Fr->Fr->Fr) (x:Fr) (n:Nat):pwL o mF x (n+1)=pwL o mF x n ++ [pwK o mF x n]:=by unfold pwL;rw [List.range_succ,List.map_append];rfl
theorem NN {oF:UInt64->Fr} {mF:Fr->Fr->Fr} (hE:EnvOk (bpE oF mF)) (x:Fr) (n:Nat) (hn:n<4294967296):DoesL (bpE oF mF) (flat (ad Try.f104)) (af Try.f104 [v4 x,vI n] [])
  (EndsAs (bpE oF mF) Try.f104 (bK oFrs (pwL (oF (UInt64.ofNat 1)) mF x n))):=by
 refine DoesL.stageG hE 100 4 _ _ _ _ _ (Jz oF mF x n) ?_
 refine (?_:DoesL _ _ (NO x (pwK (oF (UInt64.ofNat 1)) mF x 0) n ((0:Nat):Int) 0 (pwL (oF (UInt64.ofNat 1)) mF x 0)) _)
 generalize oF (UInt64.ofNat 1)=o
 refine DoesL.blockLoop (B:=aG Try.f104 0) (rest:=bpC.drop 5) (id:=0) (by kernel_rfl) (fun j : { j:Nat // j<=n }=>NO x (pwK o mF x j.1) n (j.1:Int) j.1 (pwL o mF x j.1)) (fun j=>n-j.1) ⟨0,Nat.zero_le _⟩ fun j => ?_
 obtain ⟨j,hj⟩:=j
 refine (?_:Does _ _ (NO x (pwK o mF x j) n (j:Int) j (pwL o mF x j)) _)
 have hlen:=CV o mF x j
 refine Does.roundP hE 300 _ (JA oF mF x (pwK o mF x j) n (j:Int) j (pwL o mF x j)) ⟨fun h => ?_,fun h => ?_⟩
 ·simp only [decide_eq_true_eq] at h
  refine ⟨⟨⟨by rw [aE,hlen];omega,rfl⟩,by omega,by omega⟩,?_⟩
  intro _
  refine ⟨⟨j+1,by omega⟩,by show n-(j+1)<n-j;omega,?_⟩
  rw [pS j (by omega),lH hlen,<- HV,<- mQ o mF x j]
  rfl
 ·simp only [decide_eq_false_iff_not] at h
  obtain rfl:j=n:=by omega
  refine ⟨rfl,DoesL.ends hE 100 (QA oF mF x _ _ _ _ _) ?_⟩
  rw [List.take_of_length_le (Nat.le_of_eq hlen)]
  exact ⟨_,rfl,Nat.le_of_eq hlen.symm⟩
def gS (x:Fr) (n:Int):List Fr:=pwL (oz (UInt64.ofNat 1)) cZ x n.toNat
theorem yO:CallOk Try.prog 104 (K2 (aa Fr).arg Q1 oFrs.res gS) :=
 G2 (E:=bpE oz cZ) Try.func104 (c:=ad Try.f104) (by kernel_rfl) (ae Try.func104 (by kernel_rfl) (by kernel_rfl)) (aa Fr).inp (kInt.inp.such Nj) oFrs gS fun x n _ hn=>by
  obtain ⟨h1,h2⟩:Nj n:=hn.2
  obtain ⟨m,rfl⟩ : ∃ m:Nat,n=(m:Int):=⟨n.toNat,by omega⟩
  exact NN (aw (.cons C7 (.cons mY .nil))) x m (by omega)
def wx (aF mF:Fr->Fr->Fr) (y k:List Fr):Nat->Fr
 | 0=>frZ
 | n+1=>aF (wx aF mF y k n) (mF (y.getD n frZ) (k.getD n frZ))
theorem Gj (aF mF:Fr->Fr->Fr) (y k:List Fr) (n:Nat):wx aF mF y k (n+1)=aF (wx aF mF y k n) (mF (y.getD n frZ) (k.getD n frZ)):=rfl
theorem NL {pF:Fr->Int->List Fr} {aF mF:Fr->Fr->Fr} (hE:EnvOk (bsE pF aF mF)) (y:List Fr) (v:Fr) (hy:y.length<4294967296) (hp:(pF v (y.length:Int)).length=y.length):DoesL (bsE pF aF mF) (flat (ad Try.f48)) (af Try.f48 [rwV .fr 0 y,v4 v] [bh .fr y])
  (EndsAs (bsE pF aF mF) Try.f48 (bK r4.out (wx aF mF y (pF v (y.length:Int)) y.length))):=by
 have st:=Jx pF aF mF y v
 generalize pF v (y.length:Int)=k at *
 refine DoesL.stageG hE 100 3 _ _ _ _ _ st ⟨bf y,fun _=>⟨⟨by omega,by omega⟩,fun _=>⟨bf _,fun _ => ?_⟩⟩⟩
 rw [hp]
 refine (?_:DoesL _ _ (NM y (wx aF mF y k 0) (y.length:Int) ((0:Nat):Int) y.length k) _)
 refine DoesL.blockLoop (B:=aG Try.f48 0) (rest:=bsC.drop 4) (id:=0) (by kernel_rfl) (fun j : { j:Nat // j<=y.length }=>NM y (wx aF mF y k j.1) (y.length:Int) (j.1:Int) y.length k) (fun j=>y.length-j.1) ⟨0,Nat.zero_le _⟩ fun j => ?_
 obtain ⟨j,hj⟩:=j
 refine (?_:Does _ _ (NM y (wx aF mF y k j) (y.length:Int) (j:Int) y.length k) _)
 refine Does.round hE 300 _ (Jy pF aF mF y (wx aF mF y k j) _ (j:Int) _ k) ⟨fun h => ?_,fun h => ?_⟩
 ·simp only [decide_eq_true_eq] at h
  have hj1:j<y.length:=by omega
  refine ⟨⟨⟨by omega,by omega⟩,by rw [aE,hp];omega,by decide,rfl⟩,fun _=>⟨by rw [hp];omega,fun _=>⟨gh hj1,fun _=>⟨pV hj1,fun _ => ?_⟩⟩⟩⟩
  refine ⟨⟨j+1,hj1⟩,by show y.length-(j+1)<y.length-j;omega,?_⟩
  rw [pS j (by omega),kf]
  rfl
 ·simp only [decide_eq_false_iff_not] at h
  obtain rfl:j=y.length:=by omega
  exact ⟨rfl,DoesL.ends hE 100 (Qy pF aF mF y _ _ _ _ k) ⟨_,rfl,trivial⟩⟩
theorem ku (x:Fr) (n:Nat):(gS x (n:Int)).length=n:=by
 unfold gS
 rw [CV,Int.toNat_natCast]
def dU (y:List Fr) (v:Fr):Fr:=wx eG cZ y (gS v (y.length:Int)) y.length
theorem se:CallOk Try.prog 48 (K2 cQ (aa Fr).arg r4.res dU) :=
 G2 (E:=bsE gS eG cZ) Try.func48 (c:=ad Try.f48) (by kernel_rfl) (ae Try.func48 (by kernel_rfl) (by kernel_rfl)) iFew (aa Fr).inp r4.out dU fun y v hy _ =>
  NL (bP (.cons yO (.cons sD (.cons mY .nil)))) y v hy.2 (ku v _)
def jK (l:List Pg1) (v:Fr):Pg1:=dT l (gS v (l.length:Int))
theorem vX:CallOk Try.prog 50 (K2 ((aB .g1).such few) (aa Fr).arg kg1.rs.res jK) :=
 G2 (E:=bqE gS dT) Try.func50 (c:=ad Try.f50) (by kernel_rfl) (ae Try.func50 (by kernel_rfl) (by kernel_rfl)) ((cI .g1).such few) (aa Fr).inp kg1.rs.out jK fun l v hl _=>by
  have hl:l.length<4294967296:=hl.2
  refine DoesL.ends (bP (.cons yO (.cons yu .nil))) 100 (Qz gS dT l v) ⟨vD l,fun _=>⟨⟨by omega,by omega⟩,fun _=>⟨⟨⟨⟨by rw [eK];omega,rfl,by omega,rfl,rfl⟩,?_⟩,by rw [aE];omega,rfl,by rw [ku];omega,rfl,rfl⟩,fun _ => ?_⟩⟩⟩
  ·show (List.take _ (List.drop 0 l)).length<4294967296
   rw [List.length_take]
   omega
  ·rw [ap rfl,List.drop_zero,List.take_length]
   exact ⟨_,rfl,trivial⟩
theorem we (l m:List Fr) {n:Nat} (hl:l.length<=n) (hm:m.length<=n):bR l m<=n:=Nat.max_le.2 ⟨hm,hl⟩
theorem MP (l m:List Fr) {n:Nat} (hl:l.length<=n) (hm:m.length<=n):(ez l m).length<=n:=by
 unfold ez lb
 refine Nat.le_trans (rH _) ?_
 rw [List.length_map,List.length_range]
 exact we l m hl hm
theorem EL (l:List Fr) (k:Fr):(bm l k).length<=l.length:=by
 unfold bm mw
 refine Nat.le_trans (rH _) ?_
 rw [List.length_map,List.length_range]
 exact we l [] (Nat.le_refl _) (Nat.zero_le _)
theorem Mx (l m:List Fr) {n:Nat} (hl:l.length<=n) (hm:m.length<=n):(cT l m).length<=n:=by
 unfold cT
 refine Nat.le_trans (rH _) ?_
 rw [uI]
 exact we l m hl hm
theorem ua (l:List Fr) (k:Fr):(aW l k).length<=l.length:=by
 unfold aW
 refine Nat.le_trans (rH _) ?_
 rw [List.length_map]
 exact Nat.le_refl _
def lZ (sF:List Fr->Fr->List Fr) (aF:List Fr->List Fr->List Fr) (f:List (List Fr)) (v:Fr):Nat->List Fr->List Fr
 | 0,q=>q
 | n+1,q=>lZ sF aF f v n (aF (sF q v) (f.getD n []))
theorem lY (sF:List Fr->Fr->List Fr) (aF:List Fr->List Fr->List Fr) (f:List (List Fr)) (v:Fr) (n:Nat) (q:List Fr):lZ sF aF f v (n+1) q=lZ sF aF f v n (aF (sF q v) (f.getD n [])):=rfl
theorem sy {f:List (List Fr)} (h:l7 f) (n:Nat):(f.getD n []).length<4294967296:=by
 rw [List.getD_eq_getElem?_getD]
 cases e:f[n]? with
 | none=>decide
 | some x=>exact h.2 x (List.mem_of_getElem? e)
abbrev BfQ (f:List (List Fr)) (v:Fr):Type := { s:Nat × List Fr // s.1<=f.length/\s.2.length<4294967296/\lZ bm ez f v s.1 s.2=lZ bm ez f v f.length [] }
def fT (f:List (List Fr)) (v:Fr):List Fr:=lZ bm ez f v f.length []
theorem JG (hE:EnvOk (bfE bm ez)) (f:List (List Fr)) (v:Fr):DoesL (bfE bm ez) ((flat (dx Try.f46)).take 3) (ax 23 [(0,lsV 0 .fr f),(3,cn 1)] [.lists .fr f,own 24 (Row.cs v)])
  fun r=>match r.1 with | .normal=>r.2=QZ f v (f.length:Int) 0 [] | _=>False:=by
 have st:=JE bm ez f v
 rw [<- show List.take 3 (List.take 3 (flat (dx Try.f46)))=List.take 3 (flat (dx Try.f46)) by rw [List.take_take];rfl] at st
 refine DoesL.stageG hE 100 3 _ _ _ _ _ st ⟨rfl,fun _ => ?_⟩
 rw [show List.drop 3 (List.take 3 (flat (dx Try.f46))) = [] by kernel_rfl]
 exact ⟨_,Wk.refl _,rfl⟩
theorem o0 {f:List Fr} {c:Nat} (hc:f.length=c) (h:c<4294967296):(0+c*4<=(ac RK.fr f).length/\0=0/\c<1125899906842624/\0=0/\4=4)/\gG (List.take c (List.drop 0 f)):=by
 subst hc
 exact d9 h
theorem zt:CallOk Try.prog 46 (K2 GO (aa Fr).arg oFrs.res fT) :=
 G2 (E:=bfE bm ez) Try.func46 (c:=ad Try.f46) (by kernel_rfl) (ae Try.func46 (by kernel_rfl) (by kernel_rfl)) RW (aa Fr).inp oFrs fT fun f v hf _=>by
  have hf:l7 f:=hf.2
  have hE:EnvOk (bfE bm ez):=bP (.cons A2 (.cons Ig .nil))
  refine DoesL.stageE hE 100 1 _ _ (JF bm ez f v) ?_
  refine DoesL.scopeFnG (body:=dx Try.f46) (rest:=B3 Try.f46) (tail := []) (l:=0) hE (by kernel_rfl) (by kernel_rfl) 3 (by kernel_rfl) (fun s:BfQ f v=>QZ f v (s.1.1:Int) s.1.2.length s.1.2) (fun s=>s.1.1)
   ⟨(f.length,[]),Nat.le_refl _,Nat.zero_lt_succ _,rfl⟩ (JG hE f v) fun s => ?_
  obtain ⟨⟨m,q⟩,h0,h1,h2⟩:=s
  simp only [] at h0 h1 h2
  have hlf:=hf.1
  have hz:IntKind.i64.wrap ((m:Int)-1)=(m:Int)-1:=IntWalk.i64_in _ (by omega)
  refine DoesL.iterP hE 300 _ (NT bm ez f v (m:Int) q.length q) ?_
  rw [hz]
  refine ⟨fun h => ?_,fun h => ?_⟩
  ·simp only [decide_eq_true_eq] at h
   obtain rfl:m=0:=by omega
   have h2:q=fT f v:=h2
   rw [List.take_length,<- h2]
   exact ⟨_,rfl,Nat.le_refl _⟩
  ·simp only [decide_eq_false_iff_not] at h
   obtain ⟨n,rfl⟩ : ∃ n:Nat,m=n+1:=⟨m-1,by omega⟩
   have e1:((n+1:Nat):Int)-1=(n:Int):=by omega
   rw [e1,Int.toNat_natCast]
   have hs:(bm q v).length<4294967296:=Nat.lt_of_le_of_lt (EL q v) h1
   have hg:=sy hf n
   rw [lY] at h2
   generalize f.getD n []=fn at *
   have eq:List.take q.length (List.drop 0 q)=q:=ap rfl
   refine ⟨o0 rfl h1,fun _=>⟨⟨⟨by omega,by omega⟩,Nat.le_refl _⟩,fun _=>⟨by omega,fun _ => ?_⟩⟩⟩
   rw [eq]
   refine ⟨⟨o0 rfl hs,o0 rfl hg⟩,fun _ => ?_⟩
   rw [ap (xs:=bm q v) rfl,ap (xs:=fn) rfl]
   refine ⟨rfl,⟨(n,ez (bm q v) fn),by show n<=f.length;omega,?_,h2⟩,Nat.lt_succ_self _,rfl⟩
   refine Nat.lt_of_le_of_lt (MP _ _ (n:=4294967295) ?_ ?_) (by decide)
   ·omega
   ·omega
def fS (sF:List Fr->Fr->List Fr) (aF:List Fr->List Fr->List Fr) (mF:Fr->Fr->Fr) (o:Fr) (f:List (List Fr)) (v:Fr):Nat->List Fr
 | 0 => []
 | n+1=>aF (fS sF aF mF o f v n) (sF (f.getD n []) (pwK o mF v n))
theorem i9 (sF:List Fr->Fr->List Fr) (aF:List Fr->List Fr->List Fr) (mF:Fr->Fr->Fr) (o:Fr) (f:List (List Fr)) (v:Fr) (n:Nat):fS sF aF mF o f v (n+1)=aF (fS sF aF mF o f v n) (sF (f.getD n []) (pwK o mF v n)):=rfl
def kI (f:List (List Fr)) (v:Fr):List Fr:=fS aW cT aQ a9 f v f.length
theorem n7 {f:List (List Fr)} (hf:l7 f) (o v:Fr) (mF:Fr->Fr->Fr) : ∀ n,(fS aW cT mF o f v n).length<4294967296
 | 0=>Nat.zero_lt_succ _
 | n+1=>by
  rw [i9]
  have h1:=n7 hf o v mF n
  have h2:=ua (f.getD n []) (pwK o mF v n)
  have h3:=sy hf n
  refine Nat.lt_of_le_of_lt (Mx _ _ (n:=4294967295) ?_ ?_) (by decide)
  ·omega
  ·omega
theorem Jn:CallOk Try.prog 47 (K2 GO (aa Fr).arg oFrs.res kI) :=
 G2 (E:=rfE a9 aW cT aQ) Try.func47 (c:=ad Try.f47) (by kernel_rfl) (ae Try.func47 (by kernel_rfl) (by kernel_rfl)) RW (aa Fr).inp oFrs kI fun f v hf _=>by
  have hf:l7 f:=hf.2
  have hE:EnvOk (rfE a9 aW cT aQ):=bP (.cons ub (.cons AF (.cons HU (.cons nX .nil))))
  refine DoesL.stageG hE 100 4 _ _ _ _ _ (HD a9 aW cT aQ f v) ?_
  refine (?_:DoesL _ _ (Ml f v (pwK a9 aQ v 0) ((0:Nat):Int) (fS aW cT aQ a9 f v 0).length (fS aW cT aQ a9 f v 0)) _)
  refine DoesL.blockLoop (B:=aG Try.f47 0) (rest:=rfC.drop 5) (id:=0) (by kernel_rfl) (fun j : { j:Nat // j<=f.length }=>Ml f v (pwK a9 aQ v j.1) (j.1:Int) (fS aW cT aQ a9 f v j.1).length (fS aW cT aQ a9 f v j.1)) (fun j=>f.length-j.1) ⟨0,Nat.zero_le _⟩ fun j => ?_
  obtain ⟨j,hj⟩:=j
  refine (?_:Does _ _ (Ml f v (pwK a9 aQ v j) (j:Int) (fS aW cT aQ a9 f v j).length (fS aW cT aQ a9 f v j)) _)
  have h1:=n7 hf a9 v aQ j
  have hlf:=hf.1
  have rd:=HF a9 aW cT aQ f v (pwK a9 aQ v j) (j:Int) (fS aW cT aQ a9 f v j).length (fS aW cT aQ a9 f v j)
  have hnext:=i9 aW cT aQ a9 f v j
  have hk:=mQ a9 aQ v j
  generalize hq:fS aW cT aQ a9 f v j=q at *
  generalize pwK a9 aQ v j=k at *
  refine Does.roundP hE 300 _ rd ⟨rfl,fun _=>⟨fun h => ?_,fun h => ?_⟩⟩
  ·simp only [decide_eq_true_eq] at h
   have hj1:j<f.length:=by omega
   have hg:=sy hf j
   rw [Int.toNat_natCast]
   generalize f.getD j []=fn at *
   have hs:(aW fn k).length<4294967296:=Nat.lt_of_le_of_lt (ua fn k) hg
   refine ⟨⟨⟨by omega,by omega⟩,Nat.le_refl _⟩,fun _=>⟨hj1,fun _=>⟨o0 rfl hg,fun _ => ?_⟩⟩⟩
   rw [ap (xs:=fn) rfl]
   refine ⟨⟨o0 rfl h1,o0 rfl hs⟩,fun _ => ?_⟩
   rw [ap (xs:=q) rfl,ap (xs:=aW fn k) rfl]
   refine ⟨⟨j+1,hj1⟩,by show f.length-(j+1)<f.length-j;omega,?_⟩
   rw [hnext,hk,pS j (by omega)]
   rfl
  ·simp only [decide_eq_false_iff_not] at h
   obtain rfl:j=f.length:=by omega
   refine ⟨rfl,DoesL.ends hE 100 (Pi a9 aW cT aQ f v k _ _ q) ?_⟩
   rw [List.take_length,<- hq]
   exact ⟨_,rfl,Nat.le_refl _⟩
end
set_option maxRecDepth 100000
section
def kE (mF:List Fr->Int->Bool) (m:Int):List (List Fr)->Bool
 | []=>true
 | x :: l=>match !(mF x m) with
  | true=>false
  | false=>kE mF m l
theorem ra (mF:List Fr->Int->Bool) (m:Int) (x:List Fr) (l:List (List Fr)):kE mF m (x :: l)=match !(mF x m) with | true=>false | false=>kE mF m l:=rfl
def iq (f:List (List Fr)) (n m:Int):Bool:=match kE bv m f with
 | true=>decide ((f.length:Int)<=n)
 | false=>false
theorem FN (f:List (List Fr)) {i:Nat} (h:i<f.length):f.drop i=f.getD i [] :: f.drop (i+1):=by
 rw [List.drop_eq_getElem_cons h,List.getD_eq_getElem?_getD,List.getElem?_eq_getElem h]
 rfl
abbrev LyQ (f:List (List Fr)) (m:Int):Type := { i:Nat // i<=f.length/\kE bv m (f.drop i)=kE bv m f }
theorem IP:CallOk Try.prog 43 (K3 (w9 .fr) kInt.arg kInt.arg kBool.rs.res iq) :=
 G3 (E:=lyE bv) Try.func43 (c:=ad Try.f43) (by kernel_rfl) (ae Try.func43 (by kernel_rfl) (by kernel_rfl)) (Gz .fr) kInt.inp kInt.inp oB iq fun f n m hf _ _=>by
  have hl:f.length<1125899906842624:=hf.1
  have hs:=hf.2
  have hE:EnvOk (lyE bv):=bP (.cons ss .nil)
  refine DoesL.stageG hE 100 2 _ _ _ _ _ (IS bv f n m) ?_
  refine (?_:DoesL _ _ (Nd f n m ((0:Nat):Int)) _)
  refine DoesL.blockLoopR (B:=aG Try.f43 0) (rest:=lyC.drop 3) (id:=0) (by kernel_rfl) (fun i:LyQ f m=>Nd f n m (i.1:Int)) (fun i=>f.length-i.1) ⟨0,Nat.zero_le _,rfl⟩ fun s => ?_
  obtain ⟨i,h0,h1⟩:=s
  refine (?_:DoesL _ _ (Nd f n m (i:Int)) _)
  refine DoesL.iter hE 300 _ _ (IT bv f n m (i:Int)) ⟨rfl,fun _=>⟨fun h => ?_,fun h => ?_⟩⟩
  ·simp only [decide_eq_true_eq] at h
   have hi:i<f.length:=by omega
   rw [FN f hi,ra] at h1
   rw [Int.toNat_natCast,show IntKind.i64.wrap ((i:Int)+1)=((i+1:Nat):Int) from (IntWalk.i64_in _ (by omega)).trans (by omega)]
   have hg:(f.getD i []).length<1125899906842624:=by
    rw [List.getD_eq_getElem?_getD,List.getElem?_eq_getElem hi]
    exact hs _ (List.getElem_mem hi)
   generalize f.getD i []=fi at *
   refine ⟨⟨⟨by omega,by omega⟩,Nat.le_refl _⟩,fun _=>⟨hi,fun _=>⟨bN hg,fun _ => ?_⟩⟩⟩
   rw [ap rfl]
   refine ⟨fun h2 => ?_,fun h2 => ?_⟩
   ·rw [h2] at h1
    have h1:false=kE bv m f:=h1
    exact ⟨.t,by unfold iq;rw [<- h1],trivial⟩
   ·rw [h2] at h1
    have h1:kE bv m (f.drop (i+1))=kE bv m f:=h1
    exact ⟨⟨i+1,hi,h1⟩,by show f.length-(i+1)<f.length-i;omega,rfl⟩
  ·simp only [decide_eq_false_iff_not] at h
   obtain rfl:i=f.length:=by omega
   rw [List.drop_length] at h1
   have h1:true=kE bv m f:=h1
   refine ⟨rfl,DoesL.ends hE 100 (PM bv f n m _) ⟨rfl,fun _=>⟨.t,?_,trivial⟩⟩⟩
   unfold iq
   rw [<- h1]
def bu (l:List Fr):List Pg1:=l.map bM
theorem EC (l:List Fr) (j:Nat) (hj:j<=l.length):((l.take j).map bM).length=j:=by rw [List.length_map,List.length_take,Nat.min_eq_left hj]
theorem yS:CallOk Try.prog 51 (K1 cQ oG1s.res bu) :=
 G1 (E:=lpE bM) Try.func51 (c:=ad Try.f51) (by kernel_rfl) (ae Try.func51 (by kernel_rfl) (by kernel_rfl)) iFew oG1s bu fun l hl=>by
  have hl:l.length<4294967296:=hl.2
  have hE:EnvOk (lpE bM):=aw (.cons ng .nil)
  refine DoesL.stageG hE 100 3 _ _ _ _ _ (IW bM l) ?_
  refine (?_:DoesL _ _ (Kx l ((0:Nat):Int) 0 ((l.take 0).map bM)) _)
  refine DoesL.blockLoop (B:=aG Try.f51 0) (rest:=lpC.drop 4) (id:=0) (by kernel_rfl) (fun j : { j:Nat // j<=l.length }=>Kx l (j.1:Int) j.1 ((l.take j.1).map bM)) (fun j=>l.length-j.1) ⟨0,Nat.zero_le _⟩ fun j => ?_
  obtain ⟨j,hj⟩:=j
  refine (?_:Does _ _ (Kx l (j:Int) j ((l.take j).map bM)) _)
  have hlen:=EC l j hj
  refine Does.roundP hE 300 _ (IX bM l (j:Int) j ((l.take j).map bM)) ⟨bf l,fun _=>⟨fun h => ?_,fun h => ?_⟩⟩
  ·simp only [decide_eq_true_eq] at h
   have hj1:j<l.length:=by omega
   refine ⟨gh hj1,fun _=>⟨pV hj1,fun _=>⟨⟨⟨by rw [eK,hlen];omega,rfl⟩,by omega,by omega⟩,fun _ => ?_⟩⟩⟩
   refine ⟨⟨j+1,hj1⟩,by show l.length-(j+1)<l.length-j;omega,?_⟩
   show _=Kx l ((j+1:Nat):Int) (j+1) ((l.take (j+1)).map bM)
   rw [pS j (by omega),zY hlen,eU l hj1,List.map_append,kf]
   rfl
  ·simp only [decide_eq_false_iff_not] at h
   obtain rfl:j=l.length:=by omega
   rw [List.take_length] at hlen ⊢
   refine ⟨rfl,DoesL.ends hE 100 (PQ bM l _ _ _) ?_⟩
   rw [List.take_of_length_le (Nat.le_of_eq hlen)]
   exact ⟨_,rfl,Nat.le_of_eq hlen.symm⟩
def fr1:Fr:=⟨UInt64.ofNat 1,UInt64.ofNat 0,UInt64.ofNat 0,UInt64.ofNat 0⟩
def fr2:Fr:=⟨UInt64.ofNat 2,UInt64.ofNat 0,UInt64.ofNat 0,UInt64.ofNat 0⟩
def fr3:Fr:=⟨UInt64.ofNat 3,UInt64.ofNat 0,UInt64.ofNat 0,UInt64.ofNat 0⟩
def fr7:Fr:=⟨UInt64.ofNat 7,UInt64.ofNat 0,UInt64.ofNat 0,UInt64.ofNat 0⟩
def DF (fF:List (List Fr)->Fr->List Fr) (sF:List Fr->Fr->Fr) (g:Pg1) (pF:List Pg1->Fr->Pg1):Bool :=
 match ((fF [[fr1],[fr2]] fr3).length:Int)==1 with
 | true=>match fJ ((fF [[fr1],[fr2]] fr3).getD 0 frZ) fr7 with
  | true=>match fJ (sF [fr1,fr2] fr3) fr7 with
   | true=>tx (pF [g] fr3) g
   | false=>false
  | false=>false
 | false=>false
theorem JH {fF:List (List Fr)->Fr->List Fr} {sF:List Fr->Fr->Fr} {g:Pg1} {pF:List Pg1->Fr->Pg1} (hE:EnvOk (lbE fF sF g pF)):DoesL (lbE fF sF g pF) (flat (ad Try.f42)) (af Try.f42 [] [])
  (EndsAs (lbE fF sF g pF) Try.f42 (bK oB (DF fF sF g pF))):=by
 refine DoesL.ends hE 300 (PY fF sF g pF) ⟨⟨by decide,by decide⟩,fun _=>⟨bf _,fun _=>⟨fun h1 => ?_,fun h1 => ?_⟩⟩⟩
 ·have hp:0<(fF [[fr1],[fr2]] fr3).length:=by
   have:=of_decide_eq_true h1
   have h1':((fF [[fr1],[fr2]] fr3).length:Int)=1:=eq_of_beq h1
   omega
  refine ⟨⟨hp,by rw [aE];omega,by decide,rfl⟩,fun _=>⟨hp,fun _=>⟨fun h2 => ?_,fun h2 => ?_⟩⟩⟩
  ·refine ⟨by decide,fun _=>⟨fun h3 => ?_,fun h3 => ?_⟩⟩
   ·refine ⟨Nat.succ_lt_succ (Nat.zero_lt_succ _),fun _=>⟨.t,?_,trivial⟩⟩
    have h1:(((fF [[fr1],[fr2]] fr3).length:Int)==1)=true:=h1
    have h2:fJ ((fF [[fr1],[fr2]] fr3).getD 0 frZ) fr7=true:=h2
    have h3:fJ (sF [fr1,fr2] fr3) fr7=true:=h3
    unfold DF
    rw [h1,h2,h3]
    rfl
   ·have h1:(((fF [[fr1],[fr2]] fr3).length:Int)==1)=true:=h1
    have h2:fJ ((fF [[fr1],[fr2]] fr3).getD 0 frZ) fr7=true:=h2
    have h3:fJ (sF [fr1,fr2] fr3) fr7=false:=h3
    refine ⟨.t,?_,trivial⟩
    unfold DF
    rw [h1,h2,h3]
  ·have h1:(((fF [[fr1],[fr2]] fr3).length:Int)==1)=true:=h1
   have h2:fJ ((fF [[fr1],[fr2]] fr3).getD 0 frZ) fr7=false:=h2
   refine ⟨.t,?_,trivial⟩
   unfold DF
   rw [h1,h2]
 ·have h1:(((fF [[fr1],[fr2]] fr3).length:Int)==1)=false:=h1
  refine ⟨.t,?_,trivial⟩
  unfold DF
  rw [h1]
def b7:Bool:=DF fT dU jD jK
theorem rQ:CallOk Try.prog 42 (K0 kBool.rs.res b7) :=
 G0 (E:=lbE fT dU jD jK) Try.func42 (c:=ad Try.f42) (by kernel_rfl) (ae Try.func42 (by kernel_rfl) (by kernel_rfl)) oB b7
  (JH (bP (.cons zt (.cons se (.cons zr (.cons vX .nil))))))
end
set_option maxRecDepth 100000
section
def iJ (f0:UInt64->Fr) (f1:List Pg1->List Fr->Pg1) (f2:List Fr->Fr->Fr) (f3:Fr->Fr->Fr) (f4:Fr->Fr->Fr) (f5:Fr->Fr) (f6:List Pg1->Fr->Pg1) (f7:Pg1) (c:List Pg1) (y:List Fr) (z:Fr) (d:List Pg1) (u:List Fr) (x:Fr) (v:Fr) (r:Fr) (ws:PP):Tree (Option ((Pg1 × Pg1) × Pr)):=letI za':=List.take c.length (List.drop 0 c);letI zb':=List.take d.length (List.drop 0 d);letI zc':=List.take y.length (List.drop 0 y);letI zd':=List.take u.length (List.drop 0 u);
 (.vc (few [ws.a,ws.b]) (.vc ((0+y.length*4<=(ac RK.fr y).length/\0=0/\y.length<1125899906842624/\0=0/\4=4)/\gG zc') (.vc ((0+u.length*4<=(ac RK.fr u).length/\0=0/\u.length<1125899906842624/\0=0/\4=4)/\gG zd') (.vc ((0+c.length*13<=(ac RK.g1 c).length/\0=0/\c.length<1125899906842624/\0=0/\13=13)/\few za') (.vc ((0+d.length*13<=(ac RK.g1 d).length/\0=0/\d.length<1125899906842624/\0=0/\13=13)/\few zb') (.vc (few [ws.a,ws.b,f6 za' v,f6 zb' v,f7]) (.leaf (some (((f1 [ws.a,ws.b] [f0 (UInt64.ofNat 1),r],f1 [ws.a,ws.b,f6 za' v,f6 zb' v,f7] [z,f3 r x,f0 (UInt64.ofNat 1),r,f5 (f4 (f2 zc' v) (f3 r (f2 zd' v)))]),.t))))))))))
theorem BO (f0:UInt64->Fr) (f1:List Pg1->List Fr->Pg1) (f2:List Fr->Fr->Fr) (f3:Fr->Fr->Fr) (f4:Fr->Fr->Fr) (f5:Fr->Fr) (f6:List Pg1->Fr->Pg1) (f7:Pg1) (c:List Pg1) (y:List Fr) (z:Fr) (d:List Pg1) (u:List Fr) (x:Fr) (v:Fr) (r:Fr) (ws:PP):cD (Ens [(109,K1 kU64.arg r4.res f0),(108,K2 ((aB .g1).such few) (aB .fr) kg1.rs.res f1),(48,K2 cQ (aa Fr).arg r4.res f2),(106,Kr2 f3),(105,Kr2 f4),(110,Kr1 f5),(50,K2 ((aB .g1).such few) (aa Fr).arg kg1.rs.res f6),(55,K0 (aa Pg1).rs.res f7)] []) ((aa Pg1).rs2 (aa Pg1)).out 300 Try.f53 (flat (ad Try.f53)) (af Try.f53 [rwV .g1 0 c,rwV .fr 1 y,.one ((aa Fr).av z),rwV .g1 2 d,rwV .fr 3 u,.one ((aa Fr).av x),.one ((aa Fr).av v),.one ((aa Fr).av r),.one ((aa PP).av ws)] [bh .g1 c,bh .fr y,bh .g1 d,bh .fr u])=iJ f0 f1 f2 f3 f4 f5 f6 f7 c y z d u x v r ws:=by kernel_rfl
def fO (c:List Pg1) (y:List Fr) (z:Fr) (d:List Pg1) (u:List Fr) (x:Fr) (v:Fr) (r:Fr) (ws:PP):Pg1 × Pg1:=(iJ oz dT dU cZ eG kB jK oneG1 c y z d u x v r ws).outD (iT,iT)
theorem BP (h : ∀ (c:List Pg1) (y:List Fr) (z:Fr) (d:List Pg1) (u:List Fr) (x:Fr) (v:Fr) (r:Fr) (ws:PP),((cI .g1).such few).fact c->iFew.fact y->((cI .g1).such few).fact d->iFew.fact u->(iJ oz dT dU cZ eG kB jK oneG1 c y z d u x v r ws).full=true/\(iJ oz dT dU cZ eG kB jK oneG1 c y z d u x v r ws).okAll):CallOk Try.prog 53 (KL (ArgL.cons ((aB .g1).such few) (ArgL.cons cQ (ArgL.cons (aa Fr).arg (ArgL.cons ((aB .g1).such few) (ArgL.cons cQ (ArgL.cons (aa Fr).arg (ArgL.cons (aa Fr).arg (ArgL.cons (aa Fr).arg (ArgL.cons (aa PP).arg ArgL.nil))))))))) ((aa Pg1).rs2 (aa Pg1)).out.res (fun x=>fO x.1 x.2.1 x.2.2.1 x.2.2.2.1 x.2.2.2.2.1 x.2.2.2.2.2.1 x.2.2.2.2.2.2.1 x.2.2.2.2.2.2.2.1 x.2.2.2.2.2.2.2.2.1)) :=
 Go.Proofs.Ytibfppbffdedoaa.GL (E:=Ens [(109,K1 kU64.arg r4.res oz),(108,K2 ((aB .g1).such few) (aB .fr) kg1.rs.res dT),(48,K2 cQ (aa Fr).arg r4.res dU),(106,Kr2 cZ),(105,Kr2 eG),(110,Kr1 kB),(50,K2 ((aB .g1).such few) (aa Fr).arg kg1.rs.res jK),(55,K0 (aa Pg1).rs.res oneG1)] []) Try.func53 (c:=ad Try.f53) (by kernel_rfl) (ae Try.func53 (by kernel_rfl) (by kernel_rfl)) (InpL.cons ((cI .g1).such few) (InpL.cons iFew (InpL.cons (aa Fr).inp (InpL.cons ((cI .g1).such few) (InpL.cons iFew (InpL.cons (aa Fr).inp (InpL.cons (aa Fr).inp (InpL.cons (aa Fr).inp (InpL.cons (aa PP).inp InpL.nil))))))))) ((aa Pg1).rs2 (aa Pg1)).out (fun x=>fO x.1 x.2.1 x.2.2.1 x.2.2.2.1 x.2.2.2.2.1 x.2.2.2.2.2.1 x.2.2.2.2.2.2.1 x.2.2.2.2.2.2.2.1 x.2.2.2.2.2.2.2.2.1) fun x g=>DoesL.outs (bP (.cons C7 (.cons yu (.cons se (.cons mY (.cons sD (.cons Iw (.cons vX (.cons Ik .nil))))))))) 300 (iT,iT) (BO oz dT dU cZ eG kB jK oneG1 x.1 x.2.1 x.2.2.1 x.2.2.2.1 x.2.2.2.2.1 x.2.2.2.2.2.1 x.2.2.2.2.2.2.1 x.2.2.2.2.2.2.2.1 x.2.2.2.2.2.2.2.2.1) (h x.1 x.2.1 x.2.2.1 x.2.2.2.1 x.2.2.2.2.1 x.2.2.2.2.2.1 x.2.2.2.2.2.2.1 x.2.2.2.2.2.2.2.1 x.2.2.2.2.2.2.2.2.1 g.1 g.2.1 g.2.2.2.1 g.2.2.2.2.1).1 (h x.1 x.2.1 x.2.2.1 x.2.2.2.1 x.2.2.2.2.1 x.2.2.2.2.2.1 x.2.2.2.2.2.2.1 x.2.2.2.2.2.2.2.1 x.2.2.2.2.2.2.2.2.1 g.1 g.2.1 g.2.2.2.1 g.2.2.2.2.1).2
end
set_option maxRecDepth 100000
section
theorem fA (f:List Fr):List.take f.length (List.drop 0 f)=f:=ap rfl
theorem kQ (f:List Pg1):List.take f.length (List.drop 0 f)=f:=xc rfl
theorem mp {f:List Pg1} (h:f.length<4294967296):(0+f.length*13<=(ac RK.g1 f).length/\0=0/\f.length<1125899906842624/\0=0/\13=13)/\few (List.take f.length (List.drop 0 f)):=by
 rw [kQ]
 exact ⟨vE (Nat.lt_of_lt_of_le h (by decide)),h⟩
theorem lt2:2<4294967296:=by decide
theorem lt5:5<4294967296:=by decide
theorem F1:CallOk Try.prog 53 (KL (ArgL.cons ((aB .g1).such few) (ArgL.cons cQ (ArgL.cons (aa Fr).arg (ArgL.cons ((aB .g1).such few) (ArgL.cons cQ (ArgL.cons (aa Fr).arg (ArgL.cons (aa Fr).arg (ArgL.cons (aa Fr).arg (ArgL.cons (aa PP).arg ArgL.nil))))))))) ((aa Pg1).rs2 (aa Pg1)).out.res (fun x=>fO x.1 x.2.1 x.2.2.1 x.2.2.2.1 x.2.2.2.2.1 x.2.2.2.2.2.1 x.2.2.2.2.2.2.1 x.2.2.2.2.2.2.2.1 x.2.2.2.2.2.2.2.2.1)) :=
 BP fun c y z d u x v r ws hc hy hd hu=>⟨rfl,lt2,d9 hy.2,d9 hu.2,mp hc.2,mp hd.2,lt5,trivial⟩
theorem JK (oF:UInt64->Fr) (sF:List Pg1->List Fr->Pg1) (yF:List Fr->Fr->Fr) (mF aF:Fr->Fr->Fr) (nF:Fr->Fr) (pF:List Pg1->Fr->Pg1) (g:Pg1) (c:List Pg1) (y:List Fr) (z:Fr) (d:List Pg1) (u:List Fr) (x v r:Fr) (ws:PP) (e:Pg1 × Pg1):(iJ oF sF yF mF aF nF pF g c y z d u x v r ws).outD e =
  (sF [ws.a,ws.b] [oF (UInt64.ofNat 1),r],sF [ws.a,ws.b,pF c v,pF d v,g] [z,mF r x,oF (UInt64.ofNat 1),r,nF (aF (yF y v) (mF r (yF u v)))]):=by
 unfold iJ
 simp only [qH,qG,kw,fA,kQ]
theorem F2 (c:List Pg1) (y:List Fr) (z:Fr) (d:List Pg1) (u:List Fr) (x v r:Fr) (ws:PP):fO c y z d u x v r ws =
  (dT [ws.a,ws.b] [oz (UInt64.ofNat 1),r],dT [ws.a,ws.b,jK c v,jK d v,oneG1] [z,cZ r x,oz (UInt64.ofNat 1),r,kB (eG (dU y v) (cZ r (dU u v)))]):=JK _ _ _ _ _ _ _ _ c y z d u x v r ws _
end
set_option maxRecDepth 100000
section
noncomputable abbrev lsC:List Code:=flat (ad Try.f45)
def Nf (l m:List Fr) (z:Int):St:=ax 26 [(0,rwV .fr 0 l),(1,rwV .fr 1 m),(5,vI z)] [bh .fr l,bh .fr m]
theorem IU (l m:List Fr):CS (En []) oB 100 Try.f45 (lsC.take 4) (af Try.f45 [rwV .fr 0 l,rwV .fr 1 m] [bh .fr l,bh .fr m]) [0,1,5] [0,1] [(0,.as),(1,.as),(5,.int)] [.as,.as] []=(.vc (0+l.length*4<=(ac RK.fr l).length/\0<4) (.vc (0+m.length*4<=(ac RK.fr m).length/\0<4) (.br ((↑l.length:Int) != (↑m.length:Int)) (.leaf (.inr (some ((false,.t))))) (.leaf (.inl (ax 26 [(0,.one (.c (.slc 0 0 (l.length) 4 (.of 0) false))),(1,.one (.c (.slc 1 0 (m.length) 4 (.of 0) false))),(5,.one (.c (.int .i64 0)))] [.live ⟨false,0,4,(.rows .fr (l:List Fr)),false⟩,.live ⟨false,0,4,(.rows .fr (m:List Fr)),false⟩])))))):=by kernel_rfl
theorem IV (l m:List Fr) (z:Int):letI za':Fr := { l0:=0,l1:=0,l2:=0,l3:=0 };oQ (En []) oB 300 Try.f45 [aG Try.f45 0] (Nf l m z) [0,1,5] [0,1]=(.vc (0+l.length*4<=(ac RK.fr l).length/\0<4) (.br (decide (z<(↑l.length:Int))) (.vc ((0<=z/\z<(↑l.length:Int))/\0+l.length*4<=(ac RK.fr l).length/\0<4/\0=0) (.vc (0+z.toNat<l.length) (.vc ((0<=z/\z<(↑m.length:Int))/\0+m.length*4<=(ac RK.fr m).length/\0<4/\0=0) (.vc (0+z.toNat<m.length) (.br (!(fJ (l.getD (0+z.toNat) za') (m.getD (0+z.toNat) za'))) (.leaf (.inr (some ((false,.t))))) (.leaf (.inl ((.normal,ax 26 [(0,.one (.c (.slc 0 0 (l.length) 4 (.of 0) false))),(1,.one (.c (.slc 1 0 (m.length) 4 (.of 0) false))),(5,.one (.c (.int .i64 (IntKind.i64.wrap (z+1)))))] [.live ⟨false,0,4,(.rows .fr (l:List Fr)),false⟩,.live ⟨false,0,4,(.rows .fr (m:List Fr)),false⟩]))))))))) (.leaf (.inl ((.exit 0,ax 26 [(0,.one (.c (.slc 0 0 (l.length) 4 (.of 0) false))),(1,.one (.c (.slc 1 0 (m.length) 4 (.of 0) false))),(5,.one (.c (.int .i64 (z))))] [.live ⟨false,0,4,(.rows .fr (l:List Fr)),false⟩,.live ⟨false,0,4,(.rows .fr (m:List Fr)),false⟩])))))):=by kernel_rfl
theorem PN (l m:List Fr) (z:Int):cD (En []) oB 100 Try.f45 (lsC.drop 5) (Nf l m z) =
 (.leaf (some ((true,.t)))):=by kernel_rfl
def kZ (f0:List Fr->Fr->Fr) (y:List Fr) (v:Fr):Tree (Option ((Fr) × Pr)) :=
 (.vc (0+y.length*4<=(ac RK.fr y).length/\0=0/\y.length<1125899906842624/\0=0/\4=4)
  (.leaf (some ((f0 (List.take y.length (List.drop 0 y)) v,.t)))))
theorem Ew (f0:List Fr->Fr->Fr) (y:List Fr) (v:Fr):cD (Ens [(107,K2 (aB .fr) (aa Fr).arg r4.res f0)] []) (aa Fr).rs.out 300 Try.f49 (flat (ad Try.f49)) (af Try.f49 [rwV .fr 0 y,.one ((aa Fr).av v)] [bh .fr y])=kZ f0 y v:=by kernel_rfl
def im (y:List Fr) (v:Fr):Fr:=(kZ vW y v).outD ⟨0,0,0,0⟩
theorem Ex (h : ∀ (y:List Fr) (v:Fr),(cI .fr).fact y->(kZ vW y v).full=true/\(kZ vW y v).okAll):CallOk Try.prog 49 (K2 (aB .fr) (aa Fr).arg (aa Fr).rs.out.res im) :=
 Go.Proofs.Ytibfppbffdedoaa.G2 (E:=Ens [(107,K2 (aB .fr) (aa Fr).arg r4.res vW)] []) Try.func49 (c:=ad Try.f49) (by kernel_rfl) (ae Try.func49 (by kernel_rfl) (by kernel_rfl)) (cI .fr) (aa Fr).inp (aa Fr).rs.out im fun y v hy _=>DoesL.outs (bP (.cons Mw .nil)) 300 ⟨0,0,0,0⟩ (Ew vW y v) (h y v hy).1 (h y v hy).2
end
set_option maxRecDepth 100000
section
theorem yI:CallOk Try.prog 49 (K2 (aB .fr) (aa Fr).arg (aa Fr).rs.out.res im) :=
 Ex fun y v hy=>⟨rfl,bN hy,trivial⟩
theorem Mu (tF:List Fr->Fr->Fr) (y:List Fr) (v d:Fr):(kZ tF y v).outD d=tF y v:=by
 unfold kZ
 simp only [qH,qG,kw]
 rw [ap rfl]
theorem mP (y:List Fr) (v:Fr):im y v=vW y v:=Mu _ y v _
def jt (l m:List Fr) (n:Nat):Nat->Bool
 | 0=>true
 | k+1=>match !(fJ (l.getD (n-(k+1)) frZ) (m.getD (n-(k+1)) frZ)) with
  | true=>false
  | false=>jt l m n k
def eV (l m:List Fr):Bool:=match (l.length:Int) != (m.length:Int) with
 | true=>false
 | false=>jt l m l.length l.length
theorem ot (l m:List Fr) (n k:Nat):jt l m n (k+1)=match !(fJ (l.getD (n-(k+1)) frZ) (m.getD (n-(k+1)) frZ)) with | true=>false | false=>jt l m n k:=rfl
abbrev LsQ (l m:List Fr):Type := { i:Nat // i<=l.length/\jt l m l.length (l.length-i)=jt l m l.length l.length }
theorem Ed:CallOk Try.prog 45 (K2 (aB .fr) (aB .fr) kBool.rs.res eV) :=
 G2 (E:=En []) Try.func45 (c:=ad Try.f45) (by kernel_rfl) (ae Try.func45 (by kernel_rfl) (by kernel_rfl)) (cI .fr) (cI .fr) oB eV fun l m hl hm=>by
  have hl:l.length<1125899906842624:=hl
  have hE:EnvOk (En []):=aw .nil
  refine DoesL.seg hE 100 4 _ _ _ _ _ (IU l m) ⟨bf l,fun _=>⟨bf m,fun _=>⟨fun h => ?_,fun h => ?_⟩⟩⟩
  ·have h:((l.length:Int) != (m.length:Int))=true:=h
   exact ⟨.t,by unfold eV;rw [h],trivial⟩
  ·have h:((l.length:Int) != (m.length:Int))=false:=h
   have hlm:l.length=m.length:=by
    simp only [bne_eq_false_iff_eq] at h
    omega
   refine (?_:DoesL _ _ (Nf l m ((0:Nat):Int)) _)
   refine DoesL.blockLoopR (B:=aG Try.f45 0) (rest:=lsC.drop 5) (id:=0) (by kernel_rfl) (fun i:LsQ l m=>Nf l m (i.1:Int)) (fun i=>l.length-i.1) ⟨0,Nat.zero_le _,rfl⟩ fun s => ?_
   obtain ⟨i,h0,h1⟩:=s
   refine (?_:DoesL _ _ (Nf l m (i:Int)) _)
   refine DoesL.iter hE 300 _ _ (IV l m (i:Int)) ⟨bf l,fun _=>⟨fun h3 => ?_,fun h3 => ?_⟩⟩
   ·simp only [decide_eq_true_eq] at h3
    have hi:i<l.length:=by omega
    obtain ⟨k,hk⟩ : ∃ k,l.length-i=k+1:=⟨l.length-i-1,by omega⟩
    rw [hk,ot,show l.length-(k+1)=i by omega] at h1
    rw [kf,show IntKind.i64.wrap ((i:Int)+1)=((i+1:Nat):Int) from (IntWalk.i64_in _ (by omega)).trans (by omega)]
    refine ⟨gh hi,fun _=>⟨hi,fun _=>⟨gh (by omega),fun _=>⟨by omega,fun _ => ?_⟩⟩⟩⟩
    refine ⟨fun h2 => ?_,fun h2 => ?_⟩
    ·have h2:(!(fJ (l.getD i frZ) (m.getD i frZ)))=true:=h2
     rw [h2] at h1
     have h1:false=jt l m l.length l.length:=h1
     exact ⟨.t,by unfold eV;rw [h,<- h1],trivial⟩
    ·have h2:(!(fJ (l.getD i frZ) (m.getD i frZ)))=false:=h2
     rw [h2] at h1
     exact ⟨⟨i+1,hi,by rw [show l.length-(i+1)=k by omega];exact h1⟩,by show l.length-(i+1)<l.length-i;omega,rfl⟩
   ·simp only [decide_eq_false_iff_not] at h3
    obtain rfl:i=l.length:=by omega
    rw [Nat.sub_self] at h1
    have h1:true=jt l m l.length l.length:=h1
    exact ⟨rfl,DoesL.ends hE 100 (PN l m _) ⟨.t,by unfold eV;rw [h,<- h1],trivial⟩⟩
theorem ou (l:List Fr) (n:Nat) : ∀ k,jt l l n k=true
 | 0=>rfl
 | k+1=>by
  rw [ot,(j7 _ _).2 rfl]
  exact ou l n k
theorem xn (l:List Fr):eV l l=true:=by
 unfold eV
 rw [bne_self_eq_false]
 exact ou l l.length l.length
def b9 (f0:Bool) (f1:List (List Fr)->Int->Int->Bool) (f2:List Fr->Int->Bool) (f3:Fr->Bool) (f4:List (List Fr)->Fr->List Fr) (f5:List (List Fr)->Fr->List Fr) (f6:List Fr->List Fr->Bool) (f7:List Fr->Fr->Fr) (f8:List Fr->Fr->Fr) (f9:List Fr->List Pg1) (f10:List Pg1->Fr->Pg1) (f11:Fr->Pg1) (f:List (List Fr)) (y:List Fr) (v:Fr):Tree (Option ((Bool) × Pr)):=letI za':=List.take y.length (List.drop 0 y);letI zb':=f10 (List.take (f9 za').length (List.drop 0 (f9 za'))) v;letI zc':=0+y.length*4<=(ac RK.fr y).length/\0=0/\y.length<1125899906842624/\0=0/\4=4;letI zd':=f11 (f8 za' v);letI ze':=f.length=f.length/\l7 f;
 (.br (!(f0)) (.leaf (some ((false,.t)))) (.vc (f.length=f.length) (.br (!(f1 f 6 6)) (.leaf (some ((true,.t)))) (.vc zc' (.br (!(f2 za' 4)) (.leaf (some ((true,.t)))) (.br (!(f3 v)) (.leaf (some ((true,.t)))) (.vc ze' (.vc ze' (.vc ((0+(f4 f v).length*4<=(ac RK.fr (f4 f v)).length/\0=0/\(f4 f v).length<1125899906842624/\0=0/\4=4)/\0+(f5 f v).length*4<=(ac RK.fr (f5 f v)).length/\0=0/\(f5 f v).length<1125899906842624/\0=0/\4=4) (.br (f6 (List.take (f4 f v).length (List.drop 0 (f4 f v))) (List.take (f5 f v).length (List.drop 0 (f5 f v)))) (.vc (zc'/\gG za') (.vc zc' (.br (fJ (f7 za' v) (f8 za' v)) (.vc (zc'/\gG za') (.vc ((0+(f9 za').length*13<=(ac RK.g1 (f9 za')).length/\0=0/\(f9 za').length<1125899906842624/\0=0/\13=13)/\few (List.take (f9 za').length (List.drop 0 (f9 za')))) (.vc zc' (.leaf (some ((zb'.x.l0==zd'.x.l0 && (zb'.x.l1==zd'.x.l1 && (zb'.x.l2==zd'.x.l2 && (zb'.x.l3==zd'.x.l3 && (zb'.x.l4==zd'.x.l4 && (zb'.x.l5==zd'.x.l5 && true))))) && (zb'.y.l0==zd'.y.l0 && (zb'.y.l1==zd'.y.l1 && (zb'.y.l2==zd'.y.l2 && (zb'.y.l3==zd'.y.l3 && (zb'.y.l4==zd'.y.l4 && (zb'.y.l5==zd'.y.l5 && true))))) && (zb'.inf==zd'.inf && true)),.t))))))) (.leaf (some ((false,.t))))))) (.leaf (some ((false,.t))))))))))))))
theorem pE (f0:Bool) (f1:List (List Fr)->Int->Int->Bool) (f2:List Fr->Int->Bool) (f3:Fr->Bool) (f4:List (List Fr)->Fr->List Fr) (f5:List (List Fr)->Fr->List Fr) (f6:List Fr->List Fr->Bool) (f7:List Fr->Fr->Fr) (f8:List Fr->Fr->Fr) (f9:List Fr->List Pg1) (f10:List Pg1->Fr->Pg1) (f11:Fr->Pg1) (f:List (List Fr)) (y:List Fr) (v:Fr):cD (Ens [(42,K0 kBool.rs.res f0),(43,K3 (w9 .fr) kInt.arg kInt.arg kBool.rs.res f1),(44,K2 (aB .fr) kInt.arg kBool.rs.res f2),(11,Krb f3),(46,K2 GO (aa Fr).arg oFrs.res f4),(47,K2 GO (aa Fr).arg oFrs.res f5),(45,K2 (aB .fr) (aB .fr) kBool.rs.res f6),(48,K2 cQ (aa Fr).arg r4.res f7),(49,K2 (aB .fr) (aa Fr).arg (aa Fr).rs.out.res f8),(51,K1 cQ oG1s.res f9),(50,K2 ((aB .g1).such few) (aa Fr).arg kg1.rs.res f10),(52,K1 (aa Fr).arg (aa Pg1).rs.res f11)] [46,47,51]) kBool.rs.out 300 Try.f8 (flat (ad Try.f8)) (af Try.f8 [lsV 0 .fr f,rwV .fr 1 y,.one ((aa Fr).av v)] [.lists .fr f,bh .fr y])=b9 f0 f1 f2 f3 f4 f5 f6 f7 f8 f9 f10 f11 f y v:=by kernel_rfl
def jd (f:List (List Fr)) (y:List Fr) (v:Fr):Bool:=(b9 b7 iq bv cm fT kI eV dU im bu jK bM f y v).outD false
theorem mf (h : ∀ (f:List (List Fr)) (y:List Fr) (v:Fr),(Gz .fr).fact f->(cI .fr).fact y->(b9 b7 iq bv cm fT kI eV dU im bu jK bM f y v).full=true/\(b9 b7 iq bv cm fT kI eV dU im bu jK bM f y v).okAll) {w:World} {vf vy vv:Value} {f:List (List Fr)} {y:List Fr} {v:Fr} (gf:(w9 .fr).is w vf f) (gy:(aB .fr).is w vy y) (gv:(aa Fr).arg.is w vv v):Gives Try.prog 8 #[vf,vy,vv] w kBool.rs.out.res (jd f y v) :=
 G3g (E:=Ens [(42,K0 kBool.rs.res b7),(43,K3 (w9 .fr) kInt.arg kInt.arg kBool.rs.res iq),(44,K2 (aB .fr) kInt.arg kBool.rs.res bv),(11,Krb cm),(46,K2 GO (aa Fr).arg oFrs.res fT),(47,K2 GO (aa Fr).arg oFrs.res kI),(45,K2 (aB .fr) (aB .fr) kBool.rs.res eV),(48,K2 cQ (aa Fr).arg r4.res dU),(49,K2 (aB .fr) (aa Fr).arg (aa Fr).rs.out.res im),(51,K1 cQ oG1s.res bu),(50,K2 ((aB .g1).such few) (aa Fr).arg kg1.rs.res jK),(52,K1 (aa Fr).arg (aa Pg1).rs.res bM)] [46,47,51]) Try.func8 (c:=ad Try.f8) (by kernel_rfl) (Gz .fr) (cI .fr) (aa Fr).inp kBool.rs.out (jd f y v) gf gy gv fun hf hy _=>DoesL.outs (bP (.cons rQ (.cons IP (.cons ss (.cons Di (.cons zt (.cons Jn (.cons Ed (.cons se (.cons yI (.cons yS (.cons vX (.cons ng .nil))))))))))))) 300 false (pE b7 iq bv cm fT kI eV dU im bu jK bM f y v) (h f y v hf hy).1 (h f y v hf hy).2
end
set_option maxRecDepth 100000
section
abbrev kP:Kd Pg1:=aa Pg1
abbrev zG1:List Cell:=dS 12 ++ [.ff]
noncomputable abbrev rpC:List Code:=flat (ad Try.f111)
noncomputable abbrev rpE (oF:Fr) (tF:Pg1->Fr->Pg1) (aF:Pg1->Pg1->Pg1) (mF:Fr->Fr->Fr):Env:=En [(100,K0 (aa Fr).rs.res oF),(18,K2 kP.arg (aa Fr).arg kP.rs.res tF),(14,K2 kP.arg kP.arg kP.rs.res aF),(103,K2 (aa Fr).arg (aa Fr).arg (aa Fr).rs.res mF)]
def JY (c:List Pg1) (v:Fr) (o:Pg1) (k:Fr) (z:Int):St:=ax 28 [(0,rwV .g1 0 c),(3,cn 1),(4,cn 2),(5,cn 3),(6,cn 4),(7,vI z)] [bh .g1 c,own 24 (Row.cs v),own 30 zG1,own 30 (Row.cs o),own 24 (Row.cs k)]
theorem Hz (oF:Fr) (tF:Pg1->Fr->Pg1) (aF:Pg1->Pg1->Pg1) (mF:Fr->Fr->Fr) (c:List Pg1) (v:Fr):letI za':Fp := { l0:=UInt64.ofNat 0,l1:=UInt64.ofNat 0,l2:=UInt64.ofNat 0,l3:=UInt64.ofNat 0,l4:=UInt64.ofNat 0,l5:=UInt64.ofNat 0 };stageG (rpE oF tF aF mF) 100 (rpC.take 4) (af Try.f111 [rwV .g1 0 c,v4 v] [bh .g1 c]) [0,3,4,5,6,7] [0,1,2,3,4] [(0,.as),(3,.as),(4,.as),(5,.as),(6,.as),(7,.int)] [.as,.as,.as,.one .g1,.as] []=(.leaf (ax 28 [(0,.one (.c (.slc 0 0 (c.length) 13 (.of 0) false))),(3,.one (.c (.ptr 1 0))),(4,.one (.c (.ptr 2 0))),(5,.one (.c (.ptr 3 0))),(6,.one (.c (.ptr 4 0))),(7,.one (.c (.int .i64 0)))] [.live ⟨false,0,13,(.rows .g1 (c:List Pg1)),false⟩,.live ⟨true,24,0,(.row (Row.cs (v:Fr))),false⟩,.live ⟨true,30,0,(.row [(.lit .u64 0),(.lit .u64 0),(.lit .u64 0),(.lit .u64 0),(.lit .u64 0),(.lit .u64 0),(.lit .u64 0),(.lit .u64 0),(.lit .u64 0),(.lit .u64 0),(.lit .u64 0),(.lit .u64 0),.ff]),false⟩,.live ⟨true,30,0,(.row (Row.cs ({ x:=za',y:=za',inf:=true }:Pg1))),false⟩,.live ⟨true,24,0,(.row (Row.cs (oF:Fr))),false⟩])):=by kernel_rfl
theorem HA (oF:Fr) (tF:Pg1->Fr->Pg1) (aF:Pg1->Pg1->Pg1) (mF:Fr->Fr->Fr) (c:List Pg1) (v:Fr) (o:Pg1) (k:Fr) (z:Int):aM (rpE oF tF aF mF) 300 (aG Try.f111 0) (JY c v o k z) (same [0,3,4,5,6,7] [0,1,2,3,4])=(.vc (0+c.length*13<=(ac RK.g1 c).length/\0<13) (.br (decide (z<(↑c.length:Int))) (.vc ((0<=z/\z<(↑c.length:Int))/\0+c.length*13<=(ac RK.g1 c).length/\0<13/\0=0) (.vc (0+z.toNat<c.length) (.leaf ((.normal,ax 28 [(0,.one (.c (.slc 0 0 (c.length) 13 (.of 0) false))),(3,.one (.c (.ptr 1 0))),(4,.one (.c (.ptr 2 0))),(5,.one (.c (.ptr 3 0))),(6,.one (.c (.ptr 4 0))),(7,.one (.c (.int .i64 (IntKind.i64.wrap (z+1)))))] [.live ⟨false,0,13,(.rows .g1 (c:List Pg1)),false⟩,.live ⟨true,24,0,(.row (Row.cs (v:Fr))),false⟩,.live ⟨true,30,0,(.row [(.lit .u64 0),(.lit .u64 0),(.lit .u64 0),(.lit .u64 0),(.lit .u64 0),(.lit .u64 0),(.lit .u64 0),(.lit .u64 0),(.lit .u64 0),(.lit .u64 0),(.lit .u64 0),(.lit .u64 0),.ff]),false⟩,.live ⟨true,30,0,(.row (Row.cs (aF o (tF (c.getD (0+z.toNat) iT) k):Pg1))),false⟩,.live ⟨true,24,0,(.row (Row.cs (mF k v:Fr))),false⟩]))))) (.leaf ((.exit 0,ax 28 [(0,.one (.c (.slc 0 0 (c.length) 13 (.of 0) false))),(3,.one (.c (.ptr 1 0))),(4,.one (.c (.ptr 2 0))),(5,.one (.c (.ptr 3 0))),(6,.one (.c (.ptr 4 0))),(7,.one (.c (.int .i64 (z))))] [.live ⟨false,0,13,(.rows .g1 (c:List Pg1)),false⟩,.live ⟨true,24,0,(.row (Row.cs (v:Fr))),false⟩,.live ⟨true,30,0,(.row [(.lit .u64 0),(.lit .u64 0),(.lit .u64 0),(.lit .u64 0),(.lit .u64 0),(.lit .u64 0),(.lit .u64 0),(.lit .u64 0),(.lit .u64 0),(.lit .u64 0),(.lit .u64 0),(.lit .u64 0),.ff]),false⟩,.live ⟨true,30,0,(.row (Row.cs (o:Pg1))),false⟩,.live ⟨true,24,0,(.row (Row.cs (k:Fr))),false⟩]))))):=by kernel_rfl
theorem Pf (oF:Fr) (tF:Pg1->Fr->Pg1) (aF:Pg1->Pg1->Pg1) (mF:Fr->Fr->Fr) (c:List Pg1) (v:Fr) (o:Pg1) (k:Fr) (z:Int):cD (rpE oF tF aF mF) kP.rs.out 100 Try.f111 (rpC.drop 5) (JY c v o k z) =
 (.leaf (some ((o,.t)))):=by kernel_rfl
noncomputable abbrev rzC:List Code:=flat (ad Try.f54)
noncomputable abbrev rzE (tF:Pg1->Fr->Pg1) (aF:Pg1->Pg1->Pg1) (mF:Fr->Fr->Fr) (pF:List Pg1->Fr->Pg1) (sF:List Fr->Fr->Fr) (nF:Fr->Fr) (gF:Fr->Pg1):Env:=En [(18,K2 kP.arg (aa Fr).arg kP.rs.res tF),(14,K2 kP.arg kP.arg kP.rs.res aF),(103,K2 (aa Fr).arg (aa Fr).arg (aa Fr).rs.res mF),(111,K2 (aB .g1) (aa Fr).arg kP.rs.res pF),(49,K2 (aB .fr) (aa Fr).arg (aa Fr).rs.out.res sF),(112,Kr1 nF),(52,K1 (aa Fr).arg kP.rs.res gF)]
def JX (a o:Pg1) (l:List Pg1) (n:Nat) (z:Int):St:=ax 77 [(18,cn 0),(19,cn 1),(20,cn 2),(21,RM 3 n),(22,cn 4),(23,vI z)] [own 30 zG1,own 30 zG1,own 30 (Row.cs a),Kg l,own 30 (Row.cs o)]
theorem Hm (tF:Pg1->Fr->Pg1) (aF:Pg1->Pg1->Pg1) (mF:Fr->Fr->Fr) (pF:List Pg1->Fr->Pg1) (sF:List Fr->Fr->Fr) (nF:Fr->Fr) (gF:Fr->Pg1) (c:List Pg1) (y:List Fr) (z:Fr) (d:List Pg1) (u:List Fr) (x v r:Fr) (ws:PP):letI za':Fp := { l0:=UInt64.ofNat 0,l1:=UInt64.ofNat 0,l2:=UInt64.ofNat 0,l3:=UInt64.ofNat 0,l4:=UInt64.ofNat 0,l5:=UInt64.ofNat 0 };stageG (rzE tF aF mF pF sF nF gF) 300 (rzC.take 5) (af Try.f54 [rwV .g1 0 c,rwV .fr 1 y,v4 z,rwV .g1 2 d,rwV .fr 3 u,v4 x,v4 v,v4 r,.one ((aa PP).av ws)] [bh .g1 c,bh .fr y,bh .g1 d,bh .fr u]) [18,19,20,21,22,23] [9,10,11,12,13] [(18,.as),(19,.as),(20,.as),(21,.slc),(22,.as),(23,.int)] [.as,.as,.as,.rws .g1,.one .g1] []=(.vc (0+c.length*13<=(ac RK.g1 c).length/\0=0/\c.length<1125899906842624/\0=0/\13=13) (.vc (0+y.length*4<=(ac RK.fr y).length/\0=0/\y.length<1125899906842624/\0=0/\4=4) (.vc (0+d.length*13<=(ac RK.g1 d).length/\0=0/\d.length<1125899906842624/\0=0/\13=13) (.vc (0+u.length*4<=(ac RK.fr u).length/\0=0/\u.length<1125899906842624/\0=0/\4=4) (.leaf (ax 77 [(18,.one (.c (.ptr 0 0))),(19,.one (.c (.ptr 1 0))),(20,.one (.c (.ptr 2 0))),(21,.one (.c (.slc 3 0 6 13 (.of 0) false))),(22,.one (.c (.ptr 4 0))),(23,.one (.c (.int .i64 0)))] [.live ⟨true,30,0,(.row [(.lit .u64 0),(.lit .u64 0),(.lit .u64 0),(.lit .u64 0),(.lit .u64 0),(.lit .u64 0),(.lit .u64 0),(.lit .u64 0),(.lit .u64 0),(.lit .u64 0),(.lit .u64 0),(.lit .u64 0),.ff]),false⟩,.live ⟨true,30,0,(.row [(.lit .u64 0),(.lit .u64 0),(.lit .u64 0),(.lit .u64 0),(.lit .u64 0),(.lit .u64 0),(.lit .u64 0),(.lit .u64 0),(.lit .u64 0),(.lit .u64 0),(.lit .u64 0),(.lit .u64 0),.ff]),false⟩,.live ⟨true,30,0,(.row (Row.cs (aF ws.a (tF ws.b r):Pg1))),false⟩,.live ⟨true,30,13,(.rows .g1 ([tF ws.a z,tF ws.b (mF r x),pF (List.take c.length (List.drop 0 c)) v,gF (nF (sF (List.take y.length (List.drop 0 y)) v)),tF (pF (List.take d.length (List.drop 0 d)) v) r,gF (nF (mF r (sF (List.take u.length (List.drop 0 u)) v)))]:List Pg1)),false⟩,.live ⟨true,30,0,(.row (Row.cs ({ x:=za',y:=za',inf:=true }:Pg1))),false⟩])))))):=by kernel_rfl
theorem Ho (tF:Pg1->Fr->Pg1) (aF:Pg1->Pg1->Pg1) (mF:Fr->Fr->Fr) (pF:List Pg1->Fr->Pg1) (sF:List Fr->Fr->Fr) (nF:Fr->Fr) (gF:Fr->Pg1) (a o:Pg1) (l:List Pg1) (n:Nat) (z:Int):aM (rzE tF aF mF pF sF nF gF) 300 (aG Try.f54 0) (JX a o l n z) (same [18,19,20,21,22,23] [0,1,2,3,4])=(.vc (0+n*13<=(ac RK.g1 l).length/\0<13) (.br (decide (z<(↑n:Int))) (.vc ((0<=z/\z<(↑n:Int))/\0+n*13<=(ac RK.g1 l).length/\0<13/\0=0) (.vc (0+z.toNat<l.length) (.leaf ((.normal,ax 77 [(18,.one (.c (.ptr 0 0))),(19,.one (.c (.ptr 1 0))),(20,.one (.c (.ptr 2 0))),(21,.one (.c (.slc 3 0 (n) 13 (.of 0) false))),(22,.one (.c (.ptr 4 0))),(23,.one (.c (.int .i64 (IntKind.i64.wrap (z+1)))))] [.live ⟨true,30,0,(.row [(.lit .u64 0),(.lit .u64 0),(.lit .u64 0),(.lit .u64 0),(.lit .u64 0),(.lit .u64 0),(.lit .u64 0),(.lit .u64 0),(.lit .u64 0),(.lit .u64 0),(.lit .u64 0),(.lit .u64 0),.ff]),false⟩,.live ⟨true,30,0,(.row [(.lit .u64 0),(.lit .u64 0),(.lit .u64 0),(.lit .u64 0),(.lit .u64 0),(.lit .u64 0),(.lit .u64 0),(.lit .u64 0),(.lit .u64 0),(.lit .u64 0),(.lit .u64 0),(.lit .u64 0),.ff]),false⟩,.live ⟨true,30,0,(.row (Row.cs (a:Pg1))),false⟩,.live ⟨true,30,13,(.rows .g1 (l:List Pg1)),false⟩,.live ⟨true,30,0,(.row (Row.cs (aF o (l.getD (0+z.toNat) iT):Pg1))),false⟩]))))) (.leaf ((.exit 0,ax 77 [(18,.one (.c (.ptr 0 0))),(19,.one (.c (.ptr 1 0))),(20,.one (.c (.ptr 2 0))),(21,.one (.c (.slc 3 0 (n) 13 (.of 0) false))),(22,.one (.c (.ptr 4 0))),(23,.one (.c (.int .i64 (z))))] [.live ⟨true,30,0,(.row [(.lit .u64 0),(.lit .u64 0),(.lit .u64 0),(.lit .u64 0),(.lit .u64 0),(.lit .u64 0),(.lit .u64 0),(.lit .u64 0),(.lit .u64 0),(.lit .u64 0),(.lit .u64 0),(.lit .u64 0),.ff]),false⟩,.live ⟨true,30,0,(.row [(.lit .u64 0),(.lit .u64 0),(.lit .u64 0),(.lit .u64 0),(.lit .u64 0),(.lit .u64 0),(.lit .u64 0),(.lit .u64 0),(.lit .u64 0),(.lit .u64 0),(.lit .u64 0),(.lit .u64 0),.ff]),false⟩,.live ⟨true,30,0,(.row (Row.cs (a:Pg1))),false⟩,.live ⟨true,30,13,(.rows .g1 (l:List Pg1)),false⟩,.live ⟨true,30,0,(.row (Row.cs (o:Pg1))),false⟩]))))):=by kernel_rfl
theorem Pc (tF:Pg1->Fr->Pg1) (aF:Pg1->Pg1->Pg1) (mF:Fr->Fr->Fr) (pF:List Pg1->Fr->Pg1) (sF:List Fr->Fr->Fr) (nF:Fr->Fr) (gF:Fr->Pg1) (a o:Pg1) (l:List Pg1) (n:Nat) (z:Int):cD (rzE tF aF mF pF sF nF gF) ((aa Pg1).rs2 (aa Pg1)).out 100 Try.f54 (rzC.drop 6) (JX a o l n z)=(.leaf (some (((a,o),.t)))):=by kernel_rfl
end
set_option maxRecDepth 100000
section
def rpO (tF:Pg1->Fr->Pg1) (aF:Pg1->Pg1->Pg1) (c:List Pg1) (k:Nat->Fr) (o:Pg1):Nat->Pg1
 | 0=>o
 | n+1=>aF (rpO tF aF c k o n) (tF (c.getD n iT) (k n))
theorem yE (tF:Pg1->Fr->Pg1) (aF:Pg1->Pg1->Pg1) (c:List Pg1) (k:Nat->Fr) (o:Pg1) (n:Nat):rpO tF aF c k o (n+1)=aF (rpO tF aF c k o n) (tF (c.getD n iT) (k n)):=rfl
theorem Mi {oF:Fr} {tF:Pg1->Fr->Pg1} {aF:Pg1->Pg1->Pg1} {mF:Fr->Fr->Fr} (hE:EnvOk (rpE oF tF aF mF)) (c:List Pg1) (v:Fr) (hc:c.length<1125899906842624):DoesL (rpE oF tF aF mF) (flat (ad Try.f111)) (af Try.f111 [rwV .g1 0 c,v4 v] [bh .g1 c])
  (EndsAs (rpE oF tF aF mF) Try.f111 (bK kP.rs.out (rpO tF aF c (pwK oF mF v) infG1 c.length))):=by
 refine DoesL.stageG hE 100 4 _ _ _ _ _ (Hz oF tF aF mF c v) ?_
 refine (?_:DoesL _ _ (JY c v (rpO tF aF c (pwK oF mF v) infG1 0) (pwK oF mF v 0) ((0:Nat):Int)) _)
 refine DoesL.blockLoop (B:=aG Try.f111 0) (rest:=rpC.drop 5) (id:=0) (by kernel_rfl) (fun j : { j:Nat // j<=c.length }=>JY c v (rpO tF aF c (pwK oF mF v) infG1 j.1) (pwK oF mF v j.1) (j.1:Int)) (fun j=>c.length-j.1) ⟨0,Nat.zero_le _⟩ fun j => ?_
 obtain ⟨j,hj⟩:=j
 refine (?_:Does _ _ (JY c v (rpO tF aF c (pwK oF mF v) infG1 j) (pwK oF mF v j) (j:Int)) _)
 have run:=HA oF tF aF mF c v (rpO tF aF c (pwK oF mF v) infG1 j) (pwK oF mF v j) (j:Int)
 have s1:=yE tF aF c (pwK oF mF v) infG1 j
 have s2:=mQ oF mF v j
 refine Does.round hE 300 _ run ⟨vD c,fun _=>⟨fun h => ?_,fun h => ?_⟩⟩
 ·simp only [decide_eq_true_eq] at h
  have hj1:j<c.length:=by omega
  rw [kf,show IntKind.i64.wrap ((j:Int)+1)=((j+1:Nat):Int) from (IntWalk.i64_in _ (by omega)).trans (by omega)]
  refine ⟨CC hj1,fun _=>⟨hj1,fun _ => ?_⟩⟩
  refine ⟨⟨j+1,hj1⟩,by show c.length-(j+1)<c.length-j;omega,?_⟩
  show _=JY c v (rpO tF aF c (pwK oF mF v) infG1 (j+1)) (pwK oF mF v (j+1)) ((j+1:Nat):Int)
  rw [s1,s2]
  rfl
 ·simp only [decide_eq_false_iff_not] at h
  obtain rfl:j=c.length:=by omega
  exact ⟨rfl,DoesL.ends hE 100 (Pf oF tF aF mF c v _ _ _) ⟨.t,rfl,trivial⟩⟩
def wD (c:List Pg1) (v:Fr):Pg1:=rpO cw fY c (pwK a9 aQ v) infG1 c.length
theorem HS:CallOk Try.prog 111 (K2 (aB .g1) (aa Fr).arg kP.rs.res wD) :=
 G2 (E:=rpE a9 cw fY aQ) Try.func111 (c:=ad Try.f111) (by kernel_rfl) (ae Try.func111 (by kernel_rfl) (by kernel_rfl)) (cI .g1) (aa Fr).inp kP.rs.out wD fun c v hc _ =>
  Mi (aw (.cons ub (.cons lJ (.cons uf (.cons nX .nil))))) c v hc
def rzO (aF:Pg1->Pg1->Pg1) (l:List Pg1) (o:Pg1):Nat->Pg1
 | 0=>o
 | n+1=>aF (rzO aF l o n) (l.getD n iT)
theorem Hp (aF:Pg1->Pg1->Pg1) (l:List Pg1) (o:Pg1) (n:Nat):rzO aF l o (n+1)=aF (rzO aF l o n) (l.getD n iT):=rfl
theorem Mc {tF:Pg1->Fr->Pg1} {aF:Pg1->Pg1->Pg1} {mF:Fr->Fr->Fr} {pF:List Pg1->Fr->Pg1} {sF:List Fr->Fr->Fr} {nF:Fr->Fr} {gF:Fr->Pg1} (hE:EnvOk (rzE tF aF mF pF sF nF gF)) (a:Pg1) (l:List Pg1) (n:Nat) (hl:l.length=n) (hn:n<1000) :
  DoesL (rzE tF aF mF pF sF nF gF) (rzC.drop 5) (JX a (rzO aF l infG1 0) l n ((0:Nat):Int)) (EndsAs (rzE tF aF mF pF sF nF gF) Try.f54 (bK ((aa Pg1).rs2 (aa Pg1)).out (a,rzO aF l infG1 n))):=by
 subst hl
 refine DoesL.blockLoop (B:=aG Try.f54 0) (rest:=rzC.drop 6) (id:=0) (by kernel_rfl) (fun j : { j:Nat // j<=l.length }=>JX a (rzO aF l infG1 j.1) l l.length (j.1:Int)) (fun j=>l.length-j.1) ⟨0,Nat.zero_le _⟩ fun j => ?_
 obtain ⟨j,hj⟩:=j
 refine (?_:Does _ _ (JX a (rzO aF l infG1 j) l l.length (j:Int)) _)
 have run:=Ho tF aF mF pF sF nF gF a (rzO aF l infG1 j) l l.length (j:Int)
 have s1:=Hp aF l infG1 j
 refine Does.round hE 300 _ run ⟨vD l,fun _=>⟨fun h => ?_,fun h => ?_⟩⟩
 ·simp only [decide_eq_true_eq] at h
  have hj1:j<l.length:=by omega
  rw [kf,show IntKind.i64.wrap ((j:Int)+1)=((j+1:Nat):Int) from (IntWalk.i64_in _ (by omega)).trans (by omega)]
  refine ⟨CC hj1,fun _=>⟨hj1,fun _ => ?_⟩⟩
  refine ⟨⟨j+1,hj1⟩,by show l.length-(j+1)<l.length-j;omega,?_⟩
  show _=JX a (rzO aF l infG1 (j+1)) l l.length ((j+1:Nat):Int)
  rw [s1]
  rfl
 ·simp only [decide_eq_false_iff_not] at h
  obtain rfl:j=l.length:=by omega
  exact ⟨rfl,DoesL.ends hE 100 (Pc tF aF mF pF sF nF gF a _ l _ _) ⟨.t,rfl,trivial⟩⟩
def rzL (tF:Pg1->Fr->Pg1) (mF:Fr->Fr->Fr) (pF:List Pg1->Fr->Pg1) (sF:List Fr->Fr->Fr) (nF:Fr->Fr) (gF:Fr->Pg1) (c:List Pg1) (y:List Fr) (z:Fr) (d:List Pg1) (u:List Fr) (x v r:Fr) (ws:PP):List Pg1 :=
 [tF ws.a z,tF ws.b (mF r x),pF c v,gF (nF (sF y v)),tF (pF d v) r,gF (nF (mF r (sF u v)))]
theorem Md {tF:Pg1->Fr->Pg1} {aF:Pg1->Pg1->Pg1} {mF:Fr->Fr->Fr} {pF:List Pg1->Fr->Pg1} {sF:List Fr->Fr->Fr} {nF:Fr->Fr} {gF:Fr->Pg1} (hE:EnvOk (rzE tF aF mF pF sF nF gF)) (c:List Pg1) (y:List Fr) (z:Fr) (d:List Pg1) (u:List Fr) (x v r:Fr) (ws:PP) (hc:c.length<aD) (hy:y.length<aD) (hd:d.length<aD) (hu:u.length<aD) :
  DoesL (rzE tF aF mF pF sF nF gF) (flat (ad Try.f54)) (af Try.f54 [rwV .g1 0 c,rwV .fr 1 y,v4 z,rwV .g1 2 d,rwV .fr 3 u,v4 x,v4 v,v4 r,.one ((aa PP).av ws)] [bh .g1 c,bh .fr y,bh .g1 d,bh .fr u])
   (EndsAs (rzE tF aF mF pF sF nF gF) Try.f54 (bK ((aa Pg1).rs2 (aa Pg1)).out (aF ws.a (tF ws.b r),rzO aF (rzL tF mF pF sF nF gF c y z d u x v r ws) infG1 6))):=by
 have run:=Hm tF aF mF pF sF nF gF c y z d u x v r ws
 rw [kQ,fA,kQ,fA] at run
 refine DoesL.stageG hE 300 5 _ _ _ _ _ run ⟨vE hc,fun _=>⟨bN hy,fun _=>⟨vE hd,fun _=>⟨bN hu,fun _ => ?_⟩⟩⟩⟩
 exact Mc hE (aF ws.a (tF ws.b r)) (rzL tF mF pF sF nF gF c y z d u x v r ws) 6 rfl (by decide)
def fX (c:List Pg1) (y:List Fr) (z:Fr) (d:List Pg1) (u:List Fr) (x v r:Fr) (ws:PP):Pg1 × Pg1:=(fY ws.a (cw ws.b r),rzO fY (rzL cw aQ wD im mV bM c y z d u x v r ws) infG1 6)
theorem Eu:CallOk Try.prog 54 (KL (ArgL.cons ((aB .g1).such few) (ArgL.cons cQ (ArgL.cons (aa Fr).arg (ArgL.cons ((aB .g1).such few) (ArgL.cons cQ (ArgL.cons (aa Fr).arg (ArgL.cons (aa Fr).arg (ArgL.cons (aa Fr).arg (ArgL.cons (aa PP).arg ArgL.nil))))))))) ((aa Pg1).rs2 (aa Pg1)).out.res (fun x=>fX x.1 x.2.1 x.2.2.1 x.2.2.2.1 x.2.2.2.2.1 x.2.2.2.2.2.1 x.2.2.2.2.2.2.1 x.2.2.2.2.2.2.2.1 x.2.2.2.2.2.2.2.2.1)) :=
 Go.Proofs.Ytibfppbffdedoaa.GL (E:=rzE cw fY aQ wD im mV bM) Try.func54 (c:=ad Try.f54) (by kernel_rfl) (ae Try.func54 (by kernel_rfl) (by kernel_rfl)) (InpL.cons ((cI .g1).such few) (InpL.cons iFew (InpL.cons (aa Fr).inp (InpL.cons ((cI .g1).such few) (InpL.cons iFew (InpL.cons (aa Fr).inp (InpL.cons (aa Fr).inp (InpL.cons (aa Fr).inp (InpL.cons (aa PP).inp InpL.nil))))))))) ((aa Pg1).rs2 (aa Pg1)).out (fun x=>fX x.1 x.2.1 x.2.2.1 x.2.2.2.1 x.2.2.2.2.1 x.2.2.2.2.2.1 x.2.2.2.2.2.2.1 x.2.2.2.2.2.2.2.1 x.2.2.2.2.2.2.2.2.1) fun x g =>
  Md (aw (.cons lJ (.cons uf (.cons nX (.cons HS (.cons yI (.cons M2 (.cons ng .nil)))))))) x.1 x.2.1 x.2.2.1 x.2.2.2.1 x.2.2.2.2.1 x.2.2.2.2.2.1 x.2.2.2.2.2.2.1 x.2.2.2.2.2.2.2.1 x.2.2.2.2.2.2.2.2.1 g.1.1 g.2.1.1 g.2.2.2.1.1 g.2.2.2.2.1.1
def b8 (f0:Bool) (f1:List Fr->Int->Bool) (f2:Fr->Pg1) (f3:List Fr->List Pg1) (f4:List Pg1->List Fr->Fr->List Pg1->List Fr->Fr->Fr->Fr->PP->Pg1 × Pg1) (f5:List Pg1->List Fr->Fr->List Pg1->List Fr->Fr->Fr->Fr->PP->Pg1 × Pg1) (c:List Fr) (y:List Fr) (d:List Fr) (u:List Fr) (z:Fr) (x:Fr) (v:Fr) (r:Fr) (ws:FF):Tree (Option ((Bool) × Pr)):=letI za':=List.take (f3 (List.take c.length (List.drop 0 c))).length (List.drop 0 (f3 (List.take c.length (List.drop 0 c))));letI zb':=List.take (f3 (List.take d.length (List.drop 0 d))).length (List.drop 0 (f3 (List.take d.length (List.drop 0 d))));letI zc':=List.take y.length (List.drop 0 y);letI zd':=List.take u.length (List.drop 0 u);letI ze':=((0+(f3 (List.take c.length (List.drop 0 c))).length*13<=(ac RK.g1 (f3 (List.take c.length (List.drop 0 c)))).length/\0=0/\(f3 (List.take c.length (List.drop 0 c))).length<1125899906842624/\0=0/\13=13)/\few za')/\((0+y.length*4<=(ac RK.fr y).length/\0=0/\y.length<1125899906842624/\0=0/\4=4)/\gG zc')/\((0+(f3 (List.take d.length (List.drop 0 d))).length*13<=(ac RK.g1 (f3 (List.take d.length (List.drop 0 d)))).length/\0=0/\(f3 (List.take d.length (List.drop 0 d))).length<1125899906842624/\0=0/\13=13)/\few zb')/\(0+u.length*4<=(ac RK.fr u).length/\0=0/\u.length<1125899906842624/\0=0/\4=4)/\gG zd';letI zf':=0+c.length*4<=(ac RK.fr c).length/\0=0/\c.length<1125899906842624/\0=0/\4=4;letI zg':=0+d.length*4<=(ac RK.fr d).length/\0=0/\d.length<1125899906842624/\0=0/\4=4;letI zh':=List.take c.length (List.drop 0 c);letI zi':=List.take d.length (List.drop 0 d);
 (.br (!(f0)) (.leaf (some ((false,.t)))) (.vc zf' (.br (!(f1 zh' 3)) (.leaf (some ((true,.t)))) (.vc zg' (.br (!(f1 zi' 3)) (.leaf (some ((true,.t)))) (.br (!(f1 [z,x,v,r,ws.a,ws.b] 6)) (.leaf (some ((true,.t)))) (.vc (0+y.length*4<=(ac RK.fr y).length/\0=0/\y.length<1125899906842624/\0=0/\4=4) (.br (!(f1 zc' 3)) (.leaf (some ((true,.t)))) (.vc (0+u.length*4<=(ac RK.fr u).length/\0=0/\u.length<1125899906842624/\0=0/\4=4) (.br (!(f1 zd' 3)) (.leaf (some ((true,.t)))) (.vc (0+y.length*4<=(ac RK.fr y).length/\0<4) (.vc (0+c.length*4<=(ac RK.fr c).length/\0<4) (.br ((↑y.length:Int) != (↑c.length:Int)) (.leaf (some ((true,.t)))) (.vc (0+u.length*4<=(ac RK.fr u).length/\0<4) (.vc (0+d.length*4<=(ac RK.fr d).length/\0<4) (.br ((↑u.length:Int) != (↑d.length:Int)) (.leaf (some ((true,.t)))) (.vc (zf'/\gG zh') (.vc (zg'/\gG zi') (.vc ze' (.vc (zf'/\gG zh') (.vc (zg'/\gG zi') (.vc ze' (.br (tx ((f4 za' zc' z zb' zd' x v r { a:=f2 ws.a,b:=f2 ws.b }).fst) ((f5 za' zc' z zb' zd' x v r { a:=f2 ws.a,b:=f2 ws.b }).fst)) (.leaf (some (((f4 za' zc' z zb' zd' x v r { a:=f2 ws.a,b:=f2 ws.b }).snd.x.l0==(f5 za' zc' z zb' zd' x v r { a:=f2 ws.a,b:=f2 ws.b }).snd.x.l0 && ((f4 za' zc' z zb' zd' x v r { a:=f2 ws.a,b:=f2 ws.b }).snd.x.l1==(f5 za' zc' z zb' zd' x v r { a:=f2 ws.a,b:=f2 ws.b }).snd.x.l1 && ((f4 za' zc' z zb' zd' x v r { a:=f2 ws.a,b:=f2 ws.b }).snd.x.l2==(f5 za' zc' z zb' zd' x v r { a:=f2 ws.a,b:=f2 ws.b }).snd.x.l2 && ((f4 za' zc' z zb' zd' x v r { a:=f2 ws.a,b:=f2 ws.b }).snd.x.l3==(f5 za' zc' z zb' zd' x v r { a:=f2 ws.a,b:=f2 ws.b }).snd.x.l3 && ((f4 za' zc' z zb' zd' x v r { a:=f2 ws.a,b:=f2 ws.b }).snd.x.l4==(f5 za' zc' z zb' zd' x v r { a:=f2 ws.a,b:=f2 ws.b }).snd.x.l4 && ((f4 za' zc' z zb' zd' x v r { a:=f2 ws.a,b:=f2 ws.b }).snd.x.l5==(f5 za' zc' z zb' zd' x v r { a:=f2 ws.a,b:=f2 ws.b }).snd.x.l5 && true))))) && ((f4 za' zc' z zb' zd' x v r { a:=f2 ws.a,b:=f2 ws.b }).snd.y.l0==(f5 za' zc' z zb' zd' x v r { a:=f2 ws.a,b:=f2 ws.b }).snd.y.l0 && ((f4 za' zc' z zb' zd' x v r { a:=f2 ws.a,b:=f2 ws.b }).snd.y.l1==(f5 za' zc' z zb' zd' x v r { a:=f2 ws.a,b:=f2 ws.b }).snd.y.l1 && ((f4 za' zc' z zb' zd' x v r { a:=f2 ws.a,b:=f2 ws.b }).snd.y.l2==(f5 za' zc' z zb' zd' x v r { a:=f2 ws.a,b:=f2 ws.b }).snd.y.l2 && ((f4 za' zc' z zb' zd' x v r { a:=f2 ws.a,b:=f2 ws.b }).snd.y.l3==(f5 za' zc' z zb' zd' x v r { a:=f2 ws.a,b:=f2 ws.b }).snd.y.l3 && ((f4 za' zc' z zb' zd' x v r { a:=f2 ws.a,b:=f2 ws.b }).snd.y.l4==(f5 za' zc' z zb' zd' x v r { a:=f2 ws.a,b:=f2 ws.b }).snd.y.l4 && ((f4 za' zc' z zb' zd' x v r { a:=f2 ws.a,b:=f2 ws.b }).snd.y.l5==(f5 za' zc' z zb' zd' x v r { a:=f2 ws.a,b:=f2 ws.b }).snd.y.l5 && true))))) && ((f4 za' zc' z zb' zd' x v r { a:=f2 ws.a,b:=f2 ws.b }).snd.inf==(f5 za' zc' z zb' zd' x v r { a:=f2 ws.a,b:=f2 ws.b }).snd.inf && true)),.t)))) (.leaf (some ((false,.t)))))))))))))))))))))))))))
theorem pC (f0:Bool) (f1:List Fr->Int->Bool) (f2:Fr->Pg1) (f3:List Fr->List Pg1) (f4:List Pg1->List Fr->Fr->List Pg1->List Fr->Fr->Fr->Fr->PP->Pg1 × Pg1) (f5:List Pg1->List Fr->Fr->List Pg1->List Fr->Fr->Fr->Fr->PP->Pg1 × Pg1) (c:List Fr) (y:List Fr) (d:List Fr) (u:List Fr) (z:Fr) (x:Fr) (v:Fr) (r:Fr) (ws:FF):cD (Ens [(42,K0 kBool.rs.res f0),(44,K2 (aB .fr) kInt.arg kBool.rs.res f1),(52,K1 (aa Fr).arg (aa Pg1).rs.res f2),(51,K1 cQ oG1s.res f3),(53,KL (ArgL.cons ((aB .g1).such few) (ArgL.cons cQ (ArgL.cons (aa Fr).arg (ArgL.cons ((aB .g1).such few) (ArgL.cons cQ (ArgL.cons (aa Fr).arg (ArgL.cons (aa Fr).arg (ArgL.cons (aa Fr).arg (ArgL.cons (aa PP).arg ArgL.nil))))))))) ((aa Pg1).rs2 (aa Pg1)).out.res (fun x=>f4 x.1 x.2.1 x.2.2.1 x.2.2.2.1 x.2.2.2.2.1 x.2.2.2.2.2.1 x.2.2.2.2.2.2.1 x.2.2.2.2.2.2.2.1 x.2.2.2.2.2.2.2.2.1)),(54,KL (ArgL.cons ((aB .g1).such few) (ArgL.cons cQ (ArgL.cons (aa Fr).arg (ArgL.cons ((aB .g1).such few) (ArgL.cons cQ (ArgL.cons (aa Fr).arg (ArgL.cons (aa Fr).arg (ArgL.cons (aa Fr).arg (ArgL.cons (aa PP).arg ArgL.nil))))))))) ((aa Pg1).rs2 (aa Pg1)).out.res (fun x=>f5 x.1 x.2.1 x.2.2.1 x.2.2.2.1 x.2.2.2.2.1 x.2.2.2.2.2.1 x.2.2.2.2.2.2.1 x.2.2.2.2.2.2.2.1 x.2.2.2.2.2.2.2.2.1))] [51]) kBool.rs.out 300 Try.f9 (flat (ad Try.f9)) (af Try.f9 [rwV .fr 0 c,rwV .fr 1 y,rwV .fr 2 d,rwV .fr 3 u,.one ((aa Fr).av z),.one ((aa Fr).av x),.one ((aa Fr).av v),.one ((aa Fr).av r),.one ((aa FF).av ws)] [bh .fr c,bh .fr y,bh .fr d,bh .fr u])=b8 f0 f1 f2 f3 f4 f5 c y d u z x v r ws:=by kernel_rfl
def jc (c:List Fr) (y:List Fr) (d:List Fr) (u:List Fr) (z:Fr) (x:Fr) (v:Fr) (r:Fr) (ws:FF):Bool:=(b8 b7 bv bM bu fO fX c y d u z x v r ws).outD false
theorem me (c:List Fr) (y:List Fr) (d:List Fr) (u:List Fr) (z:Fr) (x:Fr) (v:Fr) (r:Fr) (ws:FF) {w:World} {vc vy vd vu vz vx vv vr vws:Value} (gc:(aB .fr).is w vc c) (gy:(aB .fr).is w vy y) (gd:(aB .fr).is w vd d) (gu:(aB .fr).is w vu u) (gz:(aa Fr).arg.is w vz z) (gx:(aa Fr).arg.is w vx x) (gv:(aa Fr).arg.is w vv v) (gr:(aa Fr).arg.is w vr r) (gws:(aa FF).arg.is w vws ws) (h:(cI .fr).fact c->(cI .fr).fact y->(cI .fr).fact d->(cI .fr).fact u->(b8 b7 bv bM bu fO fX c y d u z x v r ws).full=true/\(b8 b7 bv bM bu fO fX c y d u z x v r ws).okAll):Gives Try.prog 9 #[vc,vy,vd,vu,vz,vx,vv,vr,vws] w kBool.rs.out.res (jc c y d u z x v r ws) :=
 GLg (E:=Ens [(42,K0 kBool.rs.res b7),(44,K2 (aB .fr) kInt.arg kBool.rs.res bv),(52,K1 (aa Fr).arg (aa Pg1).rs.res bM),(51,K1 cQ oG1s.res bu),(53,KL (ArgL.cons ((aB .g1).such few) (ArgL.cons cQ (ArgL.cons (aa Fr).arg (ArgL.cons ((aB .g1).such few) (ArgL.cons cQ (ArgL.cons (aa Fr).arg (ArgL.cons (aa Fr).arg (ArgL.cons (aa Fr).arg (ArgL.cons (aa PP).arg ArgL.nil))))))))) ((aa Pg1).rs2 (aa Pg1)).out.res (fun x=>fO x.1 x.2.1 x.2.2.1 x.2.2.2.1 x.2.2.2.2.1 x.2.2.2.2.2.1 x.2.2.2.2.2.2.1 x.2.2.2.2.2.2.2.1 x.2.2.2.2.2.2.2.2.1)),(54,KL (ArgL.cons ((aB .g1).such few) (ArgL.cons cQ (ArgL.cons (aa Fr).arg (ArgL.cons ((aB .g1).such few) (ArgL.cons cQ (ArgL.cons (aa Fr).arg (ArgL.cons (aa Fr).arg (ArgL.cons (aa Fr).arg (ArgL.cons (aa PP).arg ArgL.nil))))))))) ((aa Pg1).rs2 (aa Pg1)).out.res (fun x=>fX x.1 x.2.1 x.2.2.1 x.2.2.2.1 x.2.2.2.2.1 x.2.2.2.2.2.1 x.2.2.2.2.2.2.1 x.2.2.2.2.2.2.2.1 x.2.2.2.2.2.2.2.2.1))] [51]) Try.func9 (c:=ad Try.f9) (by kernel_rfl) (InpL.cons (cI .fr) (InpL.cons (cI .fr) (InpL.cons (cI .fr) (InpL.cons (cI .fr) (InpL.cons (aa Fr).inp (InpL.cons (aa Fr).inp (InpL.cons (aa Fr).inp (InpL.cons (aa Fr).inp (InpL.cons (aa FF).inp InpL.nil))))))))) kBool.rs.out (jc c y d u z x v r ws) (vs := [vc,vy,vd,vu,vz,vx,vv,vr,vws]) (x:=(c,y,d,u,z,x,v,r,ws,())) ⟨gc,gy,gd,gu,gz,gx,gv,gr,gws,rfl⟩ fun g =>
  (DoesL.outs (bP (.cons rQ (.cons ss (.cons ng (.cons yS (.cons F1 (.cons Eu .nil))))))) 300 false (pC b7 bv bM bu fO fX c y d u z x v r ws) (h g.1 g.2.1 g.2.2.1 g.2.2.2.1).1 (h g.1 g.2.1 g.2.2.1 g.2.2.2.1).2)
end
end Go.Proofs.Ytibfppbffdedoaa
namespace Go.Proofs.Ytibfppbffdedoaa
def qN:Nat:=0x73eda753299d7d483339d80809a1d80553bda402fffe5bfeffffffff00000001
def r4N:Nat:=0x10000000000000000000000000000000000000000000000000000000000000000
def Fr.nat (a:Fr):Nat:=a.l0.toNat+W64*(a.l1.toNat+W64*(a.l2.toNat+W64*(a.l3.toNat)))
theorem Fr.nat_lt (a:Fr):a.nat<r4N:=by
 have h0:=a.l0.toNat_lt
 have h1:=a.l1.toNat_lt
 have h2:=a.l2.toNat_lt
 have h3:=a.l3.toNat_lt
 unfold Fr.nat r4N W64
 omega
theorem Fr.nat_inj {a b:Fr} (h:a.nat=b.nat):a=b:=by
 have h0:=a.l0.toNat_lt
 have h1:=a.l1.toNat_lt
 have h2:=a.l2.toNat_lt
 have h3:=a.l3.toNat_lt
 have k0:=b.l0.toNat_lt
 have k1:=b.l1.toNat_lt
 have k2:=b.l2.toNat_lt
 have k3:=b.l3.toNat_lt
 unfold Fr.nat W64 at h
 have e0:a.l0=b.l0:=UInt64.toNat.inj (by omega)
 have e1:a.l1=b.l1:=UInt64.toNat.inj (by omega)
 have e2:a.l2=b.l2:=UInt64.toNat.inj (by omega)
 have e3:a.l3=b.l3:=UInt64.toNat.inj (by omega)
 cases a;cases b
 simp only [] at e0 e1 e2 e3
 subst e0 e1 e2 e3
 rfl
theorem dW:rLimbs.nat=qN:=by decide +kernel
theorem oe (a b:Fr):(bn a b).1.nat+r4N*(bn a b).2.toNat=a.nat+b.nat:=by
 unfold bn
 simp only []
 have s0:=ci a.l0 b.l0 false
 generalize bw a.l0 b.l0 false=c0 at *
 have s1:=ci a.l1 b.l1 c0
 generalize bw a.l1 b.l1 c0=c1 at *
 have s2:=ci a.l2 b.l2 c1
 generalize bw a.l2 b.l2 c1=c2 at *
 have s3:=ci a.l3 b.l3 c2
 generalize bw a.l3 b.l3 c2=c3 at *
 unfold Fr.nat r4N W64 at *
 simp only [Bool.toNat_false] at *
 omega
theorem nT (a b:Fr):(bB a b).1.nat+b.nat=a.nat+r4N*(bB a b).2.toNat:=by
 unfold bB
 simp only []
 have s0:=dL a.l0 b.l0 false
 generalize cB a.l0 b.l0 false=c0 at *
 have s1:=dL a.l1 b.l1 c0
 generalize cB a.l1 b.l1 c0=c1 at *
 have s2:=dL a.l2 b.l2 c1
 generalize cB a.l2 b.l2 c1=c2 at *
 have s3:=dL a.l3 b.l3 c2
 generalize cB a.l3 b.l3 c2=c3 at *
 unfold Fr.nat r4N W64 at *
 simp only [Bool.toNat_false] at *
 omega
theorem jQ (a m:Fr):bg a m=decide (a.nat<m.nat):=by
 have h0:=a.l0.toNat_lt
 have k0:=m.l0.toNat_lt
 have h1:=a.l1.toNat_lt
 have k1:=m.l1.toNat_lt
 have h2:=a.l2.toNat_lt
 have k2:=m.l2.toNat_lt
 have same : ∀ {x y:UInt64},(x != y)=false->x.toNat=y.toNat:=fun h=>by
  simp only [bne_eq_false_iff_eq] at h
  rw [h]
 unfold bg
 cases e3:a.l3 != m.l3 with
 | true =>
  have:=u64_ne.1 e3
  refine decide_eq_decide.2 ?_
  rw [UInt64.lt_iff_toNat_lt]
  unfold Fr.nat W64
  omega
 | false =>
  have e3:=same e3
  simp only []
  cases e2:a.l2 != m.l2 with
  | true =>
   have:=u64_ne.1 e2
   refine decide_eq_decide.2 ?_
   rw [UInt64.lt_iff_toNat_lt]
   unfold Fr.nat W64
   omega
  | false =>
   have e2:=same e2
   simp only []
   cases e1:a.l1 != m.l1 with
   | true =>
    have:=u64_ne.1 e1
    refine decide_eq_decide.2 ?_
    rw [UInt64.lt_iff_toNat_lt]
    unfold Fr.nat W64
    omega
   | false =>
    have e1:=same e1
    simp only []
    cases e0:a.l0 != m.l0 with
    | true =>
     have:=u64_ne.1 e0
     refine decide_eq_decide.2 ?_
     rw [UInt64.lt_iff_toNat_lt]
     unfold Fr.nat W64
     omega
    | false =>
     have e0:=same e0
     refine (decide_eq_false ?_).symm
     unfold Fr.nat W64
     omega
theorem ul (a:Fr):cm a=decide (a.nat<qN):=by
 rw [show cm a=bg a rLimbs from rfl,jQ,dW]
theorem jP (a b:Fr):(bB a b).2=decide (a.nat<b.nat):=by
 have h:=nT a b
 have h1:=(bB a b).1.nat_lt
 have hb:=b.nat_lt
 cases e:(bB a b).2 with
 | true =>
  rw [e,Bool.toNat_true,Nat.mul_one] at h
  exact (decide_eq_true (by omega)).symm
 | false =>
  rw [e,Bool.toNat_false,Nat.mul_zero] at h
  exact (decide_eq_false (by omega)).symm
theorem k8:0<qN:=by decide +kernel
theorem vT (t:Fr) (c:Nat) (hc:c<=1) (h:t.nat+r4N*c<2*qN):((c=1 \/ ¬ t.nat<qN)->(bB t rLimbs).1.nat=(t.nat+r4N*c) % qN)/\((c=0/\t.nat<qN)->t.nat=(t.nat+r4N*c) % qN):=by
 have h1:=nT t rLimbs
 have h2:=jP t rLimbs
 rw [dW] at h1 h2
 have h3:=t.nat_lt
 have h4:=(bB t rLimbs).1.nat_lt
 have hq:qN<r4N:=by decide +kernel
 have hq2:r4N<3*qN:=by decide +kernel
 constructor
 ·intro hh
  rcases Nat.lt_or_ge t.nat qN with hl | hl
  ·have hc1:c=1:=hh.resolve_right (fun e=>e hl)
   subst hc1
   rw [h2,decide_eq_true hl,Bool.toNat_true,Nat.mul_one] at h1
   rw [Nat.mul_one,Nat.mod_eq_sub_mod (by omega),Nat.mod_eq_of_lt (by omega)]
   omega
  ·rw [h2,decide_eq_false (by omega),Bool.toNat_false,Nat.mul_zero] at h1
   have hc0:c=0:=by
    rcases Nat.eq_zero_or_pos c with e | e
    ·exact e
    ·have:c=1:=by omega
     subst this
     omega
   subst hc0
   rw [Nat.mul_zero,Nat.add_zero] at h ⊢
   rw [Nat.mod_eq_sub_mod hl,Nat.mod_eq_of_lt (by omega)]
   omega
 ·rintro ⟨rfl,hl⟩
  rw [Nat.mul_zero,Nat.add_zero,Nat.mod_eq_of_lt hl]
theorem ob {a b:Fr} (ha:a.nat<qN) (hb:b.nat<qN):(df a b).nat=(a.nat+b.nat) % qN:=by
 have h:=oe a b
 have hc:(bn a b).2.toNat<=1:=by cases (bn a b).2 <;> simp
 obtain ⟨r1,r2⟩:=vT (bn a b).1 (bn a b).2.toNat hc (by omega)
 rw [h] at r1 r2
 unfold df jv
 cases e:(bn a b).2 with
 | true=>exact r1 (.inl (by rw [e];rfl))
 | false =>
  rw [jQ,dW]
  by_cases hl:(bn a b).1.nat<qN
  ·rw [decide_eq_true hl]
   exact r2 ⟨by rw [e];rfl,hl⟩
  ·rw [decide_eq_false hl]
   exact r1 (.inr hl)
theorem D7 {a b:Fr} (ha:a.nat<qN) (hb:b.nat<qN):(mJ a b).nat=(a.nat+qN-b.nat) % qN:=by
 have h:=nT a b
 have hb2:=jP a b
 have h3:=(bB a b).1.nat_lt
 unfold mJ ic
 by_cases hl:a.nat<b.nat
 ·rw [decide_eq_true hl] at hb2
  rw [hb2] at h ⊢
  have h2:=oe (bB a b).1 rLimbs
  rw [dW] at h2
  have h4:=(bn (bB a b).1 rLimbs).1.nat_lt
  have hc:(bn (bB a b).1 rLimbs).2.toNat<=1:=by cases (bn (bB a b).1 rLimbs).2 <;> simp
  rw [Bool.toNat_true,Nat.mul_one] at h
  have hq:qN<r4N:=by decide +kernel
  show (bn (bB a b).1 rLimbs).1.nat=_
  rw [Nat.mod_eq_of_lt (by omega)]
  rcases Nat.eq_zero_or_pos (bn (bB a b).1 rLimbs).2.toNat with e | e
  ·rw [e,Nat.mul_zero] at h2;omega
  ·have:(bn (bB a b).1 rLimbs).2.toNat=1:=by omega
   rw [this,Nat.mul_one] at h2
   omega
 ·rw [decide_eq_false hl] at hb2
  rw [hb2] at h ⊢
  rw [Bool.toNat_false,Nat.mul_zero] at h
  show (bB a b).1.nat=_
  rw [show a.nat+qN-b.nat=(a.nat-b.nat)+qN by omega,Nat.add_mod_right,Nat.mod_eq_of_lt (by omega)]
  omega
theorem pP:zeroFr.nat=0:=by decide +kernel
theorem uh {a:Fr} (ha:a.nat<qN):(mV a).nat=(qN-a.nat) % qN:=by
 have h:zeroFr.nat<qN:=by rw [pP];exact k8
 show (mJ zeroFr a).nat=_
 rw [D7 h ha,pP,Nat.zero_add]
def L5.nat (t:L5):Nat:=t.t0.toNat+W64*(t.t1.toNat+W64*(t.t2.toNat+W64*(t.t3.toNat+W64*(t.t4.toNat))))
theorem L5.nat_low (t:L5):t.nat=t.low.nat+r4N*t.t4.toNat:=by
 unfold L5.nat L5.low Fr.nat r4N W64
 simp only []
 omega
def eL:UInt64:=0xfffffffeffffffff
theorem dq:ba rLimbs.l0=eL:=by decide +kernel
theorem Fl (t:UInt64):(dY (t*eL) rLimbs.l0+b2u (bw t (t*eL*rLimbs.l0) false)).toNat*W64=(t*eL).toNat*rLimbs.l0.toNat+t.toNat:=by
 generalize hx:t*eL=x
 have hx':x.toNat=t.toNat*18446744069414584319 % 18446744073709551616:=by rw [<- hx,UInt64.toNat_mul];rfl
 have hp:rLimbs.l0.toNat=18446744069414584321:=rfl
 have ht:=t.toNat_lt
 have hlt:=x.toNat_lt
 rw [UInt64.toNat_add,bW,gP,fm,UInt64.toNat_mul,hp]
 rw [Bool.toNat_false,Nat.add_zero]
 unfold W64
 have key:(x.toNat*18446744069414584321 % 18446744073709551616+t.toNat) % 18446744073709551616=0:=by
  rw [hx']
  omega
 omega
theorem rmw (x y t c:UInt64):(rmH x y t c).toNat*W64+(rmL x y t c).toNat=x.toNat*y.toNat+t.toNat+c.toNat:=by rw [sW,sV];exact kF x y t c
theorem Bg (t0 t1 t2 t3 top:UInt64) (more:Bool) :
  (s8 rLimbs eL t0 t1 t2 t3 top more).nat*W64=(t0.toNat+W64*(t1.toNat+W64*(t2.toNat+W64*(t3.toNat+W64*(top.toNat+W64*(more.toNat))))))+(t0*eL).toNat*qN:=by
 have q0:=Fl t0
 unfold s8
 simp only [L5.nat]
 generalize dY (t0*eL) rLimbs.l0+b2u (bw t0 (t0*eL*rLimbs.l0) false)=d0 at *
 generalize t0*eL=x at *
 have q1:=rmw x rLimbs.l1 t1 d0
 generalize rmH x rLimbs.l1 t1 d0=d1 at *
 have q2:=rmw x rLimbs.l2 t2 d1
 generalize rmH x rLimbs.l2 t2 d1=d2 at *
 have q3:=rmw x rLimbs.l3 t3 d2
 generalize rmH x rLimbs.l3 t3 d2=d3 at *
 have q6:=ci top d3 false
 have q7:(b2u more+b2u (bw top d3 false)).toNat=more.toNat+(bw top d3 false).toNat:=by
  rw [UInt64.toNat_add,bW,bW]
  cases more <;> cases bw top d3 false <;> rfl
 rw [q7]
 have ep:qN=rLimbs.l0.toNat+W64*(rLimbs.l1.toNat+W64*(rLimbs.l2.toNat+W64*(rLimbs.l3.toNat))):=by decide +kernel
 have exp:x.toNat*qN=x.toNat*rLimbs.l0.toNat+W64*(x.toNat*rLimbs.l1.toNat+W64*(x.toNat*rLimbs.l2.toNat+W64*(x.toNat*rLimbs.l3.toNat))):=by
  rw [ep]
  simp only [Nat.mul_add,Nat.mul_left_comm x.toNat W64]
 rw [exp]
 have s4:(dm top d3 false).toNat+W64*(more.toNat+(bw top d3 false).toNat)=(top.toNat+W64*more.toNat)+d3.toNat:=by
  simp only [Bool.toNat_false] at q6
  unfold W64 at *
  omega
 have s3:=aZ q3 s4
 have s2:=aZ q2 s3
 have s1:=aZ q1 s2
 rw [s1]
 generalize x.toNat*rLimbs.l0.toNat=y0 at *
 generalize x.toNat*rLimbs.l1.toNat=y1 at *
 generalize x.toNat*rLimbs.l2.toNat=y2 at *
 generalize x.toNat*rLimbs.l3.toNat=y3 at *
 exact RI (pO (pO (N5 _ _ _))) q0
theorem gD (b:Fr) (ai:UInt64) (t:L5) : ∃ m:Nat,m<W64/\(di rLimbs eL ai b t).nat*W64=t.nat+ai.toNat*b.nat+m*qN:=by
 unfold di
 simp only []
 have q0:=rmw ai b.l0 t.t0 0
 generalize rmH ai b.l0 t.t0 0=c0 at *
 have q1:=rmw ai b.l1 t.t1 c0
 generalize rmH ai b.l1 t.t1 c0=c1 at *
 have q2:=rmw ai b.l2 t.t2 c1
 generalize rmH ai b.l2 t.t2 c1=c2 at *
 have q3:=rmw ai b.l3 t.t3 c2
 generalize rmH ai b.l3 t.t3 c2=c3 at *
 have q6:=ci t.t4 c3 false
 refine ⟨(rmL ai b.l0 t.t0 0*eL).toNat,UInt64.toNat_lt _,?_⟩
 rw [Bg]
 refine congrArg (fun z=>z+(rmL ai b.l0 t.t0 0*eL).toNat*qN) ?_
 have e:ai.toNat*b.nat=ai.toNat*b.l0.toNat+W64*(ai.toNat*b.l1.toNat+W64*(ai.toNat*b.l2.toNat+W64*(ai.toNat*b.l3.toNat))):=by
  unfold Fr.nat
  simp only [Nat.mul_add,Nat.mul_left_comm ai.toNat W64]
 rw [e]
 have s4:(dm t.t4 c3 false).toNat+W64*(bw t.t4 c3 false).toNat=t.t4.toNat+c3.toNat:=by simpa using q6
 have s3:=aZ q3 s4
 have s2:=aZ q2 s3
 have s1:=aZ q1 s2
 have s0:=aZ q0 s1
 rw [s0]
 have z:(0:UInt64).toNat=0:=rfl
 rw [z,L5.nat]
 generalize ai.toNat*b.l0.toNat=x0 at *
 generalize ai.toNat*b.l1.toNat=x1 at *
 generalize ai.toNat*b.l2.toNat=x2 at *
 generalize ai.toNat*b.l3.toNat=x3 at *
 rw [Nat.add_zero]
 exact pO (pO (pO (N5 _ _ _)))
theorem fR {b:Fr} {ai:UInt64} {t:L5} (h:t.nat<b.nat+qN):(di rLimbs eL ai b t).nat<b.nat+qN:=by
 obtain ⟨m,hm,e⟩:=gD b ai t
 have hb:=ai.toNat_lt
 have h1:ai.toNat*b.nat<=(W64-1)*b.nat:=Nat.mul_le_mul_right _ (by unfold W64;omega)
 have h2:m*qN<=(W64-1)*qN:=Nat.mul_le_mul_right _ (by omega)
 have h3:(di rLimbs eL ai b t).nat*W64<(b.nat+qN)*W64:=by
  rw [e]
  unfold W64 at *
  omega
 exact Nat.lt_of_mul_lt_mul_right h3
set_option maxRecDepth 100000 in
theorem qW (a b:Fr) : ∃ k:Nat,(cJ a b rLimbs).nat*r4N=a.nat*b.nat+k*qN/\(cJ a b rLimbs).nat<b.nat+qN:=by
 have hp0:0<qN:=k8
 obtain ⟨m0,_,e0⟩:=gD b a.l0 ⟨0,0,0,0,0⟩
 obtain ⟨m1,_,e1⟩:=gD b a.l1 (dE a b rLimbs)
 obtain ⟨m2,_,e2⟩:=gD b a.l2 (dD a b rLimbs)
 obtain ⟨m3,_,e3⟩:=gD b a.l3 (dC a b rLimbs)
 have z:(L5.mk 0 0 0 0 0).nat=0:=by decide +kernel
 have b0:(dE a b rLimbs).nat<b.nat+qN:=by unfold dE;rw [dq];exact fR (by rw [z];omega)
 have b1:(dD a b rLimbs).nat<b.nat+qN:=by unfold dD;rw [dq];exact fR b0
 have b2:(dC a b rLimbs).nat<b.nat+qN:=by unfold dC;rw [dq];exact fR b1
 have b3:(cJ a b rLimbs).nat<b.nat+qN:=by unfold cJ;rw [dq];exact fR b2
 refine ⟨m0+W64*(m1+W64*(m2+W64*(m3))),?_,b3⟩
 rw [z] at e0
 rw [show di rLimbs eL a.l0 b ⟨0,0,0,0,0⟩=dE a b rLimbs by unfold dE;rw [dq]] at e0
 rw [show di rLimbs eL a.l1 b (dE a b rLimbs)=dD a b rLimbs by unfold dD;rw [dq]] at e1
 rw [show di rLimbs eL a.l2 b (dD a b rLimbs)=dC a b rLimbs by unfold dC;rw [dq]] at e2
 rw [show di rLimbs eL a.l3 b (dC a b rLimbs)=cJ a b rLimbs by unfold cJ;rw [dq]] at e3
 have er:r4N=W64*(W64*(W64*W64)):=by decide +kernel
 have eb:a.nat*b.nat=a.l0.toNat*b.nat+W64*(a.l1.toNat*b.nat+W64*(a.l2.toNat*b.nat+W64*(a.l3.toNat*b.nat))):=by
  rw [show a.nat=a.l0.toNat+W64*(a.l1.toNat+W64*(a.l2.toNat+W64*(a.l3.toNat))) from rfl]
  simp only [Nat.add_mul,Nat.mul_assoc]
 have ek:(m0+W64*(m1+W64*(m2+W64*(m3))))*qN=m0*qN+W64*(m1*qN+W64*(m2*qN+W64*(m3*qN))):=by
  simp only [Nat.add_mul,Nat.mul_assoc]
 rw [er,eb,ek]
 have st : ∀ {t' t z R:Nat},t'*W64=t+z -> ∀ s:Nat,t'*(W64*s)=(t+z)*s:=fun h s=>by rw [<- Nat.mul_assoc,h]
 rw [st (R:=0) (t:=(dC a b rLimbs).nat) (z:=a.l3.toNat*b.nat+m3*qN) (by rw [e3,Nat.add_assoc])]
 rw [Nat.add_mul,st (R:=0) (t:=(dD a b rLimbs).nat) (z:=a.l2.toNat*b.nat+m2*qN) (by rw [e2,Nat.add_assoc])]
 rw [Nat.add_mul _ _ (W64*W64),st (R:=0) (t:=(dE a b rLimbs).nat) (z:=a.l1.toNat*b.nat+m1*qN) (by rw [e1,Nat.add_assoc])]
 rw [Nat.add_mul _ _ W64,e0]
 generalize a.l0.toNat*b.nat=x0
 generalize a.l1.toNat*b.nat=x1
 generalize a.l2.toNat*b.nat=x2
 generalize a.l3.toNat*b.nat=x3
 generalize m0*qN=y0
 generalize m1*qN=y1
 generalize m2*qN=y2
 generalize m3*qN=y3
 clear e0 e1 e2 e3 eb ek st
 unfold W64
 omega
theorem Be (t:L5) (h6:t.t4.toNat<=1) (h:t.low.nat+r4N*t.t4.toNat<2*qN):(mz rLimbs t).nat=(t.low.nat+r4N*t.t4.toNat) % qN:=by
 obtain ⟨r1,r2⟩:=vT t.low t.t4.toNat h6 h
 unfold mz
 cases e:t.t4 != 0 with
 | true =>
  have:=u64_ne.1 e
  rw [show (0:UInt64).toNat=0 from rfl] at this
  exact r1 (.inl (by omega))
 | false =>
  rw [bne_eq_false_iff_eq] at e
  have e0:t.t4.toNat=0:=by rw [e];rfl
  rw [jQ,dW]
  by_cases hl:t.low.nat<qN
  ·rw [decide_eq_true hl]
   exact r2 ⟨e0,hl⟩
  ·rw [decide_eq_false hl]
   exact r1 (.inr hl)
theorem Re:qN<r4N:=by decide +kernel
theorem qX {a b:Fr} (hb:b.nat<qN):(hI a b rLimbs).nat<qN/\((hI a b rLimbs).nat*r4N) % qN=(a.nat*b.nat) % qN:=by
 obtain ⟨k,h1,h2⟩:=qW a b
 unfold hI
 generalize cJ a b rLimbs=t at *
 rw [L5.nat_low] at h1 h2
 have hlt:=t.low.nat_lt
 have hq3:=Re
 have h6:t.t4.toNat<=1:=by
  rcases Nat.lt_or_ge t.t4.toNat 2 with h | h
  ·omega
  ·have:r4N*2<=r4N*t.t4.toNat:=Nat.mul_le_mul_left _ h
   omega
 rw [Be t h6 (by omega)]
 refine ⟨Nat.mod_lt _ k8,?_⟩
 rw [Nat.mod_mul_mod,h1,Nat.add_mul_mod_self_right]
def Oi:Nat:=0x1bbe869330009d577204078a4f77266aab6fca8f09dc705f13f75b69fe75c040
theorem Ps:r4N*Oi % qN=1:=by decide +kernel
theorem uc {x y:Nat} (h:x*r4N % qN=y*r4N % qN):x % qN=y % qN:=by
 have e : ∀ z,z % qN=z*r4N % qN*Oi % qN:=fun z=>by
  rw [Nat.mod_mul_mod,Nat.mul_assoc,<- Nat.mul_mod_mod,Ps,Nat.mul_one]
 rw [e x,e y,h]
theorem vM:sq4Limbs.nat=r4N*r4N % qN:=by decide +kernel
theorem n4 {a b:Fr} (hb:b.nat<qN):(bZ a b).nat=a.nat*b.nat % qN:=by
 have hs:sq4Limbs.nat<qN:=by rw [vM];exact Nat.mod_lt _ k8
 obtain ⟨h1,h2⟩:=qX (a:=a) hb
 obtain ⟨h3,h4⟩:=qX (a:=hI a b rLimbs) hs
 have e:(bZ a b).nat % qN=a.nat*b.nat % qN:=by
  refine uc ?_
  show (hI (hI a b rLimbs) sq4Limbs rLimbs).nat*r4N % qN=_
  rw [h4,vM,Nat.mul_mod_mod,<- Nat.mul_assoc,<- Nat.mod_mul_mod,h2,Nat.mod_mul_mod]
 rw [<- e]
 exact (Nat.mod_eq_of_lt h3).symm
theorem IC {a b:Fr} (hb:b.nat<qN):(bZ a b).nat<qN:=by rw [n4 hb];exact Nat.mod_lt _ k8
theorem JO {a b:Fr} (ha:a.nat<qN) (hb:b.nat<qN):(df a b).nat<qN:=by rw [ob ha hb];exact Nat.mod_lt _ k8
theorem Iv {a:Fr} (ha:a.nat<qN):(mV a).nat<qN:=by rw [uh ha];exact Nat.mod_lt _ k8
end Go.Proofs.Ytibfppbffdedoaa
namespace Go.Proofs.Ytibfppbffdedoaa
theorem uW {n F:Nat} (hn1:1<n) (key : ∀ d,IsPrime d->d ∣ n->F ∣ d-1) (hF:n<(F+1)*(F+1)):IsPrime n:=by
 have key : ∀ d,IsPrime d->d ∣ n->F+1<=d:=fun d hd hdn=>by
  have:=Nat.le_of_dvd (by have:=hd.1;omega) (key d hd hdn)
  have:=hd.1
  omega
 refine ⟨hn1,fun x hx => ?_⟩
 by_cases hx1:x=1
 ·exact .inl hx1
 ·right
  obtain ⟨y,hy⟩:=hx
  have hx0:x ≠ 0:=by rintro rfl;omega
  by_cases hy1:y=1
  ·subst hy1;omega
  ·have hy0:y ≠ 0:=by rintro rfl;omega
   obtain ⟨d,hd,hdx⟩:=da x (by omega)
   obtain ⟨e,he,hey⟩:=da y (by omega)
   have h1:=key d hd (Nat.dvd_trans hdx ⟨y,hy⟩)
   have h2:=key e he (Nat.dvd_trans hey ⟨x,by rw [hy,Nat.mul_comm]⟩)
   have h3:=Nat.le_of_dvd (by omega) hdx
   have h4:=Nat.le_of_dvd (by omega) hey
   have:=Nat.mul_le_mul (Nat.le_trans h1 h3) (Nat.le_trans h2 h4)
   omega
theorem gK {n q r a k:Nat} (hn:n=q*r+1) (hq:IsPrime q) (hr:0<r) (hk:q*r<2 ^ k) (h1:uj k a (q*r) n=1) (h2:Nat.gcd (uj k a r n+(n-1)) n=1) {d:Nat} (hd:IsPrime d) (hdn:d ∣ n):q ∣ d-1:=by
 have hrq:r<2 ^ k:=Nat.lt_of_le_of_lt (Nat.le_mul_of_pos_left r (by have:=hq.1;omega)) hk
 rw [eR n k a _ hk] at h1
 rw [eR n k a _ hrq] at h2
 exact yR hn hq hr h1 h2 hd hdn
theorem lz {a b m:Nat} (h:Nat.gcd a b=1) (ha:a ∣ m) (hb:b ∣ m):a*b ∣ m:=Nat.Coprime.mul_dvd_of_dvd_of_dvd h ha hb
theorem xv:IsPrime 10177:=bA (k:=100) (by decide) (by decide +kernel) (by decide)
theorem u0:IsPrime 125527:=bA (k:=354) (by decide) (by decide +kernel) (by decide)
theorem xt:IsPrime 47737:=bA (k:=217) (by decide) (by decide +kernel) (by decide)
theorem uY:IsPrime 859267:=AR 0 (q:=47737) (r:=18) (a:=2) (k:=30) (by decide) xt (by decide) (fun k h=>absurd h (by omega)) (by decide) (by decide) (by decide +kernel) (by decide +kernel)
theorem AL:IsPrime 1607:=bA (k:=40) (by decide) (by decide +kernel) (by decide)
theorem uX:IsPrime 906349:=AR 0 (q:=1607) (r:=564) (a:=2) (k:=30) (by decide) AL (by decide) (fun k h=>absurd h (by omega)) (by decide) (by decide) (by decide +kernel) (by decide +kernel)
theorem sZ:IsPrime 2508409:=bA (k:=1583) (by decide) (by decide +kernel) (by decide)
theorem xu:IsPrime 18329:=bA (k:=135) (by decide) (by decide +kernel) (by decide)
theorem sY:IsPrime 2529403:=AR 0 (q:=18329) (r:=138) (a:=2) (k:=30) (by decide) xu (by decide) (fun k h=>absurd h (by omega)) (by decide) (by decide) (by decide +kernel) (by decide +kernel)
theorem uZ:IsPrime 609743:=bA (k:=781) (by decide) (by decide +kernel) (by decide)
theorem pv:IsPrime 52437899:=AR 0 (q:=609743) (r:=86) (a:=2) (k:=30) (by decide) uZ (by decide) (fun k h=>absurd h (by omega)) (by decide) (by decide) (by decide +kernel) (by decide +kernel)
theorem Ql {d:Nat} (hd:IsPrime d) (hdn:d ∣ qN):331010811950628058101279066386724501604961 ∣ d-1:=(lz (a:=6312434675360049381484164084963139) (b:=52437899) (by decide +kernel) (lz (a:=2495622356484929203248420313) (b:=2529403) (by decide +kernel) (lz (a:=994902488583372649057) (b:=2508409) (by decide +kernel) (lz (a:=1097703521031493) (b:=906349) (by decide +kernel) (lz (a:=1277488279) (b:=859267) (by decide +kernel) (lz (a:=10177) (b:=125527) (by decide +kernel) (gK (n:=qN) (q:=10177) (r:=5152390210781781515127025695999407078479959958782316775336902692339449856) (a:=2) (k:=255) (by decide +kernel) xv (by decide +kernel) (by decide +kernel) (by decide +kernel) (by decide +kernel) hd hdn) (gK (n:=qN) (q:=125527) (r:=417725869136729074059347714102830194601086240414633009811464136798765056) (a:=2) (k:=255) (by decide +kernel) u0 (by decide +kernel) (by decide +kernel) (by decide +kernel) (by decide +kernel) hd hdn)) (gK (n:=qN) (q:=859267) (r:=61023960160376449321861238134579782346686830170980193377150127608692736) (a:=2) (k:=255) (by decide +kernel) uY (by decide +kernel) (by decide +kernel) (by decide +kernel) (by decide +kernel) hd hdn)) (gK (n:=qN) (q:=906349) (r:=57853956009358636109763171259841369977448590444219211167666824479244288) (a:=2) (k:=255) (by decide +kernel) uX (by decide +kernel) (by decide +kernel) (by decide +kernel) (by decide +kernel) hd hdn)) (gK (n:=qN) (q:=2508409) (r:=20904037250355181503274681484632675866531555460264908084209416686010368) (a:=2) (k:=255) (by decide +kernel) sZ (by decide +kernel) (by decide +kernel) (by decide +kernel) (by decide +kernel) hd hdn)) (gK (n:=qN) (q:=2529403) (r:=20730534112249487519168649878325425342537568153642435714120548880482304) (a:=2) (k:=255) (by decide +kernel) sY (by decide +kernel) (by decide +kernel) (by decide +kernel) (by decide +kernel) hd hdn)) (gK (n:=qN) (q:=52437899) (r:=999961405302035279473110478895921551656570994587857873989262207090688) (a:=2) (k:=255) (by decide +kernel) pv (by decide +kernel) (by decide +kernel) (by decide +kernel) (by decide +kernel) hd hdn))
theorem prime_qN:IsPrime qN:=uW (F:=331010811950628058101279066386724501604961) (by decide +kernel) (fun d hd hdn=>Ql hd hdn) (by decide +kernel)
end Go.Proofs.Ytibfppbffdedoaa
namespace Go.Proofs.Ytibfppbffdedoaa
theorem mR {K:Type} [Fld K] {p:Nat} (h:IsPrime p) (h0:(CR.nat p:K)=0) (a b:K) : ∀ n,(a+b) ^ (p ^ n)=a ^ (p ^ n)+b ^ (p ^ n)
 | 0=>by rw [Nat.pow_zero,fE,fE,fE]
 | n+1=>by rw [Nat.pow_succ,bk,bk,bk,mR h h0 a b n,OF h h0]
def e6 (x:V6):V12:=⟨x,0⟩
def e2 (c:V2):V12:=e6 ⟨c,0,0⟩
def ww:V12:=⟨0,1⟩
theorem wY (x y:V6):e6 (x+y)=e6 x+e6 y:=Qd.ext' rfl (show (0:V6)=0+0 by grind)
theorem KJ (x y:V6):e6 (x-y)=e6 x-e6 y:=Qd.ext' rfl (show (0:V6)=0-0 by grind)
theorem Cn (x:V6):e6 (-x) = -e6 x:=Qd.ext' rfl (show (0:V6) = -0 by grind)
theorem lw (x y:V6):e6 (x*y)=e6 x*e6 y:=Qd.of_mul x y
theorem Qj:e6 1=1:=rfl
theorem e6_zero:e6 0=0:=rfl
theorem Qk {x y:V6} (h:e6 x=e6 y):x=y:=congrArg Qd.a h
theorem pn (x y:V2):e2 (x+y)=e2 x+e2 y:=by
 show e6 ⟨x+y,0,0⟩=e6 ⟨x,0,0⟩+e6 ⟨y,0,0⟩
 rw [<- wY]
 exact congrArg e6 (Cb.ext' rfl (show (0:V2)=0+0 by grind) (show (0:V2)=0+0 by grind))
theorem KK (x y:V2):e2 (x-y)=e2 x-e2 y:=by
 show e6 ⟨x-y,0,0⟩=e6 ⟨x,0,0⟩-e6 ⟨y,0,0⟩
 rw [<- KJ]
 exact congrArg e6 (Cb.ext' rfl (show (0:V2)=0-0 by grind) (show (0:V2)=0-0 by grind))
theorem pk (x:V2):e2 (-x) = -e2 x:=by
 show e6 ⟨-x,0,0⟩ = -e6 ⟨x,0,0⟩
 rw [<- Cn]
 exact congrArg e6 (Cb.ext' rfl (show (0:V2) = -0 by grind) (show (0:V2) = -0 by grind))
theorem ef (x y:V2):e2 (x*y)=e2 x*e2 y:=by
 show e6 ⟨x*y,0,0⟩=e6 ⟨x,0,0⟩*e6 ⟨y,0,0⟩
 rw [<- lw]
 exact congrArg e6 (Cb.ext' (by rw [Cb.mul_a];show x*y=x*y+CP.cr*(0*0+0*0);grind) (by rw [Cb.mul_b];show 0=x*0+0*y+CP.cr*(0*0);grind) (by rw [Cb.mul_c];show 0=x*0+0*0+0*y;grind))
theorem KM:e2 1=1:=rfl
theorem NE:e2 0=0:=rfl
theorem wZ (x:V2) : ∀ n:Nat,e2 x ^ n=e2 (x ^ n)
 | 0=>rfl
 | n+1=>by rw [an,wZ x n,an,ef]
theorem Lb:ww*ww=e6 vv:=Qd.ext' (by rw [Qd.mul_a];show (0:V6)*0+vv*(1*1)=vv;generalize vv=v;grind) (by rw [Qd.mul_b];show (0:V6)*1+1*0=0;grind)
theorem LK:vv*vv*vv=⟨xi,0,0⟩:=by
 have h:vv*vv=⟨0,0,1⟩:=Cb.ext' (by rw [Cb.mul_a];show (0:V2)*0+CP.cr*(1*0+0*1)=0;grind) (by rw [Cb.mul_b];show (0:V2)*1+1*0+CP.cr*(0*0)=0;grind) (by rw [Cb.mul_c];show (0:V2)*0+1*1+0*0=1;grind)
 rw [h]
 exact Cb.ext' (by rw [Cb.mul_a];show (0:V2)*0+xi*(0*0+1*1)=xi;generalize xi=x;grind) (by rw [Cb.mul_b];show (0:V2)*1+0*0+CP.cr*(1*0)=0;grind) (by rw [Cb.mul_c];show (0:V2)*0+0*1+1*0=0;grind)
theorem sE:ww ^ 6=e2 xi:=by
 have h:ww ^ 6=(ww*ww)*(ww*ww)*(ww*ww):=by generalize ww=w;grind
 rw [h,Lb,<- lw,<- lw,LK]
 rfl
theorem sB (x:V6):e6 x=e2 x.a+e2 x.b*(ww*ww)+e2 x.c*(ww*ww*(ww*ww)):=by
 have hs:vv*vv=⟨0,0,1⟩:=Cb.ext' (by rw [Cb.mul_a];show (0:V2)*0+CP.cr*(1*0+0*1)=0;grind) (by rw [Cb.mul_b];show (0:V2)*1+1*0+CP.cr*(0*0)=0;grind) (by rw [Cb.mul_c];show (0:V2)*0+1*1+0*0=1;grind)
 rw [Lb,<- lw,hs]
 unfold e2
 rw [<- lw,<- lw,<- wY,<- wY]
 refine congrArg e6 (Cb.ext' ?_ ?_ ?_)
 ·show x.a=x.a+(x.b*0+CP.cr*(0*0+0*1))+(x.c*0+CP.cr*(0*1+0*0));grind
 ·show x.b=0+(x.b*1+0*0+CP.cr*(0*0))+(x.c*0+0*0+CP.cr*(0*1));grind
 ·show x.c=0+(x.b*0+0*1+0*0)+(x.c*1+0*0+0*0);grind
theorem CO (z:V12):z=e6 z.a+e6 z.b*ww:=Qd.ext' (by rw [Qd.add_a,Qd.mul_a];show z.a=z.a+(z.b*0+QP.nr*(0*1));grind) (by rw [Qd.add_b,Qd.mul_b];show z.b=0+(z.b*1+0*0);grind)
theorem OX (k:Nat):ww ^ (6*k+1)=e2 (xi ^ k)*ww:=by rw [an,bk,sE,wZ]
def gg:V2:=xi ^ ((pN-1) / 6)
theorem If:pN=6*((pN-1) / 6)+1:=by decide +kernel
theorem conj_conj (c:V2):c.conj.conj=c:=Qd.ext' rfl (CR.neg_neg _)
theorem V2.pow_pp (c:V2):c ^ (pN*pN)=c:=by rw [bk,V2.frob,V2.frob,conj_conj]
theorem V2.pow_ev (c:V2) : ∀ n:Nat,c ^ (pN ^ (2*n))=c
 | 0=>by rw [Nat.mul_zero,Nat.pow_zero,fE]
 | n+1=>by rw [show 2*(n+1)=2*n+1+1 from rfl,Nat.pow_succ,Nat.pow_succ,Nat.mul_assoc,bk,V2.pow_ev c n,V2.pow_pp]
theorem N6:xi ≠ 0:=fun h=>by
 have h1:xi.norm=0:=by rw [h];show (0:V1)*0-QP.nr*(0*0)=0;grind
 rw [pQ] at h1
 exact Go.Proofs.Ytibfppbffdedoaa.two_ne h1
theorem Q5:xi ^ (pN+1)=Qd.of 2:=by rw [an,V2.frob,CR.mul_comm,Qd.mul_conj,pQ]
theorem LR:(2:V1) ^ ((pN-1) / 2) = -1:=(FV Go.Proofs.Ytibfppbffdedoaa.two_ne).resolve_left yp
theorem LG:xi ^ ((pN+1)*((pN-1) / 2)) = -1:=by
 rw [bk,Q5,Qd.of_pow,LR]
 exact Qd.ext' rfl (show (0:V1) = -0 by grind)
theorem xy {R:Type} [CR R] (k:Nat):(-1:R) ^ (2*k+1) = -1:=jN k
theorem L6:pN ^ 6=6*(((pN+1)*((pN-1) / 2))*(2*(((pN ^ 4+pN ^ 2+1) / 3-1) / 2)+1))+1:=by decide +kernel
theorem N7:ww ^ (pN ^ 6) = -ww:=by
 rw [L6,OX,bk,LG,xy,pk,KM]
 generalize ww=w
 grind
theorem Lu (c:V2):e2 c ^ (pN ^ 6)=e2 c:=by
 rw [wZ]
 exact congrArg e2 (V2.pow_ev c 3)
theorem Lt (x:V6):e6 x ^ (pN ^ 6)=e6 x:=by
 rw [sB,mR k9 V12.char,mR k9 V12.char,cN,cN,cN,cN,cN,Lu,Lu,Lu,N7]
 generalize ww=w
 grind
theorem V12.p6 (z:V12):z ^ (pN ^ 6)=z.conj:=by
 conv=>lhs;rw [CO z]
 rw [mR k9 V12.char,cN,Lt,Lt,N7]
 refine Eq.trans ?_ (Qd.ext' (y:=z.conj) (x:=e6 z.a+e6 (-z.b)*ww) ?_ ?_)
 ·rw [Cn];generalize ww=w;grind
 ·rw [Qd.add_a,Qd.mul_a];show z.a+(-z.b*0+QP.nr*(0*1))=z.a;grind
 ·rw [Qd.add_b,Qd.mul_b];show 0+(-z.b*1+0*0) = -z.b;grind
theorem V12.conj_conj (z:V12):z.conj.conj=z:=Qd.ext' rfl (CR.neg_neg _)
def kN:Nat:=(pN ^ 6+1) / qN
def eN:Nat:=(pN ^ 6-1)*kN
theorem Qi:eN=2*((pN*pN-1)*(eN / (2*(pN*pN-1)))):=by decide +kernel
theorem MQ:pN ^ 6=(pN ^ 6-1)+1:=by decide +kernel
theorem MF:pN*pN=(pN*pN-1)+1:=by decide +kernel
theorem uB {K:Type} [Fld K] {a:K} (h:a ≠ 0) {m n:Nat} (hm:m=n+1) (hp:a ^ m=a):a ^ n=1:=by
 rw [hm,an] at hp
 exact gT h (hp.trans (by rw [CR.mul_comm];exact (RU a).symm))
def fV (z:V12):V12:=z ^ eN
theorem lA (a b:V12):fV (a*b)=fV a*fV b:=cN a b _
theorem Rw {x:V6} (h:x ≠ 0):e6 x ≠ 0:=fun e=>h (Qk (e.trans e6_zero.symm))
theorem Lw {x:V6} (h:x ≠ 0):fV (e6 x)=1:=by
 unfold fV eN
 rw [bk,uB (Rw h) MQ (Lt x),jY]
theorem Qo (a:V12):fV (-a)=fV a:=by
 have e : -a=e6 (-1)*a:=by rw [Cn,Qj];grind
 rw [e,lA,Lw (x := -1) (fun h=>dA (K:=V6) (by grind))]
 grind
theorem NG {z:V12} (h:z ≠ 0):fV z*fV z.conj=1:=by
 rw [<- lA,Qd.mul_conj]
 exact Lw (Qd.norm_ne h)
theorem Qn:fV (ww*ww*ww)=1:=by
 unfold fV
 rw [Qi,bk]
 have h:(ww*ww*ww) ^ 2=e2 xi:=by rw [<- sE];generalize ww=w;grind
 rw [h,wZ,bk,uB N6 MF (V2.pow_pp xi),jY,KM]
end Go.Proofs.Ytibfppbffdedoaa
namespace Go.Proofs.Ytibfppbffdedoaa
open Go.RowKit
section
theorem Bm {f0:Fp->Fp} {p:Pg1} (h:p.inf=true):fH f0 p=eS:=by unfold fH;rw [h]
theorem Bn {f0:Fp->Fp} {p:Pg1} (h:p.inf=false):fH f0 p=⟨f0 p.x,f0 p.y,f0 oneFp⟩:=by unfold fH;rw [h]
theorem Fw {f0:Fp->Fp × Int} {f1:Fp->Fp} {f2:Fp->Fp->Fp} {s:Sp1} (h:(f0 (f1 s.z)).2=7):fI f0 f1 f2 s=infG1:=by
 unfold fI
 rw [h]
 rfl
theorem Bo {f0:Fp->Fp × Int} {f1:Fp->Fp} {f2:Fp->Fp->Fp} {s:Sp1} (h:(f0 (f1 s.z)).2=0):fI f0 f1 f2 s=⟨f2 (f1 s.x) (f2 (f0 (f1 s.z)).1 (f0 (f1 s.z)).1),f2 (f1 s.y) (f2 (f2 (f0 (f1 s.z)).1 (f0 (f1 s.z)).1) (f0 (f1 s.z)).1),false⟩:=by
 unfold fI
 rw [h]
 rfl
theorem DS (a:Fp):jr a=jl a zeroFp:=by unfold jr rV;rfl
def Pg1.pt (p:Pg1):Pt V1:=match p.inf with
 | true => .inf
 | false => .aff p.x.v p.y.v
def Pg1.ok (p:Pg1):Prop:=p=infG1 \/ (p.inf=false/\p.x.ok/\p.y.ok)
def Pg1.good (p:Pg1):Prop:=p.ok/\p.pt.on
theorem qC {p:Pg1} (h:p.inf=true):p.pt = .inf:=by unfold Pg1.pt;rw [h]
theorem ji {p:Pg1} (h:p.inf=false):p.pt = .aff p.x.v p.y.v:=by unfold Pg1.pt;rw [h]
theorem uw:infG1.good:=⟨.inl rfl,trivial⟩
theorem C5 {p:Pg1} (h:p.ok) (hi:p.inf=true):p=infG1:=by
 rcases h with h | ⟨h,_⟩
 ·exact h
 ·rw [hi] at h;cases h
theorem qL {p:Pg1} (h:p.ok) (hi:p.inf=false):p.x.ok/\p.y.ok:=by
 rcases h with h | ⟨_,h⟩
 ·rw [h] at hi;cases hi
 ·exact h
theorem Py {a b:Pg1} (h1:a.x=b.x) (h2:a.y=b.y) (h3:a.inf=b.inf):a=b:=by
 cases a;cases b
 simp_all
theorem zp {x y:Fp} {u v:V1} (hx:x.ok) (hy:y.ok) (ex:x.v=u) (ey:y.v=v) (h:(Pt.aff u v).on):(⟨x,y,false⟩:Pg1).good/\(⟨x,y,false⟩:Pg1).pt = .aff u v:=by
 subst ex ey
 exact ⟨⟨.inr ⟨rfl,hx,hy⟩,h⟩,rfl⟩
theorem Mz {a b:Pg1} (ha:a.ok) (hb:b.ok) (h:a.pt=b.pt):a=b:=by
 cases ea:a.inf with
 | true =>
  cases eb:b.inf with
  | true=>rw [C5 ha ea,C5 hb eb]
  | false=>rw [qC ea,ji eb] at h;cases h
 | false =>
  cases eb:b.inf with
  | true=>rw [ji ea,qC eb] at h;cases h
  | false =>
   rw [ji ea,ji eb] at h
   obtain ⟨a1,a2⟩:=qL ha ea
   obtain ⟨b1,b2⟩:=qL hb eb
   injection h with h1 h2
   exact Py (Fp.v_inj a1 b1 h1) (Fp.v_inj a2 b2 h2) (ea.trans eb.symm)
def m1 (a:Fp):V1:=ri*a.v
theorem fb {a b:Fp} (ha:a.ok) (hb:b.ok):m1 (jp a b)=m1 a+m1 b:=by unfold m1;rw [O5 ha hb];exact CR.dist _ _ _
theorem jC {a b:Fp} (ha:a.ok) (hb:b.ok):m1 (gl a b)=m1 a-m1 b:=by unfold m1;rw [OY ha hb];grind
theorem az {a b:Fp} (ha:a.ok) (hb:b.ok):m1 (aJ a b)=m1 a*m1 b:=by unfold m1;rw [LM ha hb];grind
theorem su {a:Fp} (ha:a.ok):m1 (bq a)=a.v:=by
 unfold m1
 rw [GV ha]
 have:=Gr
 grind
theorem rY {a:Fp} (ha:a.ok):(hJ a).v=m1 a:=O2 ha
theorem Ph:ri ≠ 0:=fun e=>dA (K:=V1) (by rw [<- Gr,e];exact CR.mul_zero _)
theorem nG {a:Fp} (ha:a.ok):jr a=true <-> m1 a=0:=by
 rw [DS,Rv ha mD,CD]
 unfold m1
 constructor
 ·intro h;rw [h];exact CR.mul_zero _
 ·intro h;exact (ar h).resolve_left Ph
theorem gE {a:Fp} (ha:a.ok):jr a=false <-> m1 a ≠ 0:=by rw [<- Bool.not_eq_true,nG ha]
def vS (s:Sp1) (p:Pt V1):Prop:=(s.x.ok/\s.y.ok/\s.z.ok)/\Jc (m1 s.x) (m1 s.y) (m1 s.z) p
theorem vR {x y z:Fp} {p:Pt V1} (hx:x.ok) (hy:y.ok) (hz:z.ok) (h:Jc (m1 x) (m1 y) (m1 z) p):vS ⟨x,y,z⟩ p:=⟨⟨hx,hy,hz⟩,h⟩
theorem mM:vS eS .inf:=⟨⟨mD,mD,mD⟩,by
 show m1 zeroFp=0
 unfold m1
 rw [CD]
 exact CR.mul_zero _⟩
theorem Fs {p:Pg1} (h:p.good):vS (dG p) p.pt:=by
 unfold dG
 cases hi:p.inf with
 | true=>rw [Bm hi,qC hi];exact mM
 | false =>
  obtain ⟨hx,hy⟩:=qL h.1 hi
  rw [Bn hi,ji hi]
  refine vR (nO hx) (nO hy) (nO C1) ?_
  rw [su hx,su hy,su C1,OZ]
  exact ⟨dA,by grind,by grind⟩
theorem PZ {K:Type} [Fld K] {x z:K} (hz:z ≠ 0):x*(z*z)*(Fld.inv z*Fld.inv z)=x:=by
 have:=aO hz
 grind
theorem Nr {K:Type} [Fld K] {y z:K} (hz:z ≠ 0):y*(z*z*z)*(Fld.inv z*Fld.inv z*Fld.inv z)=y:=by
 have:=aO hz
 grind
theorem Fx {s:Sp1} {p:Pt V1} (hp:p.on) (h:vS s p):(dj s).good/\(dj s).pt=p:=by
 obtain ⟨⟨hx,hy,hz⟩,hj⟩:=h
 obtain ⟨i1,i2⟩:=P4 (wg hz)
 rw [rY hz] at i1 i2
 unfold dj
 by_cases h0:m1 s.z=0
 ·rw [Fw (i1 h0),hj.inf_of h0]
  exact ⟨uw,rfl⟩
 ·obtain ⟨j1,j2,j3⟩:=i2 h0
  obtain ⟨x,y,rfl,e1,e2⟩:=hj.aff_of h0
  rw [Bo j1]
  have kk:=qQ j2 j2
  have kkk:=qQ kk j2
  have lx:=wg hx
  have ly:=wg hy
  have ex:(ll (hJ s.x) (ll (hO (hJ s.z)).1 (hO (hJ s.z)).1)).v=x:=by
   rw [sI lx kk,sI j2 j2,rY hx,j3,e1]
   exact PZ h0
  have ey:(ll (hJ s.y) (ll (ll (hO (hJ s.z)).1 (hO (hJ s.z)).1) (hO (hJ s.z)).1)).v=y:=by
   rw [sI ly kkk,sI kk j2,sI j2 j2,rY hy,j3,e2]
   exact Nr h0
  exact zp (qQ lx kk) (qQ ly kkk) ex ey hp
theorem Rl (x y:V1):((x*x+x*x)+x*x)*((x*x+x*x)+x*x)-((x*(y*y)+x*(y*y)+(x*(y*y)+x*(y*y)))+(x*(y*y)+x*(y*y)+(x*(y*y)+x*(y*y))))=jx x y:=by unfold jx;grind
theorem Rk (x y:V1):((x*x+x*x)+x*x)*((x*(y*y)+x*(y*y)+(x*(y*y)+x*(y*y)))-jx x y)-((y*y*(y*y)+y*y*(y*y)+(y*y*(y*y)+y*y*(y*y)))+(y*y*(y*y)+y*y*(y*y)+(y*y*(y*y)+y*y*(y*y))))=jy x y:=by unfold jy;generalize jx x y=k;grind
theorem Rj (y z:V1):y*z+y*z=jz y z:=by unfold jz;grind
theorem qb {s:Sp1} {p:Pt V1} (hp:p.on) (h:vS s p):vS (bj s) (p.add p):=by
 obtain ⟨⟨hx,hy,hz⟩,hj⟩:=h
 have ha:=aR hx hx
 have hb:=aR hy hy
 have hc:=aR hb hb
 have hd:=aR hx hb
 have hd2:=em hd hd
 have hd4:=em hd2 hd2
 have he:=em (em ha ha) ha
 have hee:=aR he he
 have hd8:=em hd4 hd4
 have hX:=gk hee hd8
 have hc2:=em hc hc
 have hc4:=em hc2 hc2
 have hc8:=em hc4 hc4
 have hyz:=aR hy hz
 have hs:=gk hd4 hX
 have hes:=aR he hs
 have hj':=DY hp hj
 have e1:=jC hee hd8
 rw [az he he,fb hd4 hd4,fb hd2 hd2,fb hd hd,az hx hb,az hy hy,fb (em ha ha) ha,fb ha ha,az hx hx,Rl] at e1
 have e2:=jC hes hc8
 rw [az he hs,jC hd4 hX,e1,fb hc4 hc4,fb hc2 hc2,fb hc hc,az hb hb,fb hd2 hd2,fb hd hd,az hx hb,az hy hy,fb (em ha ha) ha,fb ha ha,az hx hx,Rk] at e2
 have e3:=fb hyz hyz
 rw [az hy hz,Rj] at e3
 unfold bj nP
 refine vR hX (gk hes hc8) (em hyz hyz) ?_
 rw [e1,e2,e3]
 exact hj'
section
variable {f0 : Fp -> Bool} {f1 f2 f4 : Fp -> Fp -> Fp} {f3 : Sp1 -> Sp1} {s t : Sp1}
theorem H6 (h:f0 s.z=true):bD f0 f1 f2 f3 f4 s t=t:=by unfold bD;rw [h]
theorem H5 (h:f0 s.z=false) (h2:f0 t.z=true):bD f0 f1 f2 f3 f4 s t=s:=by unfold bD;rw [h,h2]
theorem EF (h:f0 s.z=false) (h2:f0 t.z=false) (h3:f0 (f2 (f1 t.x (f1 s.z s.z)) (f1 s.x (f1 t.z t.z)))=true) (h4:f0 (f2 (f1 t.y (f1 (f1 s.z s.z) s.z)) (f1 s.y (f1 (f1 t.z t.z) t.z)))=true):bD f0 f1 f2 f3 f4 s t=f3 s:=by
 unfold bD
 rw [h,h2,h3,h4]
theorem EG (h:f0 s.z=false) (h2:f0 t.z=false) (h3:f0 (f2 (f1 t.x (f1 s.z s.z)) (f1 s.x (f1 t.z t.z)))=true) (h4:f0 (f2 (f1 t.y (f1 (f1 s.z s.z) s.z)) (f1 s.y (f1 (f1 t.z t.z) t.z)))=false):bD f0 f1 f2 f3 f4 s t=eS:=by
 unfold bD
 rw [h,h2,h3,h4]
theorem AU (h:f0 s.z=false) (h2:f0 t.z=false) (h3:f0 (f2 (f1 t.x (f1 s.z s.z)) (f1 s.x (f1 t.z t.z)))=false):bD f0 f1 f2 f3 f4 s t=⟨(f2 (f2 (f1 (f2 (f1 t.y (f1 (f1 s.z s.z) s.z)) (f1 s.y (f1 (f1 t.z t.z) t.z))) (f2 (f1 t.y (f1 (f1 s.z s.z) s.z)) (f1 s.y (f1 (f1 t.z t.z) t.z)))) (f1 (f1 (f2 (f1 t.x (f1 s.z s.z)) (f1 s.x (f1 t.z t.z))) (f2 (f1 t.x (f1 s.z s.z)) (f1 s.x (f1 t.z t.z)))) (f2 (f1 t.x (f1 s.z s.z)) (f1 s.x (f1 t.z t.z))))) (f4 (f1 (f1 s.x (f1 t.z t.z)) (f1 (f2 (f1 t.x (f1 s.z s.z)) (f1 s.x (f1 t.z t.z))) (f2 (f1 t.x (f1 s.z s.z)) (f1 s.x (f1 t.z t.z))))) (f1 (f1 s.x (f1 t.z t.z)) (f1 (f2 (f1 t.x (f1 s.z s.z)) (f1 s.x (f1 t.z t.z))) (f2 (f1 t.x (f1 s.z s.z)) (f1 s.x (f1 t.z t.z))))))),(f2 (f1 (f2 (f1 t.y (f1 (f1 s.z s.z) s.z)) (f1 s.y (f1 (f1 t.z t.z) t.z))) (f2 (f1 (f1 s.x (f1 t.z t.z)) (f1 (f2 (f1 t.x (f1 s.z s.z)) (f1 s.x (f1 t.z t.z))) (f2 (f1 t.x (f1 s.z s.z)) (f1 s.x (f1 t.z t.z))))) (f2 (f2 (f1 (f2 (f1 t.y (f1 (f1 s.z s.z) s.z)) (f1 s.y (f1 (f1 t.z t.z) t.z))) (f2 (f1 t.y (f1 (f1 s.z s.z) s.z)) (f1 s.y (f1 (f1 t.z t.z) t.z)))) (f1 (f1 (f2 (f1 t.x (f1 s.z s.z)) (f1 s.x (f1 t.z t.z))) (f2 (f1 t.x (f1 s.z s.z)) (f1 s.x (f1 t.z t.z)))) (f2 (f1 t.x (f1 s.z s.z)) (f1 s.x (f1 t.z t.z))))) (f4 (f1 (f1 s.x (f1 t.z t.z)) (f1 (f2 (f1 t.x (f1 s.z s.z)) (f1 s.x (f1 t.z t.z))) (f2 (f1 t.x (f1 s.z s.z)) (f1 s.x (f1 t.z t.z))))) (f1 (f1 s.x (f1 t.z t.z)) (f1 (f2 (f1 t.x (f1 s.z s.z)) (f1 s.x (f1 t.z t.z))) (f2 (f1 t.x (f1 s.z s.z)) (f1 s.x (f1 t.z t.z))))))))) (f1 (f1 s.y (f1 (f1 t.z t.z) t.z)) (f1 (f1 (f2 (f1 t.x (f1 s.z s.z)) (f1 s.x (f1 t.z t.z))) (f2 (f1 t.x (f1 s.z s.z)) (f1 s.x (f1 t.z t.z)))) (f2 (f1 t.x (f1 s.z s.z)) (f1 s.x (f1 t.z t.z)))))),(f1 (f1 s.z t.z) (f2 (f1 t.x (f1 s.z s.z)) (f1 s.x (f1 t.z t.z))))⟩:=by
 unfold bD
 rw [h,h2,h3]
end
theorem Rf (u h r:V1):r*r-h*h*h-(u*(h*h)+u*(h*h))=r*r-h*h*h-2*(u*(h*h)):=by grind
theorem ue {s t:Sp1} {p q:Pt V1} (hp:p.on) (hq:q.on) (hs:vS s p) (ht:vS t q):vS (aN s t) (p.add q):=by
 have hs0:=hs
 have ht0:=ht
 obtain ⟨⟨hx,hy,hz⟩,hj⟩:=hs
 obtain ⟨⟨kx,ky,kz⟩,kj⟩:=ht
 unfold aN
 by_cases z1:m1 s.z=0
 ·rw [H6 ((nG hz).2 z1),hj.inf_of z1,bE]
  exact ht0
 by_cases z2:m1 t.z=0
 ·rw [H5 ((gE hz).2 z1) ((nG kz).2 z2),kj.inf_of z2,bO]
  exact hs0
 have n1:=(gE hz).2 z1
 have n2:=(gE kz).2 z2
 have zz:=aR hz hz
 have ww:=aR kz kz
 have zzz:=aR zz hz
 have www:=aR ww kz
 have hu:=aR hx ww
 have hv:=aR kx zz
 have ha:=aR hy www
 have hb:=aR ky zzz
 have hh:=gk hv hu
 have hr:=gk hb ha
 have eh:m1 (gl (aJ t.x (aJ s.z s.z)) (aJ s.x (aJ t.z t.z)))=m1 t.x*(m1 s.z*m1 s.z)-m1 s.x*(m1 t.z*m1 t.z):=by
  rw [jC hv hu,az kx zz,az hx ww,az hz hz,az kz kz]
 have er:m1 (gl (aJ t.y (aJ (aJ s.z s.z) s.z)) (aJ s.y (aJ (aJ t.z t.z) t.z)))=m1 t.y*(m1 s.z*m1 s.z*m1 s.z)-m1 s.y*(m1 t.z*m1 t.z*m1 t.z):=by
  rw [jC hb ha,az ky zzz,az hy www,az zz hz,az ww kz,az hz hz,az kz kz]
 by_cases h0:m1 t.x*(m1 s.z*m1 s.z)-m1 s.x*(m1 t.z*m1 t.z)=0
 ·obtain ⟨c1,c2⟩:=ED hp hq hj kj z1 z2 h0
  have n3:=(nG hh).2 (by rw [eh];exact h0)
  by_cases r0:m1 t.y*(m1 s.z*m1 s.z*m1 s.z)-m1 s.y*(m1 t.z*m1 t.z*m1 t.z)=0
  ·rw [EF n1 n2 n3 ((nG hr).2 (by rw [er];exact r0)),c1 r0]
   exact qb hp hs0
  ·rw [EG n1 n2 n3 ((gE hr).2 (by rw [er];exact r0)),c2 r0]
   exact mM
 ·rw [AU n1 n2 ((gE hh).2 (by rw [eh];exact h0))]
  have key:=H4 hp hq hj kj z1 z2 h0
  have h2:=aR hh hh
  have h3:=aR h2 hh
  have hw:=aR hu h2
  have hrr:=aR hr hr
  have hw2:=em hw hw
  have hrh:=gk hrr h3
  have hX:=gk hrh hw2
  have hwx:=gk hw hX
  have hrw:=aR hr hwx
  have hah:=aR ha h3
  have hst:=aR hz kz
  have eu:m1 (aJ s.x (aJ t.z t.z))=m1 s.x*(m1 t.z*m1 t.z):=by rw [az hx ww,az kz kz]
  have ea:m1 (aJ s.y (aJ (aJ t.z t.z) t.z))=m1 s.y*(m1 t.z*m1 t.z*m1 t.z):=by rw [az hy www,az ww kz,az kz kz]
  have e1:=jC hrh hw2
  rw [jC hrr h3,az hr hr,er,az h2 hh,az hh hh,eh,fb hw hw,az hu h2,eu,az hh hh,eh,Rf] at e1
  have e1':_=px (m1 s.x) (m1 s.y) (m1 s.z) (m1 t.x) (m1 t.y) (m1 t.z):=e1
  have e2:=jC hrw hah
  rw [az hr hwx,jC hw hX,e1',az hu h2,eu,az hh hh,eh,az ha h3,ea,az h2 hh,az hh hh,eh,er] at e2
  have e3:=az hst hh
  rw [az hz kz,eh] at e3
  refine vR hX (gk hrw hah) (aR hst hh) ?_
  rw [e1',e2,e3]
  exact key
end
section
def Pg2.pt (p:Pg2):Pt V2:=match p.inf with
 | true => .inf
 | false => .aff p.x.v p.y.v
def Pg2.ok (p:Pg2):Prop:=p=Rq \/ (p.inf=false/\p.x.ok/\p.y.ok)
def Pg2.good (p:Pg2):Prop:=p.ok/\p.pt.on
def m2 (a:Fp2):V2:=ri2*a.v
section
variable {f0 : Fp2 -> Bool} {f1 f2 f4 : Fp2 -> Fp2 -> Fp2} {f3 : Fp6 -> Fp6} {s t : Fp6}
end
end
section
theorem QD {K:Type} [Fld K] [Crv K] {f0:Fp2->Fp2->Bool->Fp2} {f1 f2:Fp2->Fp2->Fp2} {f3:Fp2->Bool->Fp2} {b:K} {small:Bool} (ok:Fp2->Prop) (v:Fp2->K)
  (hA : ∀ {x y},ok x->ok y->ok (f1 x y)/\v (f1 x y)=v x+v y) (hS : ∀ {x y},ok x->ok y->ok (f2 x y)/\v (f2 x y)=v x-v y) (hM : ∀ {x y},ok x->ok y->ok (f0 x y small)/\v (f0 x y small)=v x*v y) (hB : ∀ {x},ok x->ok (f3 x small)/\v (f3 x small)=3*b*v x)
  {s t:Fp6} (hs:ok s.c0/\ok s.c1/\ok s.c2) (ht:ok t.c0/\ok t.c1/\ok t.c2) :
  (ok (ij f0 f1 f2 f3 s t small).c0/\ok (ij f0 f1 f2 f3 s t small).c1/\ok (ij f0 f1 f2 f3 s t small).c2) /\
  v (ij f0 f1 f2 f3 s t small).c0=rx b (v s.c0) (v s.c1) (v s.c2) (v t.c0) (v t.c1) (v t.c2)/\v (ij f0 f1 f2 f3 s t small).c1=ry b (v s.c0) (v s.c1) (v s.c2) (v t.c0) (v t.c1) (v t.c2)/\v (ij f0 f1 f2 f3 s t small).c2=rz b (v s.c0) (v s.c1) (v s.c2) (v t.c0) (v t.c1) (v t.c2):=by
 obtain ⟨s0,s1,s2⟩:=hs
 obtain ⟨t0,t1,t2⟩:=ht
 have a0:=hM s0 t0
 have a1:=hM s1 t1
 have a2:=hM s2 t2
 have b3:=hM (hA s0 s1).1 (hA t0 t1).1
 have b4:=hM (hA s1 s2).1 (hA t1 t2).1
 have b5:=hM (hA s0 s2).1 (hA t0 t2).1
 have c3:=hS (hS b3.1 a0.1).1 a1.1
 have c4:=hS (hS b4.1 a1.1).1 a2.1
 have c5:=hS (hS b5.1 a0.1).1 a2.1
 have d0:=hA (hA a0.1 a0.1).1 a0.1
 have d2:=hB a2.1
 have dz:=hA a1.1 d2.1
 have d1:=hS a1.1 d2.1
 have dy:=hB c5.1
 have x1:=hM c3.1 d1.1
 have x2:=hM c4.1 dy.1
 have y1:=hM d1.1 dz.1
 have y2:=hM dy.1 d0.1
 have z1:=hM dz.1 c4.1
 have z2:=hM d0.1 c3.1
 have X:=hS x1.1 x2.1
 have Y:=hA y1.1 y2.1
 have Z:=hA z1.1 z2.1
 have e3:=c3.2
 rw [(hS b3.1 a0.1).2,b3.2,a0.2,a1.2,(hA s0 s1).2,(hA t0 t1).2] at e3
 have e4:=c4.2
 rw [(hS b4.1 a1.1).2,b4.2,a1.2,a2.2,(hA s1 s2).2,(hA t1 t2).2] at e4
 have e5:=c5.2
 rw [(hS b5.1 a0.1).2,b5.2,a0.2,a2.2,(hA s0 s2).2,(hA t0 t2).2] at e5
 have eX:=X.2
 rw [x1.2,x2.2,e3,e4,d1.2,dy.2,e5,d2.2,a1.2,a2.2] at eX
 have eY:=Y.2
 rw [y1.2,y2.2,d1.2,dz.2,dy.2,e5,d0.2,(hA a0.1 a0.1).2,d2.2,a0.2,a1.2,a2.2] at eY
 have eZ:=Z.2
 rw [z1.2,z2.2,dz.2,e4,d0.2,(hA a0.1 a0.1).2,d2.2,e3,a0.2,a1.2,a2.2] at eZ
 refine ⟨⟨X.1,Y.1,Z.1⟩,eX.trans ?_,eY.trans ?_,eZ.trans ?_⟩
 ·unfold rx;clear eX eY eZ e3 e4 e5;grind
 ·unfold ry;clear eX eY eZ e3 e4 e5;grind
 ·unfold rz;clear eX eY eZ e3 e4 e5;grind
def eE (x:Fp2):Prop:=x.c0.ok/\x.c1=zeroFp
def i4 (x:Fp2):V1:=x.c0.v
theorem tJ {f:Fp->Fp->Fp} (h:f zeroFp zeroFp=zeroFp) {x y:Fp2} (hx:x.c1=zeroFp) (hy:y.c1=zeroFp):f x.c1 y.c1=zeroFp:=by rw [hx,hy,h]
theorem NZ:jp zeroFp zeroFp=zeroFp:=Fp.v_inj (rU bQ bQ) bQ (by rw [Lg bQ bQ,o5];exact CR.add_zero _)
theorem L2:gl zeroFp zeroFp=zeroFp:=Fp.v_inj (np bQ bQ) bQ (by rw [Gk bQ bQ,o5];exact D6 rfl)
theorem Kz {x y:Fp} {z:V1} (h:x.ok) (hy:y=zeroFp) (hv:x.v=z):eE ⟨x,y⟩/\i4 ⟨x,y⟩=z:=⟨⟨h,hy⟩,hv⟩
theorem nH {x y:Fp2} (hx:eE x) (hy:eE y):eE (kM x y)/\i4 (kM x y)=i4 x+i4 y:=by
 rw [JR,zR]
 exact Kz (rU hx.1 hy.1) (tJ NZ hx.2 hy.2) (Lg hx.1 hy.1)
theorem Ng {x y:Fp2} (hx:eE x) (hy:eE y):eE (oN x y)/\i4 (oN x y)=i4 x-i4 y:=by
 rw [Hh,yx]
 exact Kz (np hx.1 hy.1) (tJ L2 hx.2 hy.2) (Gk hx.1 hy.1)
theorem EZ (f0:Fp->Fp->Fp) (f1:Fp2->Fp2->Fp2) (x y:Fp2):s7 f0 f1 x y true=⟨f0 x.c0 y.c0,zeroFp⟩:=rfl
theorem Bj {x:Fp} (h:x.ok):eE ⟨x,zeroFp⟩/\i4 ⟨x,zeroFp⟩=x.v:=⟨⟨h,rfl⟩,rfl⟩
theorem Ni {x y:Fp2} (hx:eE x) (hy:eE y):eE (Df x y true)/\i4 (Df x y true)=i4 x*i4 y:=by
 unfold Df
 rw [EZ,so hx.1 hy.1,<- show (ll x.c0 y.c0).v=i4 x*i4 y from Gm hx.1 hy.1]
 exact Bj (nC hx.1)
theorem NU (f0 f1:Fp2->Fp2->Fp2) (f2 x:Fp2):BQ f0 f1 f2 x true=f0 (f0 (f0 (f0 x x) (f0 x x)) (f0 (f0 x x) (f0 x x))) (f0 (f0 x x) (f0 x x)):=rfl
theorem G4 {K:Type} [CR K] (x:K):x+x+(x+x)+(x+x+(x+x))+(x+x+(x+x))=3*4*x:=by grind
theorem PR {x:Fp2} (hx:eE x):eE (b3R x true)/\i4 (b3R x true)=3*Crv.b*i4 x:=by
 unfold b3R
 rw [NU]
 have h2:=nH hx hx
 have h4:=nH h2.1 h2.1
 have h8:=nH h4.1 h4.1
 have h12:=nH h8.1 h4.1
 refine ⟨h12.1,?_⟩
 rw [h12.2,h8.2,h4.2,h2.2]
 exact G4 _
def R8 (s:Fp6):Prop:=eE s.c0/\eE s.c1/\eE s.c2
def mL (s:Fp6) (p:Pt V1):Prop:=R8 s/\Pj (i4 s.c0) (i4 s.c1) (i4 s.c2) p
theorem od {s t:Fp6} {p q:Pt V1} (hp:p.on) (hq:q.on) (hs:mL s p) (ht:mL t q):mL (fz s t true) (p.add q):=by
 unfold fz
 obtain ⟨h1,h2,h3,h4⟩:=QD (b:=(Crv.b:V1)) eE i4 nH Ng Ni PR hs.1 ht.1
 refine ⟨h1,?_⟩
 rw [h2,h3,h4]
 exact vH hp hq hs.2 ht.2
theorem yG {a b c:Fp2} {p:Pt V1} (ha:eE a) (hb:eE b) (hc:eE c) (h:Pj (i4 a) (i4 b) (i4 c) p):mL ⟨a,b,c⟩ p:=⟨⟨ha,hb,hc⟩,h⟩
theorem Is:io=⟨eP,wI,eP⟩:=by
 unfold io
 rw [yZ]
 rfl
theorem zero_low:eE eP/\i4 eP=0:=⟨⟨bQ,rfl⟩,o5⟩
theorem one_low:eE wI/\i4 wI=1:=⟨⟨qI,rfl⟩,Oa⟩
theorem ug:mL io .inf:=by
 rw [Is]
 refine yG zero_low.1 one_low.1 zero_low.1 ?_
 rw [zero_low.2,one_low.2]
 exact ⟨rfl,rfl,dA⟩
theorem MY {f0:Fp6} {f1:Fp2} {a:Pg1} (h:a.inf=true):lk f0 f1 a=f0:=by unfold lk;rw [h]
theorem MZ {f0:Fp6} {f1:Fp2} {a:Pg1} (h:a.inf=false):lk f0 f1 a=⟨⟨a.x,zeroFp⟩,⟨a.y,zeroFp⟩,f1⟩:=by unfold lk;rw [h]
theorem v9 {a:Pg1} (ha:a.good):mL (y7 a) a.pt:=by
 unfold y7
 cases hi:a.inf with
 | true=>rw [MY hi,qC hi];exact ug
 | false =>
  obtain ⟨hx,hy⟩:=qL ha.1 hi
  rw [MZ hi,ji hi,yZ]
  refine yG (Bj hx).1 (Bj hy).1 one_low.1 ?_
  rw [(Bj hx).2,(Bj hy).2,one_low.2]
  exact ⟨dA,(CR.mul_one _).symm,(CR.mul_one _).symm⟩
theorem O9 {f0:Fp->Fp × Int} {f1:Fp->Fp->Fp} {s:Fp6} (h:(f0 s.c2.c0).2=7):kS f0 f1 s=infG1:=by
 unfold kS
 rw [h]
 rfl
theorem LV {f0:Fp->Fp × Int} {f1:Fp->Fp->Fp} {s:Fp6} (h:(f0 s.c2.c0).2=0):kS f0 f1 s=⟨f1 s.c0.c0 (f0 s.c2.c0).1,f1 s.c1.c0 (f0 s.c2.c0).1,false⟩:=by
 unfold kS
 rw [h]
 rfl
theorem J6 {K:Type} [Fld K] {x z:K} (hz:z ≠ 0):x*z*Fld.inv z=x:=by
 have:=aO hz
 grind
theorem CE {s:Fp6} {p:Pt V1} (hp:p.on) (h:mL s p):(vG s).good/\(vG s).pt=p:=by
 obtain ⟨⟨h0,h1,h2⟩,hj⟩:=h
 obtain ⟨i1,i2⟩:=Oy h2.1
 have ei:=I8 h2.1
 unfold vG
 cases p with
 | inf =>
  rw [O9 (by rw [ei];exact i1 hj.2.1)]
  exact ⟨uw,rfl⟩
 | aff x y =>
  obtain ⟨hz,e1,e2⟩:=hj
  obtain ⟨j1,j2,j3⟩:=i2 hz
  rw [LV (by rw [ei];exact j1),ei,so h0.1 j2,so h1.1 j2]
  refine zp (nC h0.1) (nC h1.1) ?_ ?_ hp
  ·rw [Gm h0.1 j2,j3,show s.c0.c0.v=x*s.c2.c0.v from e1]
   exact J6 hz
  ·rw [Gm h1.1 j2,j3,show s.c1.c0.v=y*s.c2.c0.v from e2]
   exact J6 hz
theorem z6 {s:Fp6} {p:Pt V1} (hp:p.on) (h:mL s p) (e:List UInt64):mL (kT s e true) (p.mul (GI e)) :=
 zA mL hp (fun hq h=>od hq hq h h) (fun hq k=>od hq hp k h) e ug
theorem um (k:Fr):GI k.list=k.nat:=by
 show ew [k.l0,k.l1,k.l2,k.l3] 4=_
 unfold Fr.nat
 simp only [ew,atF,List.getD_eq_getElem?_getD,List.getElem?_cons_zero,List.getElem?_cons_succ,Option.getD_some,W64]
 omega
theorem xj (f0:Fp6->Pg1) (f1:Fp6->List UInt64->Bool->Fp6) (f2:Pg1->Fp6) (a:Pg1) (k:Fr):nQ f0 f1 f2 a k=f0 (f1 (f2 a) k.list true):=rfl
theorem z7 {a:Pg1} (ha:a.good) (k:Fr):(cw a k).good/\(cw a k).pt=a.pt.mul k.nat:=by
 unfold cw
 rw [xj,<- um]
 exact CE (bC ha.2 _) (z6 ha.2 (v9 ha) _)
theorem AZ (f0:Fp6->Pg1) (f1:Fp6->Fp6->Bool->Fp6) (f2:Pg1->Fp6) (a b:Pg1):si f0 f1 f2 a b=f0 (f1 (f2 a) (f2 b) true):=rfl
theorem EJ {a b:Pg1} (ha:a.good) (hb:b.good):(fY a b).good/\(fY a b).pt=a.pt.add b.pt:=by
 unfold fY
 rw [AZ]
 exact CE (aX ha.2 hb.2) (od ha.2 hb.2 (v9 ha) (v9 hb))
end
section
def OD {α:Type} (n:Nat) (k:Nat->α):α:=match n with
 | 0=>k 0
 | m+1=>k (m+1)
theorem Jl {α:Type} (n:Nat) (k:Nat->α):OD n k=k n:=by cases n <;> rfl
def QX {α:Type} (a:V1) (k:V1->α):α:=OD a.nat fun n=>k (V1.of n)
theorem ND {α:Type} (a:V1) (k:V1->α):QX a k=k a:=by unfold QX;rw [Jl,V1.of_nat]
def goP {K:Type} [Fld K] [Crv K] (fc:K->(K->K × K × K)->K × K × K) (b gx gy:K) (e:List UInt64):Nat->K->K->K->K × K × K
 | 0,X,Y,Z=>(X,Y,Z)
 | n+1,X,Y,Z=>fc (rx b X Y Z X Y Z) fun X'=>fc (ry b X Y Z X Y Z) fun Y'=>fc (rz b X Y Z X Y Z) fun Z'=>match dd e n with
  | true=>fc (rx b X' Y' Z' gx gy 1) fun X''=>fc (ry b X' Y' Z' gx gy 1) fun Y''=>fc (rz b X' Y' Z' gx gy 1) fun Z''=>goP fc b gx gy e n X'' Y'' Z''
  | false=>goP fc b gx gy e n X' Y' Z'
theorem Ck {K:Type} [Fld K] [Crv K] {fc:K->(K->K × K × K)->K × K × K} (h : ∀ a k,fc a k=k a) (b gx gy:K) (e:List UInt64) : ∀ (n:Nat) (X Y Z:K),
  goP fc b gx gy e n X Y Z=zB (fun s=>(rx b s.1 s.2.1 s.2.2 s.1 s.2.1 s.2.2,ry b s.1 s.2.1 s.2.2 s.1 s.2.1 s.2.2,rz b s.1 s.2.1 s.2.2 s.1 s.2.1 s.2.2)) (fun s=>(rx b s.1 s.2.1 s.2.2 gx gy 1,ry b s.1 s.2.1 s.2.2 gx gy 1,rz b s.1 s.2.1 s.2.2 gx gy 1)) e n (X,Y,Z)
 | 0,X,Y,Z=>rfl
 | n+1,X,Y,Z=>by
  simp only [goP,h,zB]
  cases dd e n with
  | true=>exact Ck h b gx gy e n _ _ _
  | false=>exact Ck h b gx gy e n _ _ _
theorem Ih {K:Type} [Fld K] [Crv K] {fc:K->(K->K × K × K)->K × K × K} (h : ∀ a k,fc a k=k a) {gx gy:K} (hg:(Pt.aff gx gy).on) (e:List UInt64) (hz:(goP fc Crv.b gx gy e (64*e.length) 0 1 0).2.2=0):(Pt.aff gx gy).mul (GI e) = .inf:=by
 rw [Ck h] at hz
 have key:=zA (fun (s:K × K × K) p=>Pj s.1 s.2.1 s.2.2 p) (p:=Pt.aff gx gy) hg (tw:=fun s=>(rx Crv.b s.1 s.2.1 s.2.2 s.1 s.2.1 s.2.2,ry Crv.b s.1 s.2.1 s.2.2 s.1 s.2.1 s.2.2,rz Crv.b s.1 s.2.1 s.2.2 s.1 s.2.1 s.2.2)) (pl:=fun s=>(rx Crv.b s.1 s.2.1 s.2.2 gx gy 1,ry Crv.b s.1 s.2.1 s.2.2 gx gy 1,rz Crv.b s.1 s.2.1 s.2.2 gx gy 1))
  (fun hq k=>vH hq hq k k) (fun hq k=>vH hq hg k ⟨dA,(CR.mul_one _).symm,(CR.mul_one _).symm⟩) e (o:=((0:K),(1:K),(0:K))) ⟨rfl,rfl,dA⟩
 generalize (Pt.aff gx gy).mul (GI e)=p at *
 cases p with
 | inf=>rfl
 | aff x y=>exact absurd hz key.1
theorem gen1_ok:oneG1.x.ok/\oneG1.y.ok:=⟨by unfold Fp.ok;decide +kernel,by unfold Fp.ok;decide +kernel⟩
theorem zq:oneG1.inf=false:=rfl
theorem Dq:(Pt.aff oneG1.x.v oneG1.y.v).on:=V1.ext (by
 show (oneG1.y.v*oneG1.y.v).nat=(oneG1.x.v*oneG1.x.v*oneG1.x.v+(4:V1)).nat
 rw [V1.nat_mul,V1.nat_add,V1.nat_mul,V1.nat_mul,Fp.v_nat gen1_ok.1,Fp.v_nat gen1_ok.2]
 decide +kernel)
theorem gen1_good:oneG1.good:=⟨.inr ⟨zq,gen1_ok⟩,Dq⟩
theorem Dp:oneG1.pt = .aff oneG1.x.v oneG1.y.v:=ji zq
theorem AK:GI rLimbs.list=qN:=by rw [um,dW]
theorem lX:oneG1.pt.mul qN = .inf:=by
 rw [<- AK,Dp]
 exact Ih (fc:=QX) ND Dq rLimbs.list (V1.ext (by decide +kernel))
end
end Go.Proofs.Ytibfppbffdedoaa
namespace Go.Proofs.Ytibfppbffdedoaa
theorem M6 {K:Type} [Fld K] [Crv K] {p:Pt K} (hp:p.on) : ∀ m n:Nat,p.mul m = .inf->p.mul n = .inf->p.mul (Nat.gcd m n) = .inf:=by
 intro m n
 induction m,n using Nat.gcd.induction with
 | H0 n=>intro _ h;rw [Nat.gcd_zero_left];exact h
 | H1 m n hm ih =>
  intro h1 h2
  rw [Nat.gcd_rec]
  refine ih ?_ h1
  rw [lQ hp h1]
  exact h2
theorem gC {K:Type} [Fld K] [Crv K] {p:Pt K} (hp:p.on) (h0:p ≠ .inf) (hq:p.mul qN = .inf) {k:Nat} (hk:0<k) (hk2:k<qN):p.mul k ≠ .inf:=fun h=>by
 have hg:=M6 hp qN k hq h
 have h1:Nat.gcd qN k=1:=prime_qN.coprime fun hd=>by
  have:=Nat.le_of_dvd hk hd
  omega
 rw [h1,iU] at hg
 exact h0 hg
theorem Nz:oneG1.pt ≠ .inf:=by rw [Dp];exact fun h=>by cases h
end Go.Proofs.Ytibfppbffdedoaa
set_option maxRecDepth 100000
namespace Go.Proofs.Ytibfppbffdedoaa
def pX (x:V1):V12:=e2 (Qd.of x)*(ww*ww)
def pY (y:V1):V12:=e2 (Qd.of y)*(ww*ww*ww)
theorem OM:bb2=Qd.of 4*xi:=Qd.ext' (by rw [Qd.mul_a];show (4:V1)=4*1+QP.nr*(0*1);grind) (by rw [Qd.mul_b];show (4:V1)=4*1+0*1;grind)
theorem PI (x y:V1):(Qd.of (x+y):V2)=Qd.of x+Qd.of y:=Qd.ext' rfl (show (0:V1)=0+0 by grind)
theorem PH (x:V1):(Qd.of (-x):V2) = -Qd.of x:=Qd.ext' rfl (show (0:V1) = -0 by grind)
theorem Rh (y:V1):pY y*pY y=e2 (Qd.of (y*y)*xi):=by
 unfold pY
 rw [ef,<- sE,Qd.of_mul,ef]
 generalize ww=w
 generalize e2 (Qd.of y)=u
 grind
theorem MO (x:V1):pX x*pX x*pX x=e2 (Qd.of (x*x*x)*xi):=by
 unfold pX
 rw [ef,<- sE,Qd.of_mul,Qd.of_mul,ef,ef]
 generalize ww=w
 generalize e2 (Qd.of x)=u
 grind
theorem Qp:(Crv.b:V1)=4:=rfl
theorem Co:(Crv.b:V2)=bb2:=rfl
theorem NH {x y:V1} (h:y*y=x*x*x+Crv.b):pY y*pY y=pX x*pX x*pX x+e2 bb2:=by
 rw [Rh,MO,h,Qp,PI,OM,<- pn]
 congr 1
 generalize xi=z
 grind
theorem Gt (x:V1):pX x=e6 ⟨0,Qd.of x,0⟩:=by
 unfold pX e2
 rw [Lb,<- lw]
 refine congrArg e6 (Cb.ext' ?_ ?_ ?_)
 ·show Qd.of x*0+CP.cr*(0*0+0*1)=(0:V2);grind
 ·show Qd.of x*1+0*0+CP.cr*(0*0)=Qd.of x;grind
 ·show Qd.of x*0+0*1+0*0=(0:V2);grind
theorem RQ (y:V1):pY y=e6 ⟨0,Qd.of y,0⟩*ww:=by
 have e:pY y=pX y*ww:=by unfold pY pX;grind
 rw [e,Gt]
theorem Sb (x y:V6):(e6 x*ww-e6 y).b=x:=by
 rw [Qd.sub_b,Qd.mul_b]
 show x*1+0*0-0=x
 grind
def lnV (x y:V1) (l m:V2):V12:=pY y-e2 l*pX x-e2 m
theorem PW (x y:V1) (l m:V2):lnV x y l m=e6 ⟨0,Qd.of y,0⟩*ww-e6 (⟨l,0,0⟩*⟨0,Qd.of x,0⟩+⟨m,0,0⟩):=by
 unfold lnV
 rw [RQ,Gt,wY,lw]
 show _=_-(e2 l*_+e2 m)
 generalize e6 ⟨0,Qd.of x,0⟩=u
 generalize e6 ⟨0,Qd.of y,0⟩*ww=t
 grind
theorem Ot {x:V1} (h:x ≠ 0):(Qd.of x:V2) ≠ 0:=fun e=>h (congrArg Qd.a e)
theorem PV {x y:V1} (hy:y ≠ 0) (l m:V2):lnV x y l m ≠ 0:=fun e=>by
 rw [PW] at e
 have h:=congrArg Qd.b e
 rw [Sb] at h
 exact Ot hy (congrArg Cb.b h)
theorem rI (x:V6):(e6 x).conj=e6 x:=Qd.ext' rfl (show -(0:V6)=0 by grind)
theorem NI:ww.conj = -ww:=Qd.ext' (show (0:V6) = -0 by grind) rfl
theorem zD (a b:V12):(a-b).conj=a.conj-b.conj:=Qd.ext' rfl (show -(a.b-b.b) = -a.b - -b.b by grind)
theorem Kb (y:V1):pY (-y) = -pY y:=by unfold pY;rw [PH,pk];generalize ww=w;grind
theorem IZ (x y:V1) (l m:V2):(lnV x y l m).conj=lnV x (-y) l m:=by
 unfold lnV
 rw [zD,zD,Qd.conj_mul,Gt,Kb,RQ,Qd.conj_mul,NI]
 unfold e2
 rw [rI,rI,rI,rI]
 generalize ww=w
 grind
theorem Nk (x y:V1) (l m:V2):lnV x (-y) l m = -lnV x y (-l) (-m):=by
 unfold lnV
 rw [Kb,pk,pk]
 grind
theorem PT {x y:V1} (hy:y ≠ 0) (l m:V2):fV (lnV x y l m)*fV (lnV x (-y) l m)=1:=by
 rw [<- IZ]
 exact NG (PV hy l m)
theorem PU {x y:V1} (hy:y ≠ 0) (l m:V2):fV (lnV x y l m)*fV (lnV x y (-l) (-m))=1:=by
 have e:=PT (x:=x) hy l m
 rw [Nk,Qo] at e
 exact e
theorem Nl {x y:V1} (hy:y ≠ 0) {l m l' m':V2} (h1:l' = -l) (h2:m' = -m):fV (lnV x y l m)*fV (lnV x y l' m')=1:=by
 rw [h1,h2]
 exact PU hy l m
theorem Qh {x:V1} (hx:x ≠ 0) (a:V2):fV (pX x-e2 a)=1:=by
 have e:pX x-e2 a=e6 ⟨-a,Qd.of x,0⟩:=by
  rw [Gt]
  unfold e2
  rw [<- KJ]
  exact congrArg e6 (Cb.ext' (show (0:V2)-a = -a by grind) (show Qd.of x-0=(Qd.of x:V2) by grind) (show (0:V2)-0=0 by grind))
 rw [e]
 exact Lw fun h=>Ot hx (congrArg Cb.b h)
structure PtOk (x y : V1) : Prop where
 nx:x ≠ 0
 ny:y ≠ 0
 on:y*y=x*x*x+Crv.b
noncomputable def Dj (x y:V1) (h:PtOk x y):Lv V2 V12 where
 S:=fun l m=>fV (lnV x y l m)
 F:=fun p q r=>fV (pX x*pX x+e2 p*pX x+e2 q-e2 r*pY y)
 four:=fun l m k n a h1 h2=>by
  have e:=Fn (R:=V12) (l:=e2 l) (m:=e2 m) (k:=e2 k) (n:=e2 n) (a:=e2 a) (b:=e2 bb2) (X:=pX x) (Y:=pY y) (NH h.on)
   (by rw [<- ef,<- pn,<- ef,h1,pn,ef,ef,Co]) (by rw [<- ef,<- pn,h2,pk,pn,ef])
  have e':lnV x y l m*lnV x y k n=(pX x-e2 a)*(pX x*pX x+e2 (a+l*k)*pX x+e2 (l*n+k*m+a*(a+l*k))-e2 (l+k)*pY y):=by
   unfold lnV
   rw [e]
   simp only [pn,ef]
  rw [<- lA,e',lA,Qh h.nx]
  exact (CR.mul_comm _ _).trans (RU _)
 opp:=fun l m=>Nl (x:=x) (y:=y) h.ny rfl rfl
theorem C6 (x:V1):(Qd.of x:V2).conj=Qd.of x:=Qd.ext' rfl (show -(0:V1)=0 by grind)
theorem Rt:gg ≠ 0:=CW N6 _
def gi:V2:=Fld.inv gg
theorem Rr:gg*gi=1:=aO Rt
theorem Qc:gg*gg*gg*gg*gg*gg*xi=xi.conj:=by
 have h:gg ^ 6=xi ^ (6*((pN-1) / 6)):=by rw [Nat.mul_comm];exact (bk xi _ 6).symm
 have h2:gg*gg*gg*gg*gg*gg=gg ^ 6:=by generalize gg=g;grind
 rw [h2,h,<- V2.frob,<- an,<- If]
theorem DG:bb2.conj*(gi*gi*gi*gi*gi*gi)=bb2:=by
 have h:=Qc
 have k:=Rr
 rw [OM,Qd.conj_mul,C6,<- h]
 generalize xi=z at *
 generalize gg=g at *
 generalize gi=i at *
 have e:Qd.of 4*(g*g*g*g*g*g*z)*(i*i*i*i*i*i)=Qd.of 4*z*((g*i)*(g*i)*(g*i)*(g*i)*(g*i)*(g*i)):=by clear h k;grind
 rw [e,k]
 clear h k e
 grind
def phi:Pt V2->Pt V2
 | .inf => .inf
 | .aff x y => .aff (x.conj*(gi*gi)) (y.conj*(gi*gi*gi))
theorem w6 (a b:V2):(a+b).conj=a.conj+b.conj:=Qd.conj_add a b
theorem Cq (a b:V2):(a*b).conj=a.conj*b.conj:=Qd.conj_mul a b
theorem KR (a:V2):(-a).conj = -a.conj:=rfl
theorem Qx:(2:V2).conj=2:=by
 rw [show (2:V2)=1+1 by grind,w6]
 have:(1:V2).conj=1:=C6 1
 rw [this]
theorem Ln.phi {l m x1 x2 x3:V2} (h:Ln l m x1 x2 x3):Ln (l.conj*gi) (m.conj*(gi*gi*gi)) (x1.conj*(gi*gi)) (x2.conj*(gi*gi)) (x3.conj*(gi*gi)):=by
 have h1:=congrArg Qd.conj h.s1
 have h2:=congrArg Qd.conj h.s2
 have h3:=congrArg Qd.conj h.s3
 rw [Co] at h3
 simp only [w6,Cq,KR,Qx] at h1 h2 h3
 have hb:=DG
 refine ⟨?_,?_,?_⟩
 ·generalize gi=i at *
  have:l.conj*i*(l.conj*i)=(l.conj*l.conj)*(i*i):=by clear h1 h2 h3 hb;grind
  rw [this,h1]
  clear h1 h2 h3 hb
  grind
 ·generalize gi=i at *
  have:2*(l.conj*i*(m.conj*(i*i*i)))=2*(l.conj*m.conj)*(i*i*i*i):=by clear h1 h2 h3 hb;grind
  rw [this,h2]
  clear h1 h2 h3 hb
  grind
 ·rw [Co]
  generalize gi=i at *
  have:m.conj*(i*i*i)*(m.conj*(i*i*i))=m.conj*m.conj*(i*i*i*i*i*i):=by clear h1 h2 h3 hb;grind
  rw [this,h3]
  generalize bb2.conj=u at *
  rw [<- hb]
  clear h1 h2 h3 hb
  grind
theorem B8 (l m x:V2):(l*x+m).conj*(gi*gi*gi)=l.conj*gi*(x.conj*(gi*gi))+m.conj*(gi*gi*gi):=by
 rw [w6,Cq]
 generalize gi=i
 grind
theorem CY (p:Pt V2):phi p.neg=(phi p).neg:=by
 cases p with
 | inf=>rfl
 | aff x y =>
  show Pt.aff (x.conj*(gi*gi)) ((-y).conj*(gi*gi*gi))=Pt.aff (x.conj*(gi*gi)) (-(y.conj*(gi*gi*gi)))
  rw [KR]
  exact congrArg _ (by generalize gi=i;grind)
theorem mv {p:Pt V2} (hp:p.on):(phi p).on:=by
 cases p with
 | inf=>trivial
 | aff x y =>
  have h:=congrArg Qd.conj (show y*y=x*x*x+bb2 from hp)
  simp only [w6,Cq] at h
  show y.conj*(gi*gi*gi)*(y.conj*(gi*gi*gi))=x.conj*(gi*gi)*(x.conj*(gi*gi))*(x.conj*(gi*gi))+bb2
  have hb:=DG
  generalize gi=i at *
  have:y.conj*(i*i*i)*(y.conj*(i*i*i))=y.conj*y.conj*(i*i*i*i*i*i):=by clear h hb;grind
  rw [this,h]
  generalize bb2.conj=u at *
  rw [<- hb]
  clear h hb
  grind
theorem MK {p q:Pt V2} (hp:p.on) (hq:q.on):phi (p.add q)=(phi p).add (phi q):=by
 cases p with
 | inf=>rfl
 | aff x1 y1 =>
  cases q with
  | inf=>rw [bO];exact (bO _).symm
  | aff x2 y2 =>
   rcases bJ hp hq with ⟨h1,h2,h⟩ | ⟨l,m,x3,hL,h1,h2,h⟩
   ·rw [h,h1,h2]
    have e:=bc (mv hq)
    rw [aq (bl (mv hq)) (mv hq)] at e
    rw [aq (mv (show (Pt.aff x2 (-y2)).on from bl hq)) (mv hq),show Pt.aff x2 (-y2)=(Pt.aff x2 y2).neg from rfl,CY,e]
    rfl
   ·rw [h,show (Pt.aff x3 (-(l*x3+m)))=(Pt.aff x3 (l*x3+m)).neg from rfl,CY]
    subst h1 h2
    show (Pt.aff _ _).neg=(Pt.aff _ _).add (Pt.aff _ _)
    rw [dr hL.phi (B8 l m x1) (B8 l m x2),<- B8]
    rfl
end Go.Proofs.Ytibfppbffdedoaa
set_option maxRecDepth 100000
namespace Go.Proofs.Ytibfppbffdedoaa
def tN:Nat:=15132376222941642752
structure Good2 (q : Pt V2) : Prop where
 sub:q.sub qN
 tw:q.mul tN=(phi q).neg
theorem Good2.on {q:Pt V2} (h:Good2 q):q.on:=h.sub.1
theorem FC:Good2 .inf:=⟨⟨trivial,dX _⟩,by rw [dX];rfl⟩
theorem oG {K:Type} [Fld K] [Crv K] {p q:Pt K} (hp:p.on) (hq:q.on):p.neg.add q.neg=(p.add q).neg:=by
 have h1:=aX hp hq
 refine ia (aX (bl hp) (bl hq)) (bl h1) ?_
 have e:(p.neg.add q.neg).neg=p.add q:=by
  refine ia (bl (aX (bl hp) (bl hq))) h1 ?_
  rw [gB,aI (bl hp) (bl hq) h1,aq hp hq,<- aI (bl hq) hq hp,bc hq,bE,bc hp]
 rw [e,aq h1 (bl h1),bc h1]
theorem Good2.add {p q:Pt V2} (hp:Good2 p) (hq:Good2 q):Good2 (p.add q) :=
 ⟨L0 hp.sub hq.sub,by rw [cj hp.on hq.on,hp.tw,hq.tw,oG (mv hp.on) (mv hq.on),MK hp.on hq.on]⟩
theorem Good2.mul {p:Pt V2} (hp:Good2 p) : ∀ n,Good2 (p.mul n)
 | 0=>FC
 | n+1=>(Good2.mul hp n).add hp
section
variable {d : Pt V2} (hd : d.on) (hdn : d.mul qN ≠ .inf)
end
def lnH (k n:V1) (x y:V2):V12:=e2 y-e2 (Qd.of k)*ww*e2 x-e2 (Qd.of n)*(ww*ww*ww)
def hV (k n:V1):Pt V2->V12
 | .inf=>1
 | .aff x y=>fV (lnH k n x y)
theorem Sd (x y:V1) (h:PtOk x y) (l m:V2):(Dj x y h).S l m=fV (lnV x y l m):=rfl
section
variable {d : Pt V2} (hd : d.on) (hdn : d.mul qN ≠ .inf)
end
end Go.Proofs.Ytibfppbffdedoaa
set_option maxRecDepth 100000
namespace Go.Proofs.Ytibfppbffdedoaa
section
variable {K : Type} [Fld K] [Crv K] {fc : K -> (K -> K × K × K) -> K × K × K} (h : ∀ a k, fc a k = k a) {gx gy : K} (hg : (Pt.aff gx gy).on) (e : List UInt64)
end
abbrev R3:Type:=V12 × V2 × V2
def lnW (px py:V1) (l x y:V2):V12:=⟨⟨xi*Qd.of py,0,0⟩,⟨0,l*x-y, -(l*Qd.of px)⟩⟩
theorem PS (px py:V1) (l x y:V2):lnW px py l x y=lnV px py l (y-l*x)*(ww*ww*ww):=by
 have h:lnW px py l x y=e6 ⟨xi*Qd.of py,0,0⟩+e6 ⟨0,l*x-y, -(l*Qd.of px)⟩*ww:=CO _
 rw [h,sB,sB]
 show e2 (xi*Qd.of py)+e2 0*_+e2 0*_+(e2 0+e2 (l*x-y)*_+e2 (-(l*Qd.of px))*_)*ww=_
 unfold lnV pX pY
 rw [NE,ef xi,<- sE,KK,KK,pk,ef l x,ef l (Qd.of px)]
 generalize ww=w
 grind
theorem KO (px py:V1) (l x y:V2):fV (lnW px py l x y)=fV (lnV px py l (y-l*x)):=by
 rw [PS,lA,Qn]
 exact CR.mul_one _
def Aa (x y:V2):V2:=(x*x+x*x+x*x)*Fld.inv (y+y)
def BJ (qx qy x y:V2):V2:=(qy-y)*Fld.inv (qx-x)
def onX (l x z:V2):V2:=l*l-x-z
def onY (l x y z:V2):V2:=l*(x-z)-y
def RJ (px py:V1) (l:V2) (s:R3):R3:=(s.1*s.1*lnW px py l s.2.1 s.2.2,onX l s.2.1 s.2.1,onY l s.2.1 s.2.2 (onX l s.2.1 s.2.1))
def QK (px py:V1) (s:R3):R3:=RJ px py (Aa s.2.1 s.2.2) s
def RY (px py:V1) (qx l:V2) (s:R3):R3:=(s.1*lnW px py l s.2.1 s.2.2,onX l s.2.1 qx,onY l s.2.1 s.2.2 (onX l s.2.1 qx))
def Q0 (px py:V1) (qx qy:V2) (s:R3):R3:=RY px py qx (BJ qx qy s.2.1 s.2.2) s
theorem O8 (px py:V1) (f:V12) (x y:V2):QK px py (f,x,y)=(f*f*lnW px py (Aa x y) x y,onX (Aa x y) x x,onY (Aa x y) x y (onX (Aa x y) x x)):=by simp only [QK,RJ]
theorem NY (px py:V1) (qx qy:V2) (f:V12) (x y:V2):Q0 px py qx qy (f,x,y)=(f*lnW px py (BJ qx qy x y) x y,onX (BJ qx qy x y) x qx,onY (BJ qx qy x y) x y (onX (BJ qx qy x y) x qx)):=by simp only [Q0,RY]
structure MlOk (px py : V1) (h : PtOk px py) (q : Pt V2) (j : Nat) (s : R3) : Prop where
 j1:0<j
 pt:q.mul j = .aff s.2.1 s.2.2
 val:fV s.1=(Dj px py h).f q j
open Classical in
theorem OQ {px py:V1} {h:PtOk px py} {x y u w:V2} (hn : ¬ (x=u/\y = -w)):(Dj px py h).c (.aff x y) (.aff u w)=fV (lnV px py (cd x y u w) (y-cd x y u w*x)):=by
 unfold Lv.c
 simp only
 rw [if_neg hn]
 exact Sd _ _ _ _ _
theorem N2 {K M:Type} [Fld K] [Crv K] [CR M] (v:Lv K M) (q:Pt K) (n:Nat):v.f q (n+1)=v.f q n*v.c (q.mul n) q:=rfl
theorem tS (x y:V2):Aa x y=cd x y x y:=by
 unfold Aa cd
 rw [if_pos rfl,show y+y=2*y by grind,show x*x+x*x+x*x=3*x*x by grind]
section
variable {d : Pt V2} (hd : d.on) (hdn : d.mul qN ≠ .inf)
include hd hdn in
theorem MlOk.two {px py:V1} {h:PtOk px py} {q:Pt V2} {j:Nat} {s:R3} (k:MlOk px py h q j s) (hq:q.sub qN):MlOk px py h q (j+j) (QK px py s):=by
 obtain ⟨f,x,y⟩:=s
 obtain ⟨k1,k2,k3⟩:=k
 have k2:q.mul j = .aff x y:=k2
 have k3:fV f=(Dj px py h).f q j:=k3
 have ho:(Pt.aff x y).on:=by rw [<- k2];exact bC hq.1 j
 rw [O8]
 have hn : ¬ (x=x/\y = -y):=fun e=>gY ho e.2
 refine ⟨by omega,?_,?_⟩
 ·rw [bU hq.1,k2]
  show (Pt.aff x y).add (.aff x y)=_
  rw [jo,if_neg hn,<- tS]
  rfl
 ·rw [Lv.f_add (Dj px py h) hd hdn hq,k2,<- k3]
  have hc:(Dj px py h).c (.aff x y) (.aff x y)=fV (lnV px py (Aa x y) (y-Aa x y*x)):=by
   rw [tS]
   exact OQ hn
  rw [hc]
  simp only []
  rw [lA,lA,KO]
end
theorem MlOk.add {px py:V1} {h:PtOk px py} {qx qy:V2} {j:Nat} {s:R3} (k:MlOk px py h (.aff qx qy) j s) (hq:(Pt.aff qx qy).sub qN) (h1:1<j) (h2:j+1<qN):MlOk px py h (.aff qx qy) (j+1) (Q0 px py qx qy s):=by
 obtain ⟨f,x,y⟩:=s
 obtain ⟨k1,k2,k3⟩:=k
 have k2:(Pt.aff qx qy).mul j = .aff x y:=k2
 have k3:fV f=(Dj px py h).f (.aff qx qy) j:=k3
 have hi:Pt.aff qx qy ≠ .inf:=fun e=>by cases e
 have ho:(Pt.aff x y).on:=by rw [<- k2];exact bC hq.1 j
 have hx:x ≠ qx:=fun e=>by
  subst e
  rcases gO ho hq.1 with e | e
  ·rw [e] at k2
   obtain ⟨m,rfl⟩ : ∃ m,j=m+1:=⟨j-1,by omega⟩
   have c:=fp hq.1 (bC hq.1 m)
   rw [aq hq.1 (bC hq.1 m),<- aK,k2,bc hq.1] at c
   exact gC hq.1 hi hq.2 (k:=m) (by omega) (by omega) c.symm
  ·have c:(Pt.aff x qy).mul (j+1) = .inf:=by
    rw [aK,k2,e,aq ho (bl ho),bc ho]
   exact gC hq.1 hi hq.2 (k:=j+1) (by omega) h2 c
 have hn : ¬ (x=qx/\y = -qy):=fun e=>hx e.1
 have hs:BJ qx qy x y=cd x y qx qy:=by
  unfold BJ cd
  rw [if_neg hx]
 rw [NY]
 refine ⟨by omega,?_,?_⟩
 ·rw [aK,k2,jo,if_neg hn,<- hs]
  rfl
 ·rw [N2]
  have hc:(Dj px py h).c (.aff x y) (.aff qx qy)=fV (lnV px py (BJ qx qy x y) (y-BJ qx qy x y*x)):=by
   rw [hs]
   exact OQ hn
  rw [k2,hc,<- k3]
  simp only []
  rw [lA,KO]
section
variable {d : Pt V2} (hd : d.on) (hdn : d.mul qN ≠ .inf)
end
end Go.Proofs.Ytibfppbffdedoaa
namespace Go.Proofs.Ytibfppbffdedoaa
open Go.RowKit
section
def Fp6.ok (a:Fp6):Prop:=a.c0.ok/\a.c1.ok/\a.c2.ok
def Fp6.v (a:Fp6):V6:=⟨a.c0.v,a.c1.v,a.c2.v⟩
theorem Fp6.mk_ok {a b c:Fp2} (ha:a.ok) (hb:b.ok) (hc:c.ok):(⟨a,b,c⟩:Fp6).ok:=⟨ha,hb,hc⟩
theorem Fp6.mk_v {a b c:Fp2} {x:V6} (ha:a.v=x.a) (hb:b.v=x.b) (hc:c.v=x.c):(⟨a,b,c⟩:Fp6).v=x:=Cb.ext' ha hb hc
theorem Fp6.v_inj {a b:Fp6} (ha:a.ok) (hb:b.ok) (h:a.v=b.v):a=b:=by
 have h1:a.c0=b.c0:=Fp2.v_inj ha.1 hb.1 (congrArg Cb.a h)
 have h2:a.c1=b.c1:=Fp2.v_inj ha.2.1 hb.2.1 (congrArg Cb.b h)
 have h3:a.c2=b.c2:=Fp2.v_inj ha.2.2 hb.2.2 (congrArg Cb.c h)
 cases a;cases b
 simp only [] at h1 h2 h3
 subst h1 h2 h3
 rfl
section
variable {f0 f1 : Fp2 -> Fp2 -> Fp2} {f2 : Fp2 -> Fp2}
end
def ri6:V6:=Cb.of ri2
theorem Cb.of_mul {K:Type} [CR K] [CP K] (x y:K):Cb.of (x*y)=Cb.of x*Cb.of y:=Cb.ext'
 (by rw [Cb.mul_a];show x*y=x*y+CP.cr*(0*0+0*0);grind)
 (by rw [Cb.mul_b];show 0=x*0+0*y+CP.cr*(0*0);grind)
 (by rw [Cb.mul_c];show 0=x*0+0*0+0*y;grind)
theorem V6.norm_ne {x:V6} (h:x ≠ 0):x.norm ≠ 0:=fun e=>by
 have h1:=Cb.mul_adj x
 have h2:=aO h
 have h3:x*Fld.inv x=1:=h2
 have h4:=Cb.norm_mul x (Fld.inv x)
 rw [h3,e] at h4
 have h5:(1:V6).norm=1:=by
  unfold Cb.norm
  show (1:V2)*(1*1-CP.cr*(0*0))+CP.cr*(0*(CP.cr*(0*0)-1*0)+0*(0*0-1*0))=1
  generalize (CP.cr:V2)=k
  grind
 rw [h5] at h4
 exact dA (K:=V2) (by rw [h4];exact CR.zero_mul _)
theorem V6.inv_eq {x:V6} (h:x ≠ 0):Fld.inv x=Cb.of (Fld.inv x.norm)*x.adj:=by
 refine (jO ?_).symm
 have h1:=Cb.mul_adj x
 have h2:Cb.of x.norm*Cb.of (Fld.inv x.norm)=(1:V6):=by rw [<- Cb.of_mul,aO (V6.norm_ne h)];rfl
 generalize Cb.of (Fld.inv x.norm)=k at *
 rw [<- h1] at h2
 generalize x.adj=y at *
 grind
end
section
def Fp12.ok (a:Fp12):Prop:=a.c0.ok/\a.c1.ok
def Fp12.v (a:Fp12):V12:=⟨a.c0.v,a.c1.v⟩
theorem Fp12.mk_ok {a b:Fp6} (ha:a.ok) (hb:b.ok):(⟨a,b⟩:Fp12).ok:=⟨ha,hb⟩
theorem Fp12.mk_v {a b:Fp6} {x:V12} (ha:a.v=x.a) (hb:b.v=x.b):(⟨a,b⟩:Fp12).v=x:=Qd.ext' ha hb
theorem Fp12.v_inj {a b:Fp12} (ha:a.ok) (hb:b.ok) (h:a.v=b.v):a=b:=by
 have h1:a.c0=b.c0:=Fp6.v_inj ha.1 hb.1 (congrArg Qd.a h)
 have h2:a.c1=b.c1:=Fp6.v_inj ha.2 hb.2 (congrArg Qd.b h)
 cases a;cases b
 simp only [] at h1 h2
 subst h1 h2
 rfl
def R6:V12:=Qd.of ri6
section
variable {f0 f1 : Fp6 -> Fp6 -> Fp6} {f2 f4 : Fp6 -> Fp6} {f3 : Fp6 -> Fp6 × Int} {a : Fp12}
end
theorem Ii {R:Type} [CR R] (x:R):1*x=x:=by grind
end
set_option maxRecDepth 100000
section
def Fp.w (a:Fp):V1:=ri*a.v
def Fp2.w (a:Fp2):V2:=ri2*a.v
def Fp12.w (a:Fp12):V12:=R6*a.v
theorem MlOk.y_ne {px py:V1} {h:PtOk px py} {q:Pt V2} {j:Nat} {s:R3} (k:MlOk px py h q j s) (hq:q.on):s.2.2 ≠ 0:=by
 have ho:=bC hq j
 rw [k.pt] at ho
 exact Go.Proofs.Ytibfppbffdedoaa.y_ne ho
theorem MlOk.far {px py:V1} {h:PtOk px py} {qx qy:V2} {j:Nat} {s:R3} (k:MlOk px py h (.aff qx qy) j s) (hq:(Pt.aff qx qy).sub qN) (h1:1<j) (h2:j+1<qN):s.2.1 ≠ qx:=by
 obtain ⟨f,x,y⟩:=s
 obtain ⟨k1,k2,k3⟩:=k
 have k2:(Pt.aff qx qy).mul j = .aff x y:=k2
 have hi:Pt.aff qx qy ≠ .inf:=fun e=>by cases e
 have ho:(Pt.aff x y).on:=by rw [<- k2];exact bC hq.1 j
 show x ≠ qx
 intro e
 subst e
 rcases gO ho hq.1 with e | e
 ·rw [e] at k2
  obtain ⟨m,rfl⟩ : ∃ m,j=m+1:=⟨j-1,by omega⟩
  have c:=fp hq.1 (bC hq.1 m)
  rw [aq hq.1 (bC hq.1 m),<- aK,k2,bc hq.1] at c
  exact gC hq.1 hi hq.2 (k:=m) (by omega) (by omega) c.symm
 ·have c:(Pt.aff x qy).mul (j+1) = .inf:=by
   rw [aK,k2,e,aq ho (bl ho),bc ho]
  exact gC hq.1 hi hq.2 (k:=j+1) (by omega) h2 c
end
section
theorem two_nat:(⟨2,0,0,0⟩:Fr).nat=2:=by decide +kernel
end
set_option maxRecDepth 100000
section
theorem pow_mod {R:Type} [CR R] {a:R} {m:Nat} (h:a ^ m=1) (n:Nat):a ^ (n % m)=a ^ n:=by
 have e:a ^ n=a ^ (m*(n / m)+n % m):=by rw [Nat.div_add_mod]
 rw [e,jW,bk,h,jY,Ii]
end
set_option maxRecDepth 100000
section
instance : NeZero qN := ⟨by decide +kernel⟩
def VR:Type:=Fin qN
def VR.of (n:Nat):VR:=Fin.ofNat qN n
def VR.nat (a:VR):Nat:=Fin.val a
theorem VR.nat_lt (a:VR):a.nat<qN:=Fin.isLt a
theorem VR.nat_of (n:Nat):(VR.of n).nat=n % qN:=rfl
theorem VR.ext {a b:VR} (h:a.nat=b.nat):a=b:=Fin.eq_of_val_eq h
theorem VR.of_nat (a:VR):VR.of a.nat=a:=VR.ext (by rw [VR.nat_of,Nat.mod_eq_of_lt a.nat_lt])
def VR.add (a b:VR):VR:=VR.of (a.nat+b.nat)
def VR.mul (a b:VR):VR:=VR.of (a.nat*b.nat)
def VR.neg (a:VR):VR:=VR.of (qN-a.nat)
def VR.sub (a b:VR):VR:=VR.of (a.nat+(qN-b.nat))
def VR.inv (a:VR):VR:=VR.of (uj 255 a.nat (qN-2) qN)
theorem Ij:1<qN:=by decide +kernel
theorem VR.one_mod:1 % qN=1:=Nat.mod_eq_of_lt Ij
instance : CR VR where
 add:=VR.add
 mul:=VR.mul
 neg:=VR.neg
 sub:=VR.sub
 z:=VR.of 0
 o:=VR.of 1
 add_zero:=fun a=>VR.ext (by show (a.nat+0 % qN) % qN=a.nat;rw [Nat.zero_mod,Nat.add_zero,Nat.mod_eq_of_lt a.nat_lt])
 add_comm:=fun a b=>VR.ext (by show (a.nat+b.nat) % qN=(b.nat+a.nat) % qN;rw [Nat.add_comm])
 add_assoc:=fun a b c=>VR.ext (by show ((a.nat+b.nat) % qN+c.nat) % qN=(a.nat+(b.nat+c.nat) % qN) % qN;rw [Nat.mod_add_mod,Nat.add_mod_mod,Nat.add_assoc])
 mul_assoc:=fun a b c=>VR.ext (by show ((a.nat*b.nat) % qN*c.nat) % qN=(a.nat*((b.nat*c.nat) % qN)) % qN;rw [Nat.mod_mul_mod,Nat.mul_mod_mod,Nat.mul_assoc])
 mul_comm:=fun a b=>VR.ext (by show (a.nat*b.nat) % qN=(b.nat*a.nat) % qN;rw [Nat.mul_comm])
 mul_one:=fun a=>VR.ext (by show (a.nat*(1 % qN)) % qN=a.nat;rw [VR.one_mod,Nat.mul_one,Nat.mod_eq_of_lt a.nat_lt])
 dist:=fun a b c=>VR.ext (by
  show (a.nat*((b.nat+c.nat) % qN)) % qN=((a.nat*b.nat) % qN+(a.nat*c.nat) % qN) % qN
  rw [Nat.mul_mod_mod,<- Nat.add_mod,Nat.mul_add])
 neg_add:=fun a=>VR.ext (by
  show ((qN-a.nat) % qN+a.nat) % qN=0 % qN
  rw [Nat.mod_add_mod,Nat.sub_add_cancel (Nat.le_of_lt a.nat_lt),Nat.mod_self,Nat.zero_mod])
 sub_eq:=fun a b=>VR.ext (by
  show (a.nat+(qN-b.nat)) % qN=(a.nat+(qN-b.nat) % qN) % qN
  rw [Nat.add_mod_mod])
theorem VR.nat_add (a b:VR):(a+b).nat=(a.nat+b.nat) % qN:=rfl
theorem VR.nat_mul (a b:VR):(a*b).nat=(a.nat*b.nat) % qN:=rfl
theorem VR.nat_zero:(0:VR).nat=0:=Nat.zero_mod _
theorem VR.nat_one:(1:VR).nat=1:=VR.one_mod
theorem VR.nat_pow (a:VR) : ∀ n:Nat,(a ^ n).nat=a.nat ^ n % qN
 | 0=>rfl
 | n+1=>by rw [an,VR.nat_mul,VR.nat_pow a n,Nat.mod_mul_mod,Nat.pow_succ]
theorem VR.ne_zero {a:VR} (h:a ≠ 0):a.nat ≠ 0:=fun e=>h (VR.ext (by rw [e,VR.nat_zero]))
theorem Ir {a:Nat} (h:a<qN) (h0:a ≠ 0) : ¬ qN ∣ a:=fun hd=>absurd (Nat.le_of_dvd (by omega) hd) (by omega)
theorem LQ:2<qN:=by decide +kernel
theorem VR.fermat {a:VR} (h:a ≠ 0):a ^ (qN-1)=1:=VR.ext (by
 rw [VR.nat_pow,VR.nat_one]
 exact Go.Proofs.Ytibfppbffdedoaa.fermat prime_qN (Ir a.nat_lt (VR.ne_zero h)))
theorem VR.inv_eq (a:VR):VR.inv a=a ^ (qN-2):=VR.ext (by
 show uj 255 a.nat (qN-2) qN % qN=_
 rw [eR qN 255 _ _ (by decide +kernel),VR.nat_pow,Nat.mod_mod])
instance : Fld VR where
 inv:=VR.inv
 mul_inv:=fun a h=>by
  rw [VR.inv_eq]
  have:=VR.fermat h
  rw [show qN-1=(qN-2)+1 by have:=LQ;omega,an] at this
  rw [CR.mul_comm]
  exact this
 one_ne:=fun e=>by
  have:=congrArg VR.nat e
  rw [VR.nat_one,VR.nat_zero] at this
  omega
def Fr.ok (a:Fr):Prop:=a.nat<qN
def Fr.v (a:Fr):VR:=VR.of a.nat
theorem Fr.v_nat {a:Fr} (h:a.ok):a.v.nat=a.nat:=Nat.mod_eq_of_lt h
theorem Fr.v_inj {a b:Fr} (ha:a.ok) (hb:b.ok) (h:a.v=b.v):a=b:=Fr.nat_inj (by rw [<- Fr.v_nat ha,<- Fr.v_nat hb,h])
theorem IR {a:Fr} (h:cm a=true):a.ok:=by
 rw [ul] at h
 exact (of_decide_eq_true h:a.nat<qN)
theorem mayR_iff' {a:Fr}:cm a=true <-> a.ok:=by
 rw [ul]
 show decide (a.nat<qN)=true <-> a.nat<qN
 exact decide_eq_true_iff
theorem DJ {a b:Fr} (ha:a.ok) (hb:b.ok):(df a b).ok:=JO ha hb
theorem De {a b:Fr} (hb:b.ok):(bZ a b).ok:=IC hb
theorem qM {a:Fr} (ha:a.ok):(mV a).ok:=Iv ha
theorem O4 {a b:Fr} (ha:a.ok) (hb:b.ok):(df a b).v=a.v+b.v:=VR.ext (by
 rw [Fr.v_nat (DJ ha hb),VR.nat_add,Fr.v_nat ha,Fr.v_nat hb,ob ha hb])
theorem O1 {a b:Fr} (ha:a.ok) (hb:b.ok):(bZ a b).v=a.v*b.v:=VR.ext (by
 rw [Fr.v_nat (De hb),VR.nat_mul,Fr.v_nat ha,Fr.v_nat hb,n4 hb])
theorem VR.add_neg (a b:VR) (h:a+b=0):a = -b:=by grind
theorem BX {a:Fr} (ha:a.ok):(mV a).v = -a.v:=by
 refine VR.add_neg _ _ (VR.ext ?_)
 rw [VR.nat_add,Fr.v_nat (qM ha),Fr.v_nat ha,uh ha,Nat.mod_add_mod,Nat.sub_add_cancel (Nat.le_of_lt ha),Nat.mod_self,VR.nat_zero]
theorem DT:zeroFr.ok:=by unfold Fr.ok;decide +kernel
theorem GU:zeroFr.v=0:=VR.ext (by decide +kernel)
theorem mS:oneFr.ok:=by unfold Fr.ok;decide +kernel
theorem pZ:oneFr.v=1:=VR.ext (by decide +kernel)
noncomputable def gm (x:VR):Pt V1:=oneG1.pt.mul x.nat
noncomputable def hm (x:VR):Pt V2:=oneG2.pt.mul x.nat
theorem oT (x:VR):(gm x).on:=bC gen1_good.2 _
theorem wU (x y:VR):gm (x+y)=(gm x).add (gm y):=by
 unfold gm
 rw [VR.nat_add,lQ gen1_good.2 lX,bU gen1_good.2]
theorem KD (x y:VR):gm (x*y)=(gm x).mul y.nat:=by
 unfold gm
 rw [VR.nat_mul,lQ gen1_good.2 lX,fa gen1_good.2]
theorem gm_zero:gm 0 = .inf:=by
 unfold gm
 rw [VR.nat_zero,cX]
theorem KC:gm 1=oneG1.pt:=by
 unfold gm
 rw [VR.nat_one,iU]
theorem Qa (x:VR):gm (-x)=(gm x).neg:=by
 refine ia (oT _) (bl (oT _)) ?_
 have h:=wU x (-x)
 have e:x + -x=0:=by grind
 rw [e,gm_zero] at h
 rw [oG (oT _) (oT _),aq (oT _) (oT _),<- h]
 rfl
theorem Qb {x y:VR} (h:gm x=gm y):x=y:=by
 have e:gm (x-y) = .inf:=by
  have:x-y=x + -y:=CR.sub_eq _ _
  rw [this,wU,h,Qa,aq (oT _) (bl (oT _)),bc (oT _)]
 have h0:(x-y).nat=0:=by
  rcases Nat.eq_zero_or_pos (x-y).nat with k | k
  ·exact k
  ·exact absurd e (gC gen1_good.2 Nz lX k (x-y).nat_lt)
 have h1:x-y=0:=VR.ext (by rw [h0,VR.nat_zero])
 grind
structure At1 (p : Pg1) (x : VR) : Prop where
 good:p.good
 pt:p.pt=gm x
theorem At1.eq {p q:Pg1} {x:VR} (h:At1 p x) (k:At1 q x):p=q:=Mz h.good.1 k.good.1 (h.pt.trans k.pt.symm)
theorem At1.inj {p:Pg1} {x y:VR} (h:At1 p x) (k:At1 p y):x=y:=Qb (h.pt.symm.trans k.pt)
theorem ga {p:Pg1} {x:VR} (h:At1 p x) {k:Fr} (hk:k.ok):At1 (cw p k) (x*k.v):=by
 obtain ⟨h1,h2⟩:=z7 h.good k
 exact ⟨h1,by rw [h2,h.pt,KD,Fr.v_nat hk]⟩
theorem wq:At1 jD 1:=⟨gen1_good,by rw [KC];rfl⟩
theorem fL {p q:Pg1} {x y:VR} (h:At1 p x) (k:At1 q y):At1 (fY p q) (x+y):=by
 obtain ⟨h1,h2⟩:=EJ h.good k.good
 exact ⟨h1,by rw [h2,h.pt,k.pt,wU]⟩
end
set_option maxRecDepth 100000
section
theorem Cl:frZ.ok:=DT
theorem GC:frZ.v=0:=GU
def bS (l:List Fr):Prop := ∀ x ∈ l,x.ok
noncomputable def vL (l:List Fr):List VR:=l.map Fr.v
theorem jZ:bS []:=fun x hx=>(List.not_mem_nil hx).elim
theorem ET {a:List Fr} (ha:bS a) (n:Nat):bS (a.take n):=fun x hx=>ha x (List.mem_of_mem_take hx)
theorem co {l:List Fr} (h:bS l) (i:Nat):(l.getD i frZ).ok:=by
 rw [List.getD_eq_getElem?_getD]
 cases e:l[i]? with
 | none=>exact Cl
 | some x=>exact h x (List.mem_of_getElem? e)
theorem BF (xs:List Fr) (n:Nat):cV xs (n+1)=match fJ (xs.getD n frZ) frZ with | true=>cV xs n | false=>n+1:=rfl
theorem rD (xs:List Fr) : ∀ n i,cV xs n<=i->i<n->xs.getD i frZ=frZ
 | 0,i,_,h=>absurd h (Nat.not_lt_zero i)
 | n+1,i,h1,h2=>by
  unfold cV at h1
  cases e:fJ (xs.getD n frZ) frZ with
  | true =>
   rw [e] at h1
   rcases Nat.lt_succ_iff_lt_or_eq.1 h2 with h3 | h3
   ·exact rD xs n i h1 h3
   ·rw [h3];exact (j7 _ _).1 e
  | false =>
   rw [e] at h1
   have h1:n+1<=i:=h1
   omega
theorem rG {xs:List Fr} (h:bS xs):bS (cE xs):=ET h _
theorem ko (a b:List Fr):vL (a++b)=vL a++vL b:=List.map_append
theorem uD (xs:List Fr) (m:Nat) : ∀ n,cV (xs++List.replicate m frZ) (xs.length+n)=if n<=m then cV xs xs.length else cV (xs++List.replicate m frZ) (xs.length+n)
 | 0=>by
  rw [if_pos (Nat.zero_le _),Nat.add_zero]
  have key : ∀ k,k<=xs.length->cV (xs++List.replicate m frZ) k=cV xs k:=fun k=>by
   induction k with
   | zero=>intro _;rfl
   | succ k ih =>
    intro hk
    unfold cV
    have e:(xs++List.replicate m frZ).getD k frZ=xs.getD k frZ:=by
     rw [List.getD_eq_getElem?_getD,List.getElem?_append_left (by omega),List.getD_eq_getElem?_getD]
    rw [e,ih (by omega)]
  exact key _ (Nat.le_refl _)
 | n+1=>by
  by_cases h:n+1<=m
  ·rw [if_pos h]
   have ih:=uD xs m n
   rw [if_pos (by omega)] at ih
   show cV (xs++List.replicate m frZ) (xs.length+n+1)=_
   rw [BF]
   have e:(xs++List.replicate m frZ).getD (xs.length+n) frZ=frZ:=by
    rw [List.getD_eq_getElem?_getD,List.getElem?_append_right (by omega),List.getElem?_replicate]
    split <;> rfl
   rw [e,(j7 frZ frZ).2 rfl]
   simp only []
   exact ih
  ·rw [if_neg h]
theorem rE (xs:List Fr) (m:Nat):cE (xs++List.replicate m frZ)=cE xs:=by
 have h:=uD xs m m
 rw [if_pos (Nat.le_refl _)] at h
 unfold cE
 rw [List.length_append,List.length_replicate,h,List.take_append_of_le_length (iI xs _)]
section
variable {aF mF : Fr -> Fr -> Fr} (hA : ∀ {a b : Fr}, a.ok -> b.ok -> (aF a b).ok /\ (aF a b).v = a.v + b.v) (hM : ∀ {a b : Fr}, a.ok -> b.ok -> (mF a b).ok /\ (mF a b).v = a.v * b.v)
include hA hM
theorem J3 {xs:List Fr} (h:bS xs) {x:Fr} (hx:x.ok) : ∀ n,n<=xs.length -> ∀ {y:Fr},y.ok->(rAt aF mF xs x n y).ok/\(rAt aF mF xs x n y).v=y.v*x.v ^ n+hor x.v (vL (xs.take n))
 | 0,_,y,hy=>by
  rw [yL]
  refine ⟨hy,?_⟩
  show y.v=y.v*x.v ^ 0+hor x.v []
  rw [bT,Dn]
  generalize y.v=a
  grind
 | n+1,hn,y,hy=>by
  have hc:=co h n
  obtain ⟨m1,m2⟩:=hM hy hx
  obtain ⟨a1,a2⟩:=hA m1 hc
  obtain ⟨h1,h2⟩:=J3 h hx n (by omega) a1
  rw [yM]
  refine ⟨h1,?_⟩
  have e:xs.take (n+1)=xs.take n ++ [xs.getD n frZ]:=eU xs (by omega)
  rw [h2,a2,m2,e,ko,show vL [xs.getD n frZ] = [(xs.getD n frZ).v] from rfl,j6,an]
  unfold vL
  rw [List.length_map,List.length_take,Nat.min_eq_left (by omega)]
  generalize x.v ^ n=p
  generalize hor x.v (List.map Fr.v (List.take n xs))=q
  generalize (xs.getD n frZ).v=c
  generalize y.v=b
  generalize x.v=d
  clear h2 m2 a2
  grind
end
theorem Cy {a b:Fr} (ha:a.ok) (hb:b.ok):(df a b).ok/\(df a b).v=a.v+b.v:=⟨DJ ha hb,O4 ha hb⟩
theorem wL {a b:Fr} (ha:a.ok) (hb:b.ok):(bZ a b).ok/\(bZ a b).v=a.v*b.v:=⟨De hb,O1 ha hb⟩
theorem Rd {xs:List Fr} (h:bS xs) {x:Fr} (hx:x.ok) {n:Nat} (hn:n<=xs.length) {y:Fr} (hy:y.ok):(rAt df bZ xs x n y).ok/\(rAt df bZ xs x n y).v=y.v*x.v ^ n+hor x.v (vL (xs.take n)):=J3 Cy wL h hx n hn hy
theorem Mv {xs:List Fr} (h:bS xs) {x:Fr} (hx:x.ok):(rAt df bZ xs x xs.length frZ).ok/\(rAt df bZ xs x xs.length frZ).v=hor x.v (vL xs):=by
 obtain ⟨h1,h2⟩:=Rd h hx (Nat.le_refl _) Cl
 refine ⟨h1,?_⟩
 rw [h2,List.take_length,GC]
 generalize x.v ^ xs.length=p
 generalize hor x.v (vL xs)=q
 clear h2
 grind
end
set_option maxRecDepth 100000
section
theorem Fi (x y t c:UInt64):fP x y t c=fP y x t c:=by unfold fP;rw [UInt64.mul_comm]
theorem Bb (x y:UInt64):dY x y=dY y x:=UInt64.toNat.inj (by rw [fm,fm,Nat.mul_comm])
theorem Fk (x y t c:UInt64):dK x y t c=dK y x t c:=by unfold dK;rw [UInt64.mul_comm,Bb]
theorem Fd (t0 t1 t2 t3 top:UInt64) (more:Bool):s8 rLimbs eL t0 t1 t2 t3 top more=vP t0 t1 t2 t3 top more:=by
 unfold s8 vP
 simp only [sV,sW,oc t0]
 rfl
theorem Fb (ai:UInt64) (b:Fr) (t:L5):di rLimbs eL ai b t=fD b ai t:=by
 unfold di fD
 rw [Fd]
 simp only [sV,sW,Fi ai,Fk ai]
theorem xJ (a b:Fr):cJ a b rLimbs=hZ b a:=by
 unfold cJ dC dD dE
 rw [dq]
 simp only [Fb]
 rfl
theorem Ft (a:Fr):ta a=bB a rLimbs:=rfl
theorem Fu (a:Fr) (o:UInt64):fZ a o=match decide (o<b2u (decide (a.nat<qN))) with | true=>a | false=>(bB a rLimbs).1:=by
 unfold fZ
 rw [Ft,jP,dW]
 rfl
theorem lV {t:Fr} {o:UInt64} (ho:o.toNat<=1) (h:t.nat+r4N*o.toNat<2*qN):(fZ t o).nat=(t.nat+r4N*o.toNat) % qN:=by
 obtain ⟨h1,h2⟩:=vT t o.toNat ho h
 rw [Fu]
 by_cases hl:t.nat<qN
 ·rw [decide_eq_true hl]
  rcases Nat.lt_or_ge o.toNat 1 with h0 | h0
  ·have e0:o.toNat=0:=by omega
   have e:o=0:=UInt64.toNat.inj e0
   subst e
   exact h2 ⟨e0,hl⟩
  ·have e1:o.toNat=1:=by omega
   have e:o=1:=UInt64.toNat.inj e1
   subst e
   exact h1 (.inl e1)
 ·rw [decide_eq_false hl]
  have e:decide (o<b2u false)=false:=decide_eq_false (by
   intro hlt
   have:o.toNat<0:=hlt
   omega)
  rw [e]
  exact h1 (.inr hl)
theorem ur {a b:Fr} (ha:a.nat<qN):(i6 a b).nat<qN/\(i6 a b).nat*r4N % qN=a.nat*b.nat % qN:=by
 obtain ⟨k,h1,h2⟩:=qW b a
 rw [xJ] at h1 h2
 have h3:=L5.nat_low (hZ a b)
 have ht:(hZ a b).t4.toNat<=1:=by
  have hpr:2*qN<r4N:=by decide +kernel
  rcases Nat.lt_or_ge (hZ a b).t4.toNat 1 with h | h
  ·omega
  ·have:r4N*1<=r4N*(hZ a b).t4.toNat:=Nat.mul_le_mul_left _ h
   omega
 have e:=lV (t:=(hZ a b).low) ht (by omega)
 have e2:(i6 a b).nat=(hZ a b).nat % qN:=by
  rw [h3]
  exact e
 rw [e2]
 refine ⟨Nat.mod_lt _ k8,?_⟩
 rw [Nat.mod_mul_mod,h1,Nat.add_mul_mod_self_right,Nat.mul_comm]
theorem E4 {a b:Fr} (ha:a.nat<qN):(cZ a b).nat=a.nat*b.nat % qN:=by
 obtain ⟨h1,h2⟩:=ur (b:=b) ha
 obtain ⟨h3,h4⟩:=ur (a:=i6 a b) (b:=sq4Limbs) h1
 have h3:(cZ a b).nat<qN:=h3
 have h4:(cZ a b).nat*r4N % qN=(i6 a b).nat*sq4Limbs.nat % qN:=h4
 rw [<- Nat.mod_eq_of_lt h3]
 refine uc ?_
 rw [h4,vM,Nat.mul_mod_mod]
 have e:(i6 a b).nat*(r4N*r4N)=(i6 a b).nat*r4N*r4N:=(Nat.mul_assoc _ _ _).symm
 rw [e,<- Nat.mod_mul_mod,h2,Nat.mod_mul_mod]
theorem IE {a b:Fr} (ha:a.nat<qN) (hb:b.nat<qN):cZ a b=bZ a b:=Fr.nat_inj (by rw [E4 ha,n4 hb])
theorem Ge {a b:Fr} (ha:a.nat<qN) (hb:b.nat<qN):(eG a b).nat=(a.nat+b.nat) % qN:=by
 have h:=oe a b
 unfold eG
 cases hc:(bn a b).2 with
 | true =>
  rw [hc] at h
  have e:=lV (t:=(bn a b).1) (o:=b2u true) (Nat.le_refl 1) (by
   show (bn a b).1.nat+r4N*1<2*qN
   have:(bn a b).1.nat+r4N*1=a.nat+b.nat:=h
   omega)
  rw [e]
  exact congrArg (· % qN) h
 | false =>
  rw [hc] at h
  have e:=lV (t:=(bn a b).1) (o:=b2u false) (Nat.zero_le 1) (by
   show (bn a b).1.nat+r4N*0<2*qN
   have:(bn a b).1.nat+r4N*0=a.nat+b.nat:=h
   omega)
  rw [e]
  exact congrArg (· % qN) h
theorem JQ {a b:Fr} (ha:a.nat<qN) (hb:b.nat<qN):eG a b=df a b:=Fr.nat_inj (by rw [Ge ha hb,ob ha hb])
theorem He (a b:Fr):qh a b=mJ a b:=by
 unfold qh mJ ic
 cases (bB a b).2 <;> rfl
theorem Ix (a:Fr):kB a=mV a:=He zeroFr a
end
set_option maxRecDepth 100000
section
theorem wt {a b:Fr} (ha:a.ok) (hb:b.ok):(eG a b).ok/\(eG a b).v=a.v+b.v:=by
 rw [JQ ha hb]
 exact Cy ha hb
theorem nD {a b:Fr} (ha:a.ok) (hb:b.ok):(cZ a b).ok/\(cZ a b).v=a.v*b.v:=by
 rw [IE ha hb]
 exact wL ha hb
section
variable {aF mF : Fr -> Fr -> Fr}
section
variable (hA : ∀ {a b : Fr}, a.ok -> b.ok -> (aF a b).ok /\ (aF a b).v = a.v + b.v) (hM : ∀ {a b : Fr}, a.ok -> b.ok -> (mF a b).ok /\ (mF a b).v = a.v * b.v)
include hA hM
end
end
end
section
section
variable {K : Type} [Fld K] [Crv K]
noncomputable def jH (P:Nat->Pt K) (k:Nat->Nat):Nat->Pt K
 | 0 => .inf
 | j+1=>(jH P k j).add ((P j).mul (k j))
theorem jg {P:Nat->Pt K} {k:Nat->Nat} : ∀ {n:Nat},(∀ j,j<n->(P j).on)->(jH P k n).on
 | 0,_=>trivial
 | n+1,h=>aX (jg fun j hj=>h j (by omega)) (bC (h n (by omega)) _)
omit [Crv K] in
theorem pR {P Q:Nat->Pt K} {k l:Nat->Nat} : ∀ {n:Nat},(∀ j,j<n->P j=Q j/\k j=l j)->jH P k n=jH Q l n
 | 0,_=>rfl
 | n+1,h=>by
  simp only [jH]
  rw [pR fun j hj=>h j (by omega),(h n (by omega)).1,(h n (by omega)).2]
theorem Jj {a b c d:Pt K} (ha:a.on) (hb:b.on) (hc:c.on) (hd:d.on):(a.add b).add (c.add d)=(a.add c).add (b.add d):=by
 rw [aI ha hb (aX hc hd),<- aI hb hc hd,aq hb hc,aI hc hb hd,<- aI ha hc (aX hb hd)]
theorem yi {P:Nat->Pt K} {k l:Nat->Nat} : ∀ {n:Nat},(∀ j,j<n->(P j).on)->jH P (fun j=>k j+l j) n=(jH P k n).add (jH P l n)
 | 0,_=>rfl
 | n+1,h=>by
  have h' : ∀ j,j<n->(P j).on:=fun j hj=>h j (by omega)
  simp only [jH]
  rw [yi h',bU (h n (by omega)),Jj (jg h') (jg h') (bC (h n (by omega)) _) (bC (h n (by omega)) _)]
theorem yh {P:Nat->Pt K} {k:Nat->Nat} (m:Nat) : ∀ {n:Nat},(∀ j,j<n->(P j).on)->jH P (fun j=>k j*m) n=(jH P k n).mul m
 | 0,_=>(dX m).symm
 | n+1,h=>by
  have h' : ∀ j,j<n->(P j).on:=fun j hj=>h j (by omega)
  simp only [jH]
  rw [yh m h',fa (h n (by omega)),cj (jg h') (bC (h n (by omega)) _)]
omit [Crv K] in
theorem tL {P:Nat->Pt K} {k:Nat->Nat} : ∀ {n:Nat},(∀ j,j<n->k j=0)->jH P k n = .inf
 | 0,_=>rfl
 | n+1,h=>by
  simp only [jH]
  rw [tL fun j hj=>h j (by omega),h n (by omega)]
  rfl
theorem xz {p:Pt K} (hp:p.on):(((p.add p).add (p.add p)).add ((p.add p).add (p.add p))).add (((p.add p).add (p.add p)).add ((p.add p).add (p.add p)))=p.mul 16:=by
 have d : ∀ n,(p.mul n).add (p.mul n)=p.mul (n+n):=fun n=>(bU hp n n).symm
 have e:p.add p=p.mul 2:=by have:=d 1;rw [iU] at this;exact this
 rw [e,d 2,d 4,d 8]
end
theorem I5 (k:Fr) : ∀ {i:Nat},i<4->(k.limb i).toNat=k.nat / 2 ^ (64*i) % 2 ^ 64
 | 0,_=>by
  have h0:=k.l0.toNat_lt
  show k.l0.toNat=_
  unfold Fr.nat
  rw [show W64=18446744073709551616 from rfl]
  simp only [Nat.mul_zero,Nat.pow_zero,Nat.div_one]
  omega
 | 1,_=>by
  have h0:=k.l0.toNat_lt
  have h1:=k.l1.toNat_lt
  show k.l1.toNat=_
  unfold Fr.nat
  rw [show W64=18446744073709551616 from rfl,show 2 ^ (64*1)=18446744073709551616 from rfl]
  omega
 | 2,_=>by
  have h0:=k.l0.toNat_lt
  have h1:=k.l1.toNat_lt
  have h2:=k.l2.toNat_lt
  show k.l2.toNat=_
  unfold Fr.nat
  rw [show W64=18446744073709551616 from rfl,show 2 ^ (64*2)=18446744073709551616*18446744073709551616 from rfl,<- Nat.div_div_eq_div_mul]
  omega
 | 3,_=>by
  have h0:=k.l0.toNat_lt
  have h1:=k.l1.toNat_lt
  have h2:=k.l2.toNat_lt
  have h3:=k.l3.toNat_lt
  show k.l3.toNat=_
  unfold Fr.nat
  rw [show W64=18446744073709551616 from rfl,show 2 ^ (64*3)=18446744073709551616*18446744073709551616*18446744073709551616 from rfl,<- Nat.div_div_eq_div_mul,<- Nat.div_div_eq_div_mul]
  omega
 | n+4,h=>absurd h (by omega)
theorem Jr (k:Fr) {m:Nat} (hm:m<64):(GM k ((4*m:Nat):Int)).toNat=k.nat / 16 ^ m % 16:=by
 have hw:IntKind.i64.wrap (((4*m:Nat):Int).tdiv 64)=((m / 16:Nat):Int):=by
  rw [show (((4*m:Nat):Int).tdiv 64)=((4*m / 64:Nat):Int) from rfl,IntWalk.i64_in _ (by omega)]
  congr 1
  omega
 have hs:((UInt64.ofNat (((4*m:Nat):Int).tmod 64 % 18446744073709551616).toNat).toNat:Int)=((4*(m % 16):Nat):Int):=by
  rw [show (((4*m:Nat):Int).tmod 64)=((4*m % 64:Nat):Int) from rfl,UInt64.toNat_ofNat']
  omega
 unfold GM
 rw [hw,hs,Int.toNat_natCast,UInt64.toNat_mod]
 unfold fu
 have hl:=I5 k (i:=m / 16) (by omega)
 have e16:(UInt64.ofNat 16).toNat=16:=rfl
 have hb:=(k.limb (m / 16)).toNat_lt
 rw [UInt64.toNat_ofNat',e16,Int.toNat_natCast,Nat.min_eq_left (by omega)]
 have hd:(k.limb (m / 16)).toNat / 2 ^ (4*(m % 16))<2 ^ 64:=Nat.lt_of_le_of_lt (Nat.div_le_self _ _) hb
 rw [Nat.mod_eq_of_lt hd,hl]
 have hp:(16:Nat) ^ m=2 ^ (64*(m / 16))*2 ^ (4*(m % 16)):=by
  rw [<- Nat.pow_add,show (16:Nat)=2 ^ 4 from rfl,<- Nat.pow_mul]
  congr 1
  omega
 rw [hp,<- Nat.div_div_eq_div_mul]
 generalize k.nat / 2 ^ (64*(m / 16))=y
 have hs:4*(m % 16)+4<=64:=by omega
 obtain ⟨r,hr⟩ : ∃ r,64=4*(m % 16)+(4+r):=⟨64-4-4*(m % 16),by omega⟩
 rw [hr,Nat.pow_add,Nat.mod_mul_right_div_self,Nat.pow_add,Nat.mod_mul_right_mod]
section
variable {K : Type} [Fld K] [Crv K] {R : Sp1 -> Pt K -> Prop} {tw : Sp1 -> Sp1} {pl : Sp1 -> Sp1 -> Sp1} (h0 : R eS .inf) (htw : ∀ {s : Sp1} {p : Pt K}, p.on -> R s p -> R (tw s) (p.add p))
 (hpl : ∀ {s t:Sp1} {p q:Pt K},p.on->q.on->R s p->R t q->R (pl s t) (p.add q))
include h0 hpl in
theorem tT {s:Sp1} {p:Pt K} (hp:p.on) (h:R s p) : ∀ d,R (Ad pl s d) (p.mul d)
 | 0=>h0
 | d+1=>hpl (bC hp d) hp (tT hp h d) h
include hpl in
theorem qf {tl:List Sp1} {ks:List Fr} {z:Int} {P:Nat->Pt K} {d:Nat->Nat} {n:Nat} (hP : ∀ j,j<n->(P j).on) (ht : ∀ j,j<n->R (tl.getD (j*16+(GM (ks.getD j fr0) z).toNat) sp0) ((P j).mul (d j)))
  {o:Sp1} {p:Pt K} (hp:p.on) (ho:R o p) : ∀ j,j<=n->R (iA pl tl ks z j o) (p.add (jH P d j))
 | 0,_=>by
  rw [jH,bO]
  exact ho
 | j+1,h=>by
  have hw:(jH P d j).on:=jg fun i hi=>hP i (by omega)
  have:=hpl (aX hp hw) (bC (hP j (by omega)) (d j)) (qf hP ht hp ho j (by omega)) (ht j (by omega))
  rw [aI hp hw (bC (hP j (by omega)) _)] at this
  exact this
include htw in
theorem z5 {o:Sp1} {p:Pt K} (hp:p.on) (h:R o p):R (tw (tw (tw (tw o)))) (p.mul 16):=by
 rw [<- xz hp]
 exact htw (aX (aX (aX hp hp) (aX hp hp)) (aX (aX hp hp) (aX hp hp))) (htw (aX (aX hp hp) (aX hp hp)) (htw (aX hp hp) (htw hp h)))
include htw hpl in
theorem ol {tl:List Sp1} {ks:List Fr} {P:Nat->Pt K} {n:Nat} (hP : ∀ j,j<n->(P j).on) (ht : ∀ j d,j<n->d<16->R (tl.getD (j*16+d) sp0) ((P j).mul d)) :
  ∀ (m:Nat),m<=64 -> ∀ {o:Sp1},R o (jH P (fun j=>(ks.getD j fr0).nat / 16 ^ m) n)->R (jh tw pl tl ks n m o) (jH P (fun j=>(ks.getD j fr0).nat) n)
 | 0,_,o,h=>by
  simp only [Nat.pow_zero,Nat.div_one] at h
  exact h
 | m+1,hm,o,h=>by
  simp only [jh]
  refine ol hP ht m (by omega) ?_
  have hw:=jg (k:=fun j=>(ks.getD j fr0).nat / 16 ^ (m+1)) hP
  have h1:=qf hpl (tl:=tl) (ks:=ks) (z:=((4*m:Nat):Int)) (d:=fun j=>(ks.getD j fr0).nat / 16 ^ m % 16) hP (fun j hj=>by
   rw [Jr _ (by omega)]
   exact ht j _ hj (Nat.mod_lt _ (by decide))) (bC hw 16) (z5 htw hw h) n (Nat.le_refl n)
  rw [<- yh 16 hP,<- yi hP] at h1
  rw [pR (Q:=P) (l:=fun j=>(ks.getD j fr0).nat / 16 ^ m) (fun j _=>⟨rfl,by
   have key:(ks.getD j fr0).nat / 16 ^ (m+1)=(ks.getD j fr0).nat / 16 ^ m / 16:=by rw [Nat.pow_succ,Nat.div_div_eq_div_mul]
   show (ks.getD j fr0).nat / 16 ^ (m+1)*16+(ks.getD j fr0).nat / 16 ^ m % 16=(ks.getD j fr0).nat / 16 ^ m
   rw [key]
   generalize (ks.getD j fr0).nat / 16 ^ m=y
   omega⟩)] at h1
  exact h1
end
theorem uL {α:Type} (f:Nat->α) (d:α) : ∀ {i:Nat},i<16->(gn f).getD i d=f i
 | 0,_=>rfl | 1,_=>rfl | 2,_=>rfl | 3,_=>rfl | 4,_=>rfl | 5,_=>rfl | 6,_=>rfl | 7,_=>rfl
 | 8,_=>rfl | 9,_=>rfl | 10,_=>rfl | 11,_=>rfl | 12,_=>rfl | 13,_=>rfl | 14,_=>rfl | 15,_=>rfl
 | n+16,h=>absurd h (by omega)
theorem qd (f:Pg1->Nat->Sp1) (F:Pg1->Tab .sp1) (hF : ∀ p,(F p).xs=gn (f p)) : ∀ (ps:List Pg1) (j d:Nat),j<ps.length->d<16->(cS F ps).getD (j*16+d) sp0=f (ps.getD j iT) d
 | [],j,d,hj,_=>absurd hj (Nat.not_lt_zero j)
 | p :: ps,0,d,_,hd=>by
  have h16:(F p).xs.length=16:=(F p).len
  have e:cS F (p :: ps)=(F p).xs++cS F ps:=by simp [cS]
  rw [e,Nat.zero_mul,Nat.zero_add,List.getD_eq_getElem?_getD,List.getElem?_append_left (by omega),<- List.getD_eq_getElem?_getD,hF]
  exact uL _ _ hd
 | p :: ps,j+1,d,hj,hd=>by
  have h16:(F p).xs.length=16:=(F p).len
  have e:cS F (p :: ps)=(F p).xs++cS F ps:=by simp [cS]
  rw [e,List.getD_eq_getElem?_getD,List.getElem?_append_right (by omega),h16,show (j+1)*16+d-16=j*16+d by omega,<- List.getD_eq_getElem?_getD]
  exact qd f F hF ps j d (by simpa using hj) hd
theorem G8 (p:Pg1):(fQ p).xs=gn (Ad aN (dG p)):=rfl
theorem Bp {ps:List Pg1} (hp : ∀ i,i<ps.length->(ps.getD i iT).good) (ks:List Fr):(dT ps ks).good/\(dT ps ks).pt=jH (fun j=>(ps.getD j iT).pt) (fun j=>(ks.getD j fr0).nat) (aA ps ks):=by
 have hN:aA ps ks<=ps.length:=Nat.min_le_right _ _
 have hP : ∀ j,j<aA ps ks->(ps.getD j iT).pt.on:=fun j hj=>(hp j (by omega)).2
 unfold dT
 refine Fx (jg hP) (ol (R:=vS) qb ue hP (fun j d hj hd => ?_) 64 (Nat.le_refl _) ?_)
 ·rw [qd (fun p=>Ad aN (dG p)) fQ G8 (ps.take (aA ps ks)) j d (by rw [List.length_take];omega) hd]
  have e:(ps.take (aA ps ks)).getD j iT=ps.getD j iT:=by rw [List.getD_eq_getElem?_getD,List.getD_eq_getElem?_getD,List.getElem?_take_of_lt hj]
  rw [e]
  exact tT (R:=vS) mM ue (hP j hj) (Fs (hp j (by omega))) d
 ·rw [tL fun j hj => ?_]
  ·exact mM
  ·have h1:=(ks.getD j fr0).nat_lt
   have h2:r4N=16 ^ 64:=by decide +kernel
   rw [h2] at h1
   exact Nat.div_eq_of_lt h1
end
set_option maxRecDepth 100000
section
def JU (X K:Nat->VR):Nat->VR
 | 0=>0
 | n+1=>JU X K n+X n*K n
theorem tO (X K:Nat->VR) (n:Nat):JU X K (n+1)=JU X K n+X n*K n:=rfl
theorem CA {P:Nat->Pt V1} {k:Nat->Nat} {X K:Nat->VR} : ∀ n,(∀ i,i<n->P i=gm (X i)/\k i=(K i).nat)->jH P k n=gm (JU X K n)
 | 0,_=>gm_zero.symm
 | n+1,h=>by
  have ih:=CA n fun i hi=>h i (Nat.lt_succ_of_lt hi)
  obtain ⟨h1,h2⟩:=h n (Nat.lt_succ_self n)
  show (jH P k n).add ((P n).mul (k n))=_
  rw [ih,h1,h2,<- KD,<- wU,tO]
theorem wo {ps:List Pg1} {ks:List Fr} {X:Nat->VR} (hp : ∀ i,i<ps.length->At1 (ps.getD i iT) (X i)) (hk : ∀ i,i<ks.length->(ks.getD i fr0).ok):At1 (dT ps ks) (JU X (fun i=>(ks.getD i fr0).v) (aA ps ks)):=by
 have hN:aA ps ks<=ps.length:=Nat.min_le_right _ _
 have hK:aA ps ks<=ks.length:=Nat.min_le_left _ _
 obtain ⟨h1,h2⟩:=Bp (ps:=ps) (fun i hi=>(hp i hi).good) ks
 refine ⟨h1,?_⟩
 rw [h2]
 exact CA _ fun i hi=>⟨(hp i (Nat.lt_of_lt_of_le hi hN)).pt,(Fr.v_nat (hk i (Nat.lt_of_lt_of_le hi hK))).symm⟩
end
set_option maxRecDepth 100000
section
theorem ze : ∀ {l:List Fr},lU cm l=true->bS l
 | [],_=>jZ
 | x :: l,h=>by
  rw [rb] at h
  cases e:cm x with
  | false =>
   rw [e] at h
   cases h
  | true =>
   rw [e] at h
   have h:lU cm l=true:=h
   intro y hy
   rcases List.mem_cons.1 hy with rfl | hy
   ·exact IR e
   ·exact ze h y hy
theorem bI {l:List Fr} {n:Int} (h:bv l n=true):bS l/\(l.length:Int)<=n:=by
 unfold bv at h
 cases e:lU cm l with
 | false=>rw [e] at h;cases h
 | true =>
  rw [e] at h
  exact ⟨ze e,of_decide_eq_true h⟩
theorem FU (f0:Pg1->Fr->Pg1) (f1:Pg1) (k:Fr):wl f0 f1 k=f0 f1 k:=rfl
theorem Jw (k:Fr):bM k=cw jD k:=by unfold bM;exact FU _ _ _
theorem VR.one_mul (x:VR):1*x=x:=by grind
theorem dP {k:Fr} (hk:k.ok):At1 (bM k) k.v:=by
 have:=ga wq hk
 rw [VR.one_mul,<- Jw] at this
 exact this
theorem MU:Ko 1=oneFr:=rfl
theorem Bz {α:Type} (g:Nat->α) (d:α) {n i:Nat} (hi:i<n):((List.range n).map g).getD i d=g i:=by
 rw [List.getD_eq_getElem?_getD,List.getElem?_map,List.getElem?_range hi]
 rfl
theorem VR.move (c y w z t:VR):c-y+w*z=w*t <-> c-y=w*(t-z):=by
 constructor
 ·intro h
  grind
 ·intro h
  grind
theorem M3 {y:Fr} (hy:y.ok):(kB y).ok/\(kB y).v = -y.v:=by
 rw [Ix]
 exact ⟨qM hy,BX hy⟩
end
set_option maxRecDepth 100000
section
def m7 (n:Nat):Fr:=⟨UInt64.ofNat n,UInt64.ofNat 0,UInt64.ofNat 0,UInt64.ofNat 0⟩
theorem v3:(m7 1).v+(m7 2).v*((m7 1).v+(m7 2).v*0)=(m7 3).v:=VR.ext (by decide +kernel)
theorem v6:(m7 1).v+(m7 5).v*((m7 1).v+(m7 5).v*0)=(m7 6).v:=VR.ext (by decide +kernel)
end
end Go.Proofs.Ytibfppbffdedoaa
