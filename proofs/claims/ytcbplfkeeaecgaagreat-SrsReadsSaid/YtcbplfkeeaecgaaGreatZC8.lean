/- Texts of the proof, joined. -/
import Derived.Test.YtcbplfkeeaecgaaGreatZC7
set_option linter.unusedSectionVars false
set_option linter.unusedSimpArgs false
set_option linter.unusedVariables false
namespace Go.Proofs.YtcbplfkeeaecgaaGreat
open Go.RowKit
section
theorem u8_map (xs:List UInt8):(List.map EK.u8.cell xs).length=xs.length:=List.length_map ..
section
variable {mF : List UInt8 -> Bool × Bool × Unit -> List UInt8} {pF : Fp -> List UInt8} (hm : ∀ xs x, (mF xs x).length = xs.length) (hp : ∀ a, (pF a).length = 48)
include hm hp in
theorem put1_all (gF:Fp->Bool) (a:Pg1):(put1_T mF pF gF a).full=true/\(put1_T mF pF gF a).okAll:=by
 refine ⟨rfl,?_⟩
 unfold put1_T
 simp only [Tree.okAll,Pr.holds,hm,hp,List.length_cons,List.length_nil]
 simp
include hm hp in
theorem put2_all (gF:Fp2->Bool) (a:Pg2):(put2_T mF pF gF a).full=true/\(put2_T mF pF gF a).okAll:=by
 refine ⟨rfl,?_⟩
 unfold put2_T
 simp only [Tree.okAll,Pr.holds,hm,List.drop_zero,List.length_append,List.length_take,hp,List.length_cons,List.length_nil]
 simp
include hp in
theorem rput1_all (gF:Fp->Bool) (a:Pg1):(rput1_T pF gF a).full=true/\(rput1_T pF gF a).okAll:=by
 refine ⟨rfl,?_⟩
 unfold rput1_T
 simp only [Tree.okAll,Pr.holds,u8_map,List.drop_zero,List.length_append,List.length_take,List.length_set,hp,List.length_cons,List.length_nil]
 simp
include hp in
theorem rput2_all (gF:Fp2->Bool) (a:Pg2):(rput2_T pF gF a).full=true/\(rput2_T pF gF a).okAll:=by
 refine ⟨rfl,?_⟩
 unfold rput2_T
 simp only [Tree.okAll,Pr.holds,u8_map,List.drop_zero,List.length_append,List.length_take,List.length_set,hp,List.length_cons,List.length_nil]
 simp
end
def put1F (a:Pg1):List UInt8:=(put1_T markF fputF greatF a).outD []
def put2F (a:Pg2):List UInt8:=(put2_T markF fputF greatF2 a).outD []
def rput1F (a:Pg1):List UInt8:=(rput1_T fputF greatPF a).outD []
def rput2F (a:Pg2):List UInt8:=(rput2_T fputF great2R a).outD []
theorem put1_ok:CallOk Tryz.prog 51 (K1 kg1.arg rB put1F) :=
 G1 (E:=Ens [(99,Kmark markF),(100,Kfput fputF),(101,Kfb greatF)] [100]) Tryz.func51 (c:=codeOf Tryz.f51) (by kernel_rfl) (bodied Tryz.func51 (by kernel_rfl) (by kernel_rfl)) kg1.inp oBl put1F fun a _ =>
  DoesL.outs (Ens_ok (.cons mark_ok (.cons fput_ok (.cons great_ok .nil)))) 300 [] (put1_run markF fputF greatF a) (put1_all markF_len fput_len' greatF a).1 (put1_all markF_len fput_len' greatF a).2
theorem put2_ok:CallOk Tryz.prog 52 (K1 kg2.arg rB put2F) :=
 G1 (E:=Ens [(99,Kmark markF),(100,Kfput fputF),(102,Kpb greatF2)] [100]) Tryz.func52 (c:=codeOf Tryz.f52) (by kernel_rfl) (bodied Tryz.func52 (by kernel_rfl) (by kernel_rfl)) kg2.inp oBl put2F fun a _ =>
  DoesL.outs (Ens_ok (.cons mark_ok (.cons fput_ok (.cons greatF2_ok .nil)))) 300 [] (put2_run markF fputF greatF2 a) (put2_all markF_len fput_len' greatF2 a).1 (put2_all markF_len fput_len' greatF2 a).2
theorem rput1_ok:CallOk Tryz.prog 49 (K1 kg1.arg rB rput1F) :=
 G1 (E:=Ens [(97,Kfput fputF),(78,Kfb greatPF)] [97]) Tryz.func49 (c:=codeOf Tryz.f49) (by kernel_rfl) (bodied Tryz.func49 (by kernel_rfl) (by kernel_rfl)) kg1.inp oBl rput1F fun a _ =>
  DoesL.outs (Ens_ok (.cons rfput_ok (.cons greatP_ok .nil))) 300 [] (rput1_run fputF greatPF a) (rput1_all fput_len' greatPF a).1 (rput1_all fput_len' greatPF a).2
theorem rput2_ok:CallOk Tryz.prog 50 (K1 kg2.arg rB rput2F) :=
 G1 (E:=Ens [(97,Kfput fputF),(98,Kpb great2R)] [97]) Tryz.func50 (c:=codeOf Tryz.f50) (by kernel_rfl) (bodied Tryz.func50 (by kernel_rfl) (by kernel_rfl)) kg2.inp oBl rput2F fun a _ =>
  DoesL.outs (Ens_ok (.cons rfput_ok (.cons great2R_ok .nil))) 300 [] (rput2_run fputF great2R a) (rput2_all fput_len' great2R a).1 (rput2_all fput_len' great2R a).2
end
section
def sizeB (n:Int):Prop:=0<n/\n<4294967296
abbrev oB4:Out (List UInt8 × Bool × Bool × Int):=outB4 5
noncomputable abbrev bareC:List Code:=flat (scopeOf Tryz.f87)
def bareSt (l:List UInt8) (n:Int) (g:Bool) (i:Int):St:=mkSt 61 [(1,vI n),(4,slB 0 l),(6,.one (.c (.bool g))),(8,vI i)] [ownB l]
def bare0 (b:List UInt8) (n:Int):St:=mkSt 61 [(0,iB.av 0 b),(1,vI n)] [inHE eU8 b]
theorem bare_front (b:List UInt8) (n:Int):stageT (En []) 100 ((flat (codeOf Tryz.f87)).take 1) (startSt Tryz.f87 [iB.av 0 b,vI n] [inHE eU8 b]) [0,1] [0] = .leaf (bare0 b n):=by kernel_rfl
theorem bare_start (b:List UInt8) (n:Int):letI za':=0<b.length/\0+b.length*1<=(List.map EK.u8.cell b).length/\0<1;letI zb':=List.drop 0 b;letI zc':=0+b.length*1<=(List.map EK.u8.cell b).length/\0<1;letI zd':=0+b.length;letI ze':=0<b.length;segP (En []) oB4 300 Tryz.f87 (bareC.take 8) (bare0 b n) (following [1,4,6,8] [] [4]) [(1,.as),(4,.as),(6,.as),(8,.int)] [.as] []=(.vc zc' (.br (decide ((↑b.length:Int)<n)) (.leaf (.inr (some ((([],false,false,2),.t))))) (.vc zc' (.br (decide ((↑b.length:Int) > n)) (.leaf (.inr (some ((([],false,false,8),.t))))) (.vc za' (.vc ze' (.br (b.getD 0 0 &&& UInt8.ofNat 128==UInt8.ofNat 0) (.leaf (.inr (some ((([],false,false,3),.t))))) (.vc (0+b.length<=b.length/\0+b.length<=9223372036854775807/\zd'*1<=140737488355328) (.vc (0<0+b.length/\0+zd'*1<=(List.map EK.u8.cell ([]++List.take b.length zb')).length/\0<1) (.vc (0<([]++List.take b.length zb').length) (.vc (0<0+b.length/\0+zd'*1<=(List.map EK.u8.cell ([]++List.take b.length zb')).length/\0<1) (.vc (0<([]++List.take b.length zb').length) (.vc za' (.vc ze' (.vc za' (.vc ze' (.br (!(b.getD 0 0 &&& UInt8.ofNat 64 != UInt8.ofNat 0)) (.leaf (.inr (some (((List.take zd' (([]++List.take b.length zb').set 0 (([]++List.take b.length zb').getD 0 0 &&& ~~~UInt8.ofNat 224)),false,b.getD 0 0 &&& UInt8.ofNat 32 != UInt8.ofNat 0,0),(.p (0+b.length<=(([]++List.take b.length zb').set 0 (([]++List.take b.length zb').getD 0 0 &&& ~~~UInt8.ofNat 224)).length))))))) (.leaf (.inl (mkSt 61 [(1,.one (.c (.int .i64 (n)))),(4,.one (.c (.slc 0 0 zd' 1 (.of 0) false))),(6,.one (.c (.bool (b.getD 0 0 &&& UInt8.ofNat 32 != UInt8.ofNat 0)))),(8,.one (.c (.int .i64 0)))] [.live ⟨true,5,1,(.elts .u8 (([]++List.take b.length zb').set 0 (([]++List.take b.length zb').getD 0 0 &&& ~~~UInt8.ofNat 224):List UInt8)),false⟩])))))))))))))))))))):=by kernel_rfl
theorem bare_round (l:List UInt8) (n:Int) (g:Bool) (i:Int):iterT (En []) oB4 300 Tryz.f87 (bareC.drop 8) (bareSt l n g i) [1,4,6,8] [0]=(.br (g) (.leaf (.inr (some ((([],false,false,3),.t))))) (.vc ((0<=i/\i<(↑l.length:Int))/\0+l.length*1<=(List.map EK.u8.cell l).length/\0<1) (.vc (0+i.toNat*1<l.length) (.br (l.getD (0+i.toNat*1) 0 != UInt8.ofNat 0) (.leaf (.inr (some ((([],false,false,3),.t))))) (.br (decide (IntKind.i64.wrap (i+1)<n)) (.leaf (.inl ((.goto 0,mkSt 61 [(1,.one (.c (.int .i64 (n)))),(4,.one (.c (.slc 0 0 (l.length) 1 (.of 0) false))),(6,.one (.c (.bool (g)))),(8,.one (.c (.int .i64 (IntKind.i64.wrap (i+1)))))] [.live ⟨true,5,1,(.elts .u8 (l:List UInt8)),false⟩])))) (.leaf (.inr (some (((List.take l.length l,true,false,0),(.p (l.length<=l.length)))))))))))):=by kernel_rfl
def bareL (b:List UInt8):List UInt8:=b.set 0 (b.getD 0 0 &&& ~~~(UInt8.ofNat 224))
def zeroTo (l:List UInt8):Nat->Bool
 | 0=>true
 | i+1=>zeroTo l i && (l.getD i 0==0)
def bit7 (b:List UInt8):Bool:=b.getD 0 0 &&& UInt8.ofNat 128==UInt8.ofNat 0
def bit6 (b:List UInt8):Bool:=b.getD 0 0 &&& UInt8.ofNat 64 != UInt8.ofNat 0
def bit5 (b:List UInt8):Bool:=b.getD 0 0 &&& UInt8.ofNat 32 != UInt8.ofNat 0
def bareG (c1 c2 c3 c4 c5 c6:Bool) (l:List UInt8):List UInt8 × Bool × Bool × Int :=
 match c1 with
 | true=>([],false,false,2)
 | false=>match c2 with
  | true=>([],false,false,8)
  | false=>match c3 with
   | true=>([],false,false,3)
   | false=>match c4 with
    | false=>(l,false,c5,0)
    | true=>match c5 || !c6 with
     | true=>([],false,false,3)
     | false=>(l,true,false,0)
def bareF (b:List UInt8) (n:Int):List UInt8 × Bool × Bool × Int:=bareG (decide ((b.length:Int)<n)) (decide ((b.length:Int) > n)) (bit7 b) (bit6 b) (bit5 b) (zeroTo (bareL b) b.length) (bareL b)
theorem bareL_len (b:List UInt8):(bareL b).length=b.length:=List.length_set ..
theorem zeroTo_false {l:List UInt8} {i:Nat} (h:zeroTo l i=false) : ∀ {n:Nat},i<=n->zeroTo l n=false
 | 0,hn=>by rw [show (0:Nat)=i by omega];exact h
 | n+1,hn=>by
  rcases Nat.lt_or_ge n i with h1 | h1
  ·rw [show n+1=i by omega];exact h
  ·unfold zeroTo
   rw [zeroTo_false h h1]
   rfl
theorem nil_whole (b:List UInt8) : []++List.take b.length (List.drop 0 b)=b:=by rw [List.nil_append,List.drop_zero,List.take_length]
abbrev BareOk (b:List UInt8) (n:Int):Type := { q:Nat // q<b.length/\zeroTo (bareL b) q=true/\(q=0 \/ bit5 b=false)/\(b.length:Int)=n/\bit7 b=false/\bit6 b=true }
def bareI (b:List UInt8) (n:Int) (q:BareOk b n):St:=bareSt (bareL b) n (bit5 b) (q.1:Int)
theorem bare_head (b:List UInt8) (n:Int) (hb:b.length<16777216) (hn:0<n) :
  DoesL (En []) (bareC.take 8) (bare0 b n) (Within (En []) Tryz.f87 oB4 (bareF b n) fun r=>match r.1 with | .normal => ∃ i0:BareOk b n,b.length-i0.1<b.length+1/\r.2=bareI b n i0 | _=>False):=by
 refine DoesL.segP (En_ok .nil) 300 8 _ _ _ _ ((congrArg (fun c=>segP _ _ 300 _ c _ _ _ _ _) (show (bareC.take 8).take 8=bareC.take 8 by kernel_rfl)).trans (bare_start b n)) ?_
 rw [nil_whole,Nat.zero_add b.length]
 refine ⟨vcLenB b,fun _=>⟨fun h1=>⟨.t,by unfold bareF bareG;rw [h1],trivial⟩,fun h1=>⟨vcLenB b,fun _=>⟨fun h2=>⟨.t,by unfold bareF bareG;rw [h1,h2],trivial⟩,fun h2 => ?_⟩⟩⟩⟩
 have e1:(b.length:Int)=n:=by
  simp only [decide_eq_false_iff_not] at h1 h2
  omega
 have h0:0<b.length:=by omega
 have v0:=vcHd (ys:=b) rfl h0
 refine ⟨v0,fun _=>⟨h0,fun _=>⟨fun h3=>⟨.t,by unfold bareF bareG;rw [h1,h2,show bit7 b=true from h3],trivial⟩,fun h3 => ?_⟩⟩⟩
 have h3:bit7 b=false:=h3
 have v1:=vcHd (ys := []++List.take b.length (List.drop 0 b)) (congrArg List.length (nil_whole b)) h0
 refine ⟨⟨Nat.le_refl _,by omega,by omega⟩,fun _=>⟨v1,fun _=>⟨h0,fun _=>⟨v1,fun _=>⟨h0,fun _=>⟨v0,fun _=>⟨h0,fun _=>⟨v0,fun _=>⟨h0,fun _=>⟨fun h4 => ?_,fun h4 => ?_⟩⟩⟩⟩⟩⟩⟩⟩⟩⟩
 ·have h4:(!bit6 b)=true:=h4
  have h4:bit6 b=false:=by cases h:bit6 b with | false=>rfl | true=>rw [h] at h4;cases h4
  refine ⟨.p (b.length<=(bareL b).length),?_,by rw [bareL_len];exact Nat.le_refl _⟩
  unfold bareF bareG
  rw [h1,h2,h3,h4]
  show some ((List.take b.length (bareL b),false,bit5 b,0),_)=some ((bareL b,false,bit5 b,0),_)
  rw [<- bareL_len b,List.take_length]
  rfl
 ·have h4:bit6 b=true:=of_not_false h4
  refine ⟨_,Wk.refl _,⟨0,h0,rfl,.inl rfl,e1,h3,h4⟩,by show b.length-0<b.length+1;omega,?_⟩
  show _=bareSt (bareL b) n (bit5 b) ((0:Nat):Int)
  unfold bareSt slB ownB
  rw [bareL_len]
  rfl
theorem bare_ok:CallOk Tryz.prog 87 (K2 aBs (kInt.arg.such sizeB) oB4.res bareF) :=
 Go.Proofs.YtcbplfkeeaecgaaGreat.G2 (E:=En []) Tryz.func87 (c:=codeOf Tryz.f87) (by kernel_rfl) (bodied Tryz.func87 (by kernel_rfl) (by kernel_rfl)) iBs (kInt.inp.such sizeB) oB4 bareF fun b n hb hn=>by
  have hE:EnvOk (En []):=En_ok .nil
  have hb:b.length<16777216:=hb.2
  obtain ⟨hn1,hn2⟩:0<n/\n<4294967296:=hn.2
  refine DoesL.stageE hE 100 1 [0,1] [0] (bare_front b n) ?_
  refine DoesL.scopeFnR (body:=scopeOf Tryz.f87) (rest:=restOf Tryz.f87) (tail := []) (l:=0) hE (by kernel_rfl) (by kernel_rfl) 8 (by kernel_rfl) (bareI b n) (fun q=>b.length-q.1) (b.length+1) (bare_head b n hb hn1) fun q => ?_
  obtain ⟨i,hi,hz,h5,e1,h7,h6⟩:=q
  show DoesL _ _ (bareSt (bareL b) n (bit5 b) (i:Int)) _
  refine DoesL.iter hE 300 _ _ (bare_round (bareL b) n (bit5 b) (i:Int)) ?_
  have hf:bareF b n=bareG false false false true (bit5 b) (zeroTo (bareL b) b.length) (bareL b):=by
   unfold bareF
   rw [h7,h6,show decide ((b.length:Int)<n)=false from decide_eq_false (by omega),show decide ((b.length:Int) > n)=false from decide_eq_false (by omega)]
  have hl:i<(bareL b).length:=by rw [bareL_len];exact hi
  rw [getB]
  refine ⟨fun h=>⟨.t,by rw [hf,h];rfl,trivial⟩,fun h=>⟨vcIdxB hl,fun _=>⟨vcGetB hl,fun _=>⟨fun h8=>⟨.t,?_,trivial⟩,fun h8 => ?_⟩⟩⟩⟩
  ·have hz1:zeroTo (bareL b) (i+1)=false:=by
    unfold zeroTo
    have h8:(bareL b).getD i 0 ≠ 0:=by simpa [bAt] using h8
    rw [hz,Bool.true_and]
    simpa using h8
   rw [hf,h,zeroTo_false hz1 (show i+1<=b.length by omega)]
   rfl
  ·have hz1:zeroTo (bareL b) (i+1)=true:=by
    unfold zeroTo
    have h8:(bareL b).getD i 0=0:=by simpa [bAt] using h8
    rw [hz,h8]
    rfl
   rw [wrap_succ i (by omega)]
   refine ⟨fun h9 => ?_,fun h9 => ?_⟩
   ·simp only [decide_eq_true_eq] at h9
    exact ⟨rfl,⟨i+1,by omega,hz1,.inr h,e1,h7,h6⟩,by show b.length-(i+1)<b.length-i;omega,rfl⟩
   ·simp only [decide_eq_false_iff_not] at h9
    have e2:i+1=b.length:=by omega
    refine ⟨.p ((bareL b).length<=(bareL b).length),?_,Nat.le_refl _⟩
    rw [hf,h,<- e2,hz1,List.take_length]
    rfl
end
section
abbrev aN:Arg Int:=kInt.arg.such sizeB
def take1F_T (f0:List UInt8->Int->List UInt8 × Bool × Bool × Int) (f1:List UInt8->Fp × Int) (f2:Fp->Fp × Bool) (f3:Fp->Fp->Fp) (f4:Fp->Fp->Fp) (f5:UInt64->Fp) (f6:Pg1->Pg1) (f7:Pg1->Bool) (b:List UInt8):Tree (Option ((Pg1 × Int) × Pr)):=letI za':=f1 (List.take (f0 (List.take b.length (List.drop 0 b)) 48).fst.length (List.drop 0 (f0 (List.take b.length (List.drop 0 b)) 48).fst));letI zb':Fp := { l0:=UInt64.ofNat 0,l1:=UInt64.ofNat 0,l2:=UInt64.ofNat 0,l3:=UInt64.ofNat 0,l4:=UInt64.ofNat 0,l5:=UInt64.ofNat 0 };letI zc':=f2 (f3 (f4 (f4 za'.fst za'.fst) za'.fst) (f5 (UInt64.ofNat 4)));letI zd':=f0 (List.take b.length (List.drop 0 b)) 48;letI ze':=zd'.snd.snd.fst;letI zf':=fpEq (zc'.fst) (zb');
 (.vc (((0+b.length<=b.length/\b.length<1125899906842624/\0=0/\1=1)/\littleB (List.take b.length (List.drop 0 b)))/\sizeB 48) (.br (zd'.snd.snd.snd != 0) (.leaf (some ((({ x:=zb',y:=zb',inf:=false },zd'.snd.snd.snd),.t)))) (.br (zd'.snd.fst) (.leaf (some ((({ x:=zb',y:=zb',inf:=true },0),.t)))) (.vc ((0+zd'.fst.length<=zd'.fst.length/\zd'.fst.length<1125899906842624/\0=0/\1=1)/\littleB (List.take zd'.fst.length (List.drop 0 zd'.fst))) (.br (za'.snd != 0) (.leaf (some ((({ x:=zb',y:=zb',inf:=false },za'.snd),.t)))) (.br ze' (.br (!(zc'.snd)) (.leaf (some ((({ x:=zb',y:=zb',inf:=false },5),.t)))) (.br ze' (.br zf' (.leaf (some ((({ x:=zb',y:=zb',inf:=false },3),.t)))) (.br (!(f7 (f6 { x:=za'.fst,y:=zc'.fst,inf:=false }))) (.leaf (some ((({ x:=zb',y:=zb',inf:=false },6),.t)))) (.leaf (some (((f6 { x:=za'.fst,y:=zc'.fst,inf:=false },0),.t)))))) (.br (!(f7 (f6 { x:=za'.fst,y:=zc'.fst,inf:=false }))) (.leaf (some ((({ x:=zb',y:=zb',inf:=false },6),.t)))) (.leaf (some (((f6 { x:=za'.fst,y:=zc'.fst,inf:=false },0),.t))))))) (.br (!(zc'.snd)) (.leaf (some ((({ x:=zb',y:=zb',inf:=false },5),.t)))) (.br ze' (.br zf' (.leaf (some ((({ x:=zb',y:=zb',inf:=false },3),.t)))) (.br (!(f7 { x:=za'.fst,y:=zc'.fst,inf:=false })) (.leaf (some ((({ x:=zb',y:=zb',inf:=false },6),.t)))) (.leaf (some ((({ x:=za'.fst,y:=zc'.fst,inf:=false },0),.t)))))) (.br (!(f7 { x:=za'.fst,y:=zc'.fst,inf:=false })) (.leaf (some ((({ x:=zb',y:=zb',inf:=false },6),.t)))) (.leaf (some ((({ x:=za'.fst,y:=zc'.fst,inf:=false },0),.t)))))))))))))
theorem take1F_run (f0:List UInt8->Int->List UInt8 × Bool × Bool × Int) (f1:List UInt8->Fp × Int) (f2:Fp->Fp × Bool) (f3:Fp->Fp->Fp) (f4:Fp->Fp->Fp) (f5:UInt64->Fp) (f6:Pg1->Pg1) (f7:Pg1->Bool) (b:List UInt8):endT (Ens [(87,K2 aBs aN oB4.res f0),(88,Kftake f1),(89,Ksqrt f2),(90,Kff f3),(91,Kff f4),(92,Kof f5),(35,K1 (kRow Pg1).arg (kRow Pg1).rs.res f6),(61,K1 (kRow Pg1).arg kBool.rs.res f7)] [87]) ((kRow Pg1).rs2 kInt).out 300 Tryz.f47 (flat (codeOf Tryz.f47)) (startSt Tryz.f47 [iBs.av 0 b] [inHE eU8 b])=take1F_T f0 f1 f2 f3 f4 f5 f6 f7 b:=by kernel_rfl
def take1F (b:List UInt8):Pg1 × Int:=(take1F_T bareF ftakeF sqrtF addF mulF ofF negG1 inG1 b).outD (pg10,0)
theorem take1F_ok' (h : ∀ (b:List UInt8),iBs.fact b->(take1F_T bareF ftakeF sqrtF addF mulF ofF negG1 inG1 b).full=true/\(take1F_T bareF ftakeF sqrtF addF mulF ofF negG1 inG1 b).okAll):CallOk Tryz.prog 47 (K1 aBs ((kRow Pg1).rs2 kInt).out.res take1F) :=
 Go.Proofs.YtcbplfkeeaecgaaGreat.G1 (E:=Ens [(87,K2 aBs aN oB4.res bareF),(88,Kftake ftakeF),(89,Ksqrt sqrtF),(90,Kff addF),(91,Kff mulF),(92,Kof ofF),(35,K1 (kRow Pg1).arg (kRow Pg1).rs.res negG1),(61,K1 (kRow Pg1).arg kBool.rs.res inG1)] [87]) Tryz.func47 (c:=codeOf Tryz.f47) (by kernel_rfl) (bodied Tryz.func47 (by kernel_rfl) (by kernel_rfl)) iBs ((kRow Pg1).rs2 kInt).out take1F fun b hb=>DoesL.outs (Ens_ok (.cons bare_ok (.cons ftake_ok (.cons sqrt_ok (.cons add_ok (.cons mul_ok (.cons of_ok (.cons negG1_ok (.cons inG1_ok .nil))))))))) 300 (pg10,0) (take1F_run bareF ftakeF sqrtF addF mulF ofF negG1 inG1 b) (h b hb).1 (h b hb).2
def take2F_T (f0:List UInt8->Int->List UInt8 × Bool × Bool × Int) (f1:List UInt8->Fp × Int) (f2:Fp2->Fp2 × Bool) (f3:Fp2->Fp2->Fp2) (f4:Fp2->Fp2->Fp2) (f5:Pg2->Pg2) (f6:Pg2->Bool) (b:List UInt8):Tree (Option ((Pg2 × Int) × Pr)):=letI za':Fp := { l0:=UInt64.ofNat 0,l1:=UInt64.ofNat 0,l2:=UInt64.ofNat 0,l3:=UInt64.ofNat 0,l4:=UInt64.ofNat 0,l5:=UInt64.ofNat 0 };letI zb':=f0 (List.take b.length (List.drop 0 b)) 96;letI zc':Fp := { l0:=UInt64.ofNat 4,l1:=UInt64.ofNat 0,l2:=UInt64.ofNat 0,l3:=UInt64.ofNat 0,l4:=UInt64.ofNat 0,l5:=UInt64.ofNat 0 };letI zd':=f1 (List.take (zb'.fst.length-48) (List.drop 48 zb'.fst));letI ze':=f1 (List.take 48 (List.drop 0 zb'.fst));letI zf':=zb'.snd.snd.fst;letI zg':=List.map EK.u8.cell zb'.fst;letI zh':=zb'.fst.length-48;
 (.vc (((0+b.length<=b.length/\b.length<1125899906842624/\0=0/\1=1)/\littleB (List.take b.length (List.drop 0 b)))/\sizeB 96) (.br (zb'.snd.snd.snd != 0) (.leaf (some ((({ x := { c0:=za',c1:=za' },y := { c0:=za',c1:=za' },inf:=false },zb'.snd.snd.snd),.t)))) (.br (zb'.snd.fst) (.leaf (some ((({ x := { c0:=za',c1:=za' },y := { c0:=za',c1:=za' },inf:=true },0),.t)))) (.vc (0<=48/\48<=zb'.fst.length/\0+zb'.fst.length*1<=zg'.length/\0<1/\(0=0 \/ 0<48)/\0=0/\1=1) (.vc ((48<=zb'.fst.length/\48<1125899906842624/\0=0/\1=1)/\littleB (List.take 48 (List.drop 0 zb'.fst))) (.br (ze'.snd != 0) (.leaf (some ((({ x := { c0:=za',c1:=za' },y := { c0:=za',c1:=za' },inf:=false },ze'.snd),.t)))) (.vc (48<=zb'.fst.length/\zb'.fst.length<=zb'.fst.length/\0+zb'.fst.length*1<=zg'.length/\0<1/\(48=0 \/ 48<zb'.fst.length)/\0=0/\1=1) (.vc ((48+zh'<=zb'.fst.length/\zb'.fst.length-48<1125899906842624/\48=48/\1=1)/\littleB (List.take zh' (List.drop 48 zb'.fst))) (.br (zd'.snd != 0) (.leaf (some ((({ x := { c0:=za',c1:=za' },y := { c0:=za',c1:=za' },inf:=false },zd'.snd),.t)))) (.br zf' (.br (!((f2 (f3 (f4 (f4 { c0:=zd'.fst,c1:=ze'.fst } { c0:=zd'.fst,c1:=ze'.fst }) { c0:=zd'.fst,c1:=ze'.fst }) { c0:=zc',c1:=zc' })).snd)) (.leaf (some ((({ x := { c0:=za',c1:=za' },y := { c0:=za',c1:=za' },inf:=false },5),.t)))) (.br zf' (.br (fp2Eq ((f2 (f3 (f4 (f4 { c0:=zd'.fst,c1:=ze'.fst } { c0:=zd'.fst,c1:=ze'.fst }) { c0:=zd'.fst,c1:=ze'.fst }) { c0:=zc',c1:=zc' })).fst) ({ c0:=za',c1:=za' })) (.leaf (some ((({ x := { c0:=za',c1:=za' },y := { c0:=za',c1:=za' },inf:=false },3),.t)))) (.br (!(f6 (f5 { x := { c0:=zd'.fst,c1:=ze'.fst },y:=(f2 (f3 (f4 (f4 { c0:=zd'.fst,c1:=ze'.fst } { c0:=zd'.fst,c1:=ze'.fst }) { c0:=zd'.fst,c1:=ze'.fst }) { c0:=zc',c1:=zc' })).fst,inf:=false }))) (.leaf (some ((({ x := { c0:=za',c1:=za' },y := { c0:=za',c1:=za' },inf:=false },6),.t)))) (.leaf (some (((f5 { x := { c0:=zd'.fst,c1:=ze'.fst },y:=(f2 (f3 (f4 (f4 { c0:=zd'.fst,c1:=ze'.fst } { c0:=zd'.fst,c1:=ze'.fst }) { c0:=zd'.fst,c1:=ze'.fst }) { c0:=zc',c1:=zc' })).fst,inf:=false },0),.t)))))) (.br (!(f6 (f5 { x := { c0:=zd'.fst,c1:=ze'.fst },y:=(f2 (f3 (f4 (f4 { c0:=zd'.fst,c1:=ze'.fst } { c0:=zd'.fst,c1:=ze'.fst }) { c0:=zd'.fst,c1:=ze'.fst }) { c0:=zc',c1:=zc' })).fst,inf:=false }))) (.leaf (some ((({ x := { c0:=za',c1:=za' },y := { c0:=za',c1:=za' },inf:=false },6),.t)))) (.leaf (some (((f5 { x := { c0:=zd'.fst,c1:=ze'.fst },y:=(f2 (f3 (f4 (f4 { c0:=zd'.fst,c1:=ze'.fst } { c0:=zd'.fst,c1:=ze'.fst }) { c0:=zd'.fst,c1:=ze'.fst }) { c0:=zc',c1:=zc' })).fst,inf:=false },0),.t))))))) (.br (!((f2 (f3 (f4 (f4 { c0:=zd'.fst,c1:=ze'.fst } { c0:=zd'.fst,c1:=ze'.fst }) { c0:=zd'.fst,c1:=ze'.fst }) { c0:=zc',c1:=zc' })).snd)) (.leaf (some ((({ x := { c0:=za',c1:=za' },y := { c0:=za',c1:=za' },inf:=false },5),.t)))) (.br zf' (.br (fp2Eq ((f2 (f3 (f4 (f4 { c0:=zd'.fst,c1:=ze'.fst } { c0:=zd'.fst,c1:=ze'.fst }) { c0:=zd'.fst,c1:=ze'.fst }) { c0:=zc',c1:=zc' })).fst) ({ c0:=za',c1:=za' })) (.leaf (some ((({ x := { c0:=za',c1:=za' },y := { c0:=za',c1:=za' },inf:=false },3),.t)))) (.br (!(f6 { x := { c0:=zd'.fst,c1:=ze'.fst },y:=(f2 (f3 (f4 (f4 { c0:=zd'.fst,c1:=ze'.fst } { c0:=zd'.fst,c1:=ze'.fst }) { c0:=zd'.fst,c1:=ze'.fst }) { c0:=zc',c1:=zc' })).fst,inf:=false })) (.leaf (some ((({ x := { c0:=za',c1:=za' },y := { c0:=za',c1:=za' },inf:=false },6),.t)))) (.leaf (some ((({ x := { c0:=zd'.fst,c1:=ze'.fst },y:=(f2 (f3 (f4 (f4 { c0:=zd'.fst,c1:=ze'.fst } { c0:=zd'.fst,c1:=ze'.fst }) { c0:=zd'.fst,c1:=ze'.fst }) { c0:=zc',c1:=zc' })).fst,inf:=false },0),.t)))))) (.br (!(f6 { x := { c0:=zd'.fst,c1:=ze'.fst },y:=(f2 (f3 (f4 (f4 { c0:=zd'.fst,c1:=ze'.fst } { c0:=zd'.fst,c1:=ze'.fst }) { c0:=zd'.fst,c1:=ze'.fst }) { c0:=zc',c1:=zc' })).fst,inf:=false })) (.leaf (some ((({ x := { c0:=za',c1:=za' },y := { c0:=za',c1:=za' },inf:=false },6),.t)))) (.leaf (some ((({ x := { c0:=zd'.fst,c1:=ze'.fst },y:=(f2 (f3 (f4 (f4 { c0:=zd'.fst,c1:=ze'.fst } { c0:=zd'.fst,c1:=ze'.fst }) { c0:=zd'.fst,c1:=ze'.fst }) { c0:=zc',c1:=zc' })).fst,inf:=false },0),.t)))))))))))))))))
theorem take2F_run (f0:List UInt8->Int->List UInt8 × Bool × Bool × Int) (f1:List UInt8->Fp × Int) (f2:Fp2->Fp2 × Bool) (f3:Fp2->Fp2->Fp2) (f4:Fp2->Fp2->Fp2) (f5:Pg2->Pg2) (f6:Pg2->Bool) (b:List UInt8):endT (Ens [(87,K2 aBs aN oB4.res f0),(88,Kftake f1),(93,K1 (kRow Fp2).arg ((kRow Fp2).rs2 kBool).res f2),(94,K2 (kRow Fp2).arg (kRow Fp2).arg (kRow Fp2).rs.res f3),(95,K2 (kRow Fp2).arg (kRow Fp2).arg (kRow Fp2).rs.res f4),(96,K1 (kRow Pg2).arg (kRow Pg2).rs.res f5),(62,K1 (kRow Pg2).arg kBool.rs.res f6)] [87]) ((kRow Pg2).rs2 kInt).out 300 Tryz.f48 (flat (codeOf Tryz.f48)) (startSt Tryz.f48 [iBs.av 0 b] [inHE eU8 b])=take2F_T f0 f1 f2 f3 f4 f5 f6 b:=by kernel_rfl
def take2F (b:List UInt8):Pg2 × Int:=(take2F_T bareF ftakeF sqrtF2 addF2 mulF2 negG2 inG2 b).outD (pg20,0)
theorem take2F_ok' (h : ∀ (b:List UInt8),iBs.fact b->(take2F_T bareF ftakeF sqrtF2 addF2 mulF2 negG2 inG2 b).full=true/\(take2F_T bareF ftakeF sqrtF2 addF2 mulF2 negG2 inG2 b).okAll):CallOk Tryz.prog 48 (K1 aBs ((kRow Pg2).rs2 kInt).out.res take2F) :=
 Go.Proofs.YtcbplfkeeaecgaaGreat.G1 (E:=Ens [(87,K2 aBs aN oB4.res bareF),(88,Kftake ftakeF),(93,K1 (kRow Fp2).arg ((kRow Fp2).rs2 kBool).res sqrtF2),(94,K2 (kRow Fp2).arg (kRow Fp2).arg (kRow Fp2).rs.res addF2),(95,K2 (kRow Fp2).arg (kRow Fp2).arg (kRow Fp2).rs.res mulF2),(96,K1 (kRow Pg2).arg (kRow Pg2).rs.res negG2),(62,K1 (kRow Pg2).arg kBool.rs.res inG2)] [87]) Tryz.func48 (c:=codeOf Tryz.f48) (by kernel_rfl) (bodied Tryz.func48 (by kernel_rfl) (by kernel_rfl)) iBs ((kRow Pg2).rs2 kInt).out take2F fun b hb=>DoesL.outs (Ens_ok (.cons bare_ok (.cons ftake_ok (.cons sqrtF2_ok (.cons addF2_ok (.cons mulF2_ok (.cons negG2_ok (.cons inG2_ok .nil)))))))) 300 (pg20,0) (take2F_run bareF ftakeF sqrtF2 addF2 mulF2 negG2 inG2 b) (h b hb).1 (h b hb).2
end
section
abbrev okF (f:List UInt8->Int->List UInt8 × Bool × Bool × Int) (b:List UInt8) (n:Int):Prop:=(f b n).1.length<=b.length/\((f b n).2.2.2=0->(f b n).2.1=false->((f b n).1.length:Int)=n)
theorem int2 : ¬ ((2:Int)=0):=by decide
theorem int3 : ¬ ((3:Int)=0):=by decide
theorem int8 : ¬ ((8:Int)=0):=by decide
theorem bareG_ok (c1 c2 c3 c4 c5 c6:Bool) (l:List UInt8) {m:Nat} {n:Int} (hl:l.length<=m) (h:c1=false->c2=false->(l.length:Int)=n):(bareG c1 c2 c3 c4 c5 c6 l).1.length<=m/\((bareG c1 c2 c3 c4 c5 c6 l).2.2.2=0->(bareG c1 c2 c3 c4 c5 c6 l).2.1=false->((bareG c1 c2 c3 c4 c5 c6 l).1.length:Int)=n):=by
 cases c1 <;> cases c2 <;> cases c3 <;> cases c4 <;> cases c5 <;> cases c6 <;> first
  | exact ⟨hl,fun _ _=>h rfl rfl⟩
  | exact ⟨hl,fun _ h=>Bool.noConfusion h⟩
  | exact ⟨Nat.zero_le _,fun h=>absurd h int2⟩
  | exact ⟨Nat.zero_le _,fun h=>absurd h int3⟩
  | exact ⟨Nat.zero_le _,fun h=>absurd h int8⟩
theorem bare_okF (b:List UInt8) (n:Int):okF bareF b n :=
 bareG_ok _ _ _ _ _ _ (bareL b) (Nat.le_of_eq (bareL_len b)) fun h1 h2=>by
  have h1:=of_decide_eq_false h1
  have h2:=of_decide_eq_false h2
  have hl:=bareL_len b
  omega
theorem int_zero {n:Int} (h:(n != 0)=false):n=0:=by simpa using h
theorem size48:sizeB 48:=⟨by decide,by decide⟩
theorem size96:sizeB 96:=⟨by decide,by decide⟩
theorem takes_b {l:List UInt8} {s n:Nat} (h:n<16777216):littleB (List.take n (List.drop s l)):=by show (List.take n (List.drop s l)).length<_;rw [List.length_take];omega
theorem map_b (l:List UInt8):(List.map EK.u8.cell l).length=l.length:=u8_map l
theorem take1_all {f0:List UInt8->Int->List UInt8 × Bool × Bool × Int} {f1 f2 f3 f4 f5 f6 f7} (b:List UInt8) (hF:okF f0 b 48) (hb:b.length<16777216):(take1F_T f0 f1 f2 f3 f4 f5 f6 f7 b).full=true/\(take1F_T f0 f1 f2 f3 f4 f5 f6 f7 b).okAll:=by
 refine ⟨rfl,?_⟩
 obtain ⟨h1,h2⟩:=hF
 unfold take1F_T
 simp only [Tree.okAll,whole8,Pr.holds,implies_true,and_true,true_and]
 have h3:=Nat.lt_of_le_of_lt h1 hb
 refine ⟨⟨⟨?_,hb⟩,size48⟩,fun _ _=>⟨?_,h3⟩⟩ <;> omega
theorem take2_all {f0:List UInt8->Int->List UInt8 × Bool × Bool × Int} {f1 f2 f3 f4 f5 f6} (b:List UInt8) (hF:okF f0 b 96) (hb:b.length<16777216):(take2F_T f0 f1 f2 f3 f4 f5 f6 b).full=true/\(take2F_T f0 f1 f2 f3 f4 f5 f6 b).okAll:=by
 refine ⟨rfl,?_⟩
 obtain ⟨h1,h2⟩:=hF
 unfold take2F_T
 simp only [Tree.okAll,whole8,Pr.holds,implies_true,and_true,true_and]
 refine ⟨⟨⟨by omega,hb⟩,size96⟩,fun a1 a2 => ?_⟩
 have hl:(f0 b 96).1.length=96:=by have:=h2 (int_zero a1) a2;omega
 have hm:=map_b (f0 b 96).1
 refine ⟨?_,⟨?_,takes_b (by omega)⟩,fun _=>⟨?_,?_,takes_b (by omega)⟩⟩ <;> omega
theorem take1F_ok:CallOk Tryz.prog 47 (K1 aBs ((kRow Pg1).rs2 kInt).out.res take1F):=take1F_ok' fun b hb=>take1_all b (bare_okF b 48) hb.2
theorem take2F_ok:CallOk Tryz.prog 48 (K1 aBs ((kRow Pg2).rs2 kInt).out.res take2F):=take2F_ok' fun b hb=>take2_all b (bare_okF b 96) hb.2
end
section
def hdB (l:List UInt8) (t:UInt8):List UInt8:=l.set 0 (l.getD 0 0+t)
def inf1B:List UInt8:=hdB (List.replicate 48 0) 192
def inf2B:List UInt8:=hdB (List.replicate 96 0) 192
theorem put1F_val (a:Pg1):put1F a=cond a.inf inf1B (markF (fputF a.x) (false,greatF a.y,())):=by
 unfold put1F put1_T
 simp only [outD_br,outD_vc,outD_leaf]
 rw [show ∀ x,List.take (fputF a.x).length (markF (fputF a.x) x)=markF (fputF a.x) x from fun x=>List.take_of_length_le (Nat.le_of_eq (markF_len _ _))]
 rfl
theorem put2F_val (a:Pg2):put2F a=cond a.inf inf2B (markF (fputF a.x.c1++fputF a.x.c0) (false,greatF2 a.y,())):=by
 unfold put2F put2_T
 simp only [outD_br,outD_vc,outD_leaf,whole8]
 rw [<- List.length_append,show ∀ x,List.take (fputF a.x.c1++fputF a.x.c0).length (markF (fputF a.x.c1++fputF a.x.c0) x)=markF (fputF a.x.c1++fputF a.x.c0) x from fun x=>List.take_of_length_le (Nat.le_of_eq (markF_len _ _))]
 rfl
theorem rput1F_val (a:Pg1):rput1F a=cond a.inf inf1B (cond (greatPF a.y) (hdB (hdB (fputF a.x) 32) 128) (hdB (fputF a.x) 128)):=by
 unfold rput1F rput1_T
 simp only [outD_br,outD_vc,outD_leaf]
 cases a.inf <;> cases greatPF a.y <;> first
  | rfl
  | exact List.take_of_length_le (by simp only [List.length_set];exact Nat.le_refl _)
theorem rput2F_val (a:Pg2):rput2F a=cond a.inf inf2B (cond (great2R a.y) (hdB (hdB (fputF a.x.c1++fputF a.x.c0) 32) 128) (hdB (fputF a.x.c1++fputF a.x.c0) 128)):=by
 unfold rput2F rput2_T
 simp only [outD_br,outD_vc,outD_leaf,whole8]
 cases a.inf <;> cases great2R a.y <;> first
  | rfl
  | exact List.take_of_length_le (by simp only [List.length_set,List.length_append];exact Nat.le_refl _)
theorem put1F_len (a:Pg1):(put1F a).length=48:=by
 rw [put1F_val]
 cases a.inf
 ·exact (markF_len _ _).trans (fput_len' _)
 ·rfl
theorem put2F_len (a:Pg2):(put2F a).length=96:=by
 rw [put2F_val]
 cases a.inf
 ·exact (markF_len _ _).trans (by rw [List.length_append,fput_len',fput_len'])
 ·rfl
end
set_option maxRecDepth 100000
section
def slY (i c:Nat):AV := .one (.c (.slc i 0 c 1 (.of 0) false))
def ownY (l:List UInt8):HE := .live ⟨true,5,1,.elts .u8 l,false⟩
noncomputable abbrev puC:List Code:=flat (codeOf Tryz.f20)
noncomputable abbrev puE (f1:Pg1->List UInt8) (f2:Pg2->List UInt8):Env:=Ens [(51,K1 kg1.arg rB f1),(52,K1 kg2.arg rB f2)] [51,52]
def puS (p:List Pg1 × Pg2) (z:Int) (c:Nat) (l:List UInt8):St:=mkSt 33 [(1,ptrV 1),(3,slY 2 c),(17,rwV .g1 0 p.1),(18,vI (p.1.length:Int)),(19,vI z)] [rwHE .g1 p.1,ownPw 0 p,ownY l]
theorem pu_start (f1:Pg1->List UInt8) (f2:Pg2->List UInt8) (p:List Pg1 × Pg2):letI za':=0+p.fst.length*13<=(rowsC RK.g1 p.fst).length/\0<13;letI zb':=(↑p.fst.length:Int);stageG (puE f1 f2) 100 (puC.take 3) (startSt Tryz.f20 [pwV 0 p] [rwHE .g1 p.1]) [1,3,17,18,19] [0,1,2] [(1,.as),(3,.slc),(17,.as),(18,.as),(19,.int)] [.as,.as,.lst .u8] []=(.vc za' (.vc za' (.vc za' (.leaf (mkSt 33 [(1,.one (.c (.ptr 1 0))),(3,.one (.c (.slc 2 0 2 1 (.of 0) false))),(17,.one (.c (.slc 0 0 (p.fst.length) 13 (.of 0) false))),(18,.one (.c (.int .i64 (zb')))),(19,.one (.c (.int .i64 0)))] [.live ⟨false,0,13,(.rows .g1 (p.fst:List Pg1)),false⟩,.live ⟨true,35,0,(.row [(.slc 0 0 (p.fst.length) 13 (.of 0) false),(.u64 (p.snd.x.c0.l0)),(.u64 (p.snd.x.c0.l1)),(.u64 (p.snd.x.c0.l2)),(.u64 (p.snd.x.c0.l3)),(.u64 (p.snd.x.c0.l4)),(.u64 (p.snd.x.c0.l5)),(.u64 (p.snd.x.c1.l0)),(.u64 (p.snd.x.c1.l1)),(.u64 (p.snd.x.c1.l2)),(.u64 (p.snd.x.c1.l3)),(.u64 (p.snd.x.c1.l4)),(.u64 (p.snd.x.c1.l5)),(.u64 (p.snd.y.c0.l0)),(.u64 (p.snd.y.c0.l1)),(.u64 (p.snd.y.c0.l2)),(.u64 (p.snd.y.c0.l3)),(.u64 (p.snd.y.c0.l4)),(.u64 (p.snd.y.c0.l5)),(.u64 (p.snd.y.c1.l0)),(.u64 (p.snd.y.c1.l1)),(.u64 (p.snd.y.c1.l2)),(.u64 (p.snd.y.c1.l3)),(.u64 (p.snd.y.c1.l4)),(.u64 (p.snd.y.c1.l5)),(.bool (p.snd.inf))]),false⟩,.live ⟨true,5,1,(.elts .u8 ([UInt8.ofNat (shrI IntKind.i64 zb' 8 % 256).toNat,UInt8.ofNat (zb' % 256).toNat]:List UInt8)),false⟩]))))):=by kernel_rfl
theorem pu_round (f1:Pg1->List UInt8) (f2:Pg2->List UInt8) (p:List Pg1 × Pg2) (z:Int) (c:Nat) (l:List UInt8):letI za':=f1 (p.fst.getD (0+z.toNat) pg10);letI zb':=(↑p.fst.length:Int);letI zc':=p.fst.length;roundP (puE f1 f2) 300 (loopAt Tryz.f20 0) (puS p z c l) (following [1,3,17,18,19] [0,1] [3])=(.br (decide (z<zb')) (.vc ((0<=z/\z<zb')/\0+p.fst.length*13<=(rowsC RK.g1 p.fst).length/\0<13/\0=0) (.vc (0+z.toNat<p.fst.length) (.vc ((0+c<=l.length/\0+za'.length<=za'.length)/\c+za'.length<=9223372036854775807/\(c+za'.length)*1<=140737488355328) (.leaf ((.normal,mkSt 33 [(1,.one (.c (.ptr 1 0))),(3,.one (.c (.slc 2 0 (c+za'.length) 1 (.of 0) false))),(17,.one (.c (.slc 0 0 zc' 13 (.of 0) false))),(18,.one (.c (.int .i64 (zb')))),(19,.one (.c (.int .i64 (IntKind.i64.wrap (z+1)))))] [.live ⟨false,0,13,(.rows .g1 (p.fst:List Pg1)),false⟩,.live ⟨true,35,0,(.row [(.slc 0 0 zc' 13 (.of 0) false),(.u64 (p.snd.x.c0.l0)),(.u64 (p.snd.x.c0.l1)),(.u64 (p.snd.x.c0.l2)),(.u64 (p.snd.x.c0.l3)),(.u64 (p.snd.x.c0.l4)),(.u64 (p.snd.x.c0.l5)),(.u64 (p.snd.x.c1.l0)),(.u64 (p.snd.x.c1.l1)),(.u64 (p.snd.x.c1.l2)),(.u64 (p.snd.x.c1.l3)),(.u64 (p.snd.x.c1.l4)),(.u64 (p.snd.x.c1.l5)),(.u64 (p.snd.y.c0.l0)),(.u64 (p.snd.y.c0.l1)),(.u64 (p.snd.y.c0.l2)),(.u64 (p.snd.y.c0.l3)),(.u64 (p.snd.y.c0.l4)),(.u64 (p.snd.y.c0.l5)),(.u64 (p.snd.y.c1.l0)),(.u64 (p.snd.y.c1.l1)),(.u64 (p.snd.y.c1.l2)),(.u64 (p.snd.y.c1.l3)),(.u64 (p.snd.y.c1.l4)),(.u64 (p.snd.y.c1.l5)),(.bool (p.snd.inf))]),false⟩,.live ⟨true,5,1,(.elts .u8 (List.take c (List.drop 0 l)++List.take za'.length (List.drop 0 za'):List UInt8)),false⟩])))))) (.leaf ((.exit 0,mkSt 33 [(1,.one (.c (.ptr 1 0))),(3,.one (.c (.slc 2 0 (c) 1 (.of 0) false))),(17,.one (.c (.slc 0 0 zc' 13 (.of 0) false))),(18,.one (.c (.int .i64 (zb')))),(19,.one (.c (.int .i64 (z))))] [.live ⟨false,0,13,(.rows .g1 (p.fst:List Pg1)),false⟩,.live ⟨true,35,0,(.row [(.slc 0 0 zc' 13 (.of 0) false),(.u64 (p.snd.x.c0.l0)),(.u64 (p.snd.x.c0.l1)),(.u64 (p.snd.x.c0.l2)),(.u64 (p.snd.x.c0.l3)),(.u64 (p.snd.x.c0.l4)),(.u64 (p.snd.x.c0.l5)),(.u64 (p.snd.x.c1.l0)),(.u64 (p.snd.x.c1.l1)),(.u64 (p.snd.x.c1.l2)),(.u64 (p.snd.x.c1.l3)),(.u64 (p.snd.x.c1.l4)),(.u64 (p.snd.x.c1.l5)),(.u64 (p.snd.y.c0.l0)),(.u64 (p.snd.y.c0.l1)),(.u64 (p.snd.y.c0.l2)),(.u64 (p.snd.y.c0.l3)),(.u64 (p.snd.y.c0.l4)),(.u64 (p.snd.y.c0.l5)),(.u64 (p.snd.y.c1.l0)),(.u64 (p.snd.y.c1.l1)),(.u64 (p.snd.y.c1.l2)),(.u64 (p.snd.y.c1.l3)),(.u64 (p.snd.y.c1.l4)),(.u64 (p.snd.y.c1.l5)),(.bool (p.snd.inf))]),false⟩,.live ⟨true,5,1,(.elts .u8 (l:List UInt8)),false⟩])))):=by kernel_rfl
theorem pu_end (f1:Pg1->List UInt8) (f2:Pg2->List UInt8) (p:List Pg1 × Pg2) (z:Int) (c:Nat) (l:List UInt8):letI za':=List.drop 0 (f2 p.snd);letI zb':=c+(f2 p.snd).length;endT (puE f1 f2) oBl 100 Tryz.f20 (puC.drop 4) (puS p z c l)=(.vc ((0+c<=l.length/\0+(f2 p.snd).length<=(f2 p.snd).length)/\c+(f2 p.snd).length<=9223372036854775807/\zb'*1<=140737488355328) (.leaf (some ((List.take zb' (List.take c (List.drop 0 l)++List.take (f2 p.snd).length za'),(.p (c+(f2 p.snd).length<=(List.take c (List.drop 0 l)++List.take (f2 p.snd).length za').length))))))):=by kernel_rfl
noncomputable abbrev byC:List Code:=flat (codeOf Tryz.f19)
noncomputable abbrev byE (f1:Pg1->List UInt8) (f2:Pg2->List UInt8):Env:=Ens [(49,K1 kg1.arg rB f1),(50,K1 kg2.arg rB f2)] [49,50]
def byS (p:List Pg1 × Pg2) (z:Int) (c:Nat) (l:List UInt8):St:=mkSt 35 [(1,ptrV 1),(3,slY 2 c),(4,vI z)] [rwHE .g1 p.1,ownPw 0 p,ownY l]
theorem by_start (f1:Pg1->List UInt8) (f2:Pg2->List UInt8) (p:List Pg1 × Pg2):letI za':=0+p.fst.length*13<=(rowsC RK.g1 p.fst).length/\0<13;letI zb':=(↑p.fst.length:Int);stageG (byE f1 f2) 100 (byC.take 3) (startSt Tryz.f19 [pwV 0 p] [rwHE .g1 p.1]) [1,3,4] [0,1,2] [(1,.as),(3,.slc),(4,.int)] [.as,.as,.lst .u8] []=(.vc za' (.vc za' (.leaf (mkSt 35 [(1,.one (.c (.ptr 1 0))),(3,.one (.c (.slc 2 0 2 1 (.of 0) false))),(4,.one (.c (.int .i64 0)))] [.live ⟨false,0,13,(.rows .g1 (p.fst:List Pg1)),false⟩,.live ⟨true,35,0,(.row [(.slc 0 0 (p.fst.length) 13 (.of 0) false),(.u64 (p.snd.x.c0.l0)),(.u64 (p.snd.x.c0.l1)),(.u64 (p.snd.x.c0.l2)),(.u64 (p.snd.x.c0.l3)),(.u64 (p.snd.x.c0.l4)),(.u64 (p.snd.x.c0.l5)),(.u64 (p.snd.x.c1.l0)),(.u64 (p.snd.x.c1.l1)),(.u64 (p.snd.x.c1.l2)),(.u64 (p.snd.x.c1.l3)),(.u64 (p.snd.x.c1.l4)),(.u64 (p.snd.x.c1.l5)),(.u64 (p.snd.y.c0.l0)),(.u64 (p.snd.y.c0.l1)),(.u64 (p.snd.y.c0.l2)),(.u64 (p.snd.y.c0.l3)),(.u64 (p.snd.y.c0.l4)),(.u64 (p.snd.y.c0.l5)),(.u64 (p.snd.y.c1.l0)),(.u64 (p.snd.y.c1.l1)),(.u64 (p.snd.y.c1.l2)),(.u64 (p.snd.y.c1.l3)),(.u64 (p.snd.y.c1.l4)),(.u64 (p.snd.y.c1.l5)),(.bool (p.snd.inf))]),false⟩,.live ⟨true,5,1,(.elts .u8 ([UInt8.ofNat (IntKind.i64.wrap (zb'.tdiv 256) % 256).toNat,UInt8.ofNat (zb' % 256).toNat]:List UInt8)),false⟩])))):=by kernel_rfl
theorem by_round (f1:Pg1->List UInt8) (f2:Pg2->List UInt8) (p:List Pg1 × Pg2) (z:Int) (c:Nat) (l:List UInt8):letI za':=f1 (p.fst.getD (0+z.toNat) pg10);letI zb':=(↑p.fst.length:Int);roundP (byE f1 f2) 300 (loopAt Tryz.f19 0) (byS p z c l) (following [1,3,4] [0,1] [3])=(.vc (0+p.fst.length*13<=(rowsC RK.g1 p.fst).length/\0<13) (.br (decide (z<zb')) (.vc ((0<=z/\z<zb')/\0+p.fst.length*13<=(rowsC RK.g1 p.fst).length/\0<13/\0=0) (.vc (0+z.toNat<p.fst.length) (.vc ((0+c<=l.length/\0+za'.length<=za'.length)/\c+za'.length<=9223372036854775807/\(c+za'.length)*1<=140737488355328) (.leaf ((.normal,mkSt 35 [(1,.one (.c (.ptr 1 0))),(3,.one (.c (.slc 2 0 (c+za'.length) 1 (.of 0) false))),(4,.one (.c (.int .i64 (IntKind.i64.wrap (z+1)))))] [.live ⟨false,0,13,(.rows .g1 (p.fst:List Pg1)),false⟩,.live ⟨true,35,0,(.row [(.slc 0 0 (p.fst.length) 13 (.of 0) false),(.u64 (p.snd.x.c0.l0)),(.u64 (p.snd.x.c0.l1)),(.u64 (p.snd.x.c0.l2)),(.u64 (p.snd.x.c0.l3)),(.u64 (p.snd.x.c0.l4)),(.u64 (p.snd.x.c0.l5)),(.u64 (p.snd.x.c1.l0)),(.u64 (p.snd.x.c1.l1)),(.u64 (p.snd.x.c1.l2)),(.u64 (p.snd.x.c1.l3)),(.u64 (p.snd.x.c1.l4)),(.u64 (p.snd.x.c1.l5)),(.u64 (p.snd.y.c0.l0)),(.u64 (p.snd.y.c0.l1)),(.u64 (p.snd.y.c0.l2)),(.u64 (p.snd.y.c0.l3)),(.u64 (p.snd.y.c0.l4)),(.u64 (p.snd.y.c0.l5)),(.u64 (p.snd.y.c1.l0)),(.u64 (p.snd.y.c1.l1)),(.u64 (p.snd.y.c1.l2)),(.u64 (p.snd.y.c1.l3)),(.u64 (p.snd.y.c1.l4)),(.u64 (p.snd.y.c1.l5)),(.bool (p.snd.inf))]),false⟩,.live ⟨true,5,1,(.elts .u8 (List.take c (List.drop 0 l)++List.take za'.length (List.drop 0 za'):List UInt8)),false⟩])))))) (.leaf ((.exit 0,mkSt 35 [(1,.one (.c (.ptr 1 0))),(3,.one (.c (.slc 2 0 (c) 1 (.of 0) false))),(4,.one (.c (.int .i64 (z))))] [.live ⟨false,0,13,(.rows .g1 (p.fst:List Pg1)),false⟩,.live ⟨true,35,0,(.row [(.slc 0 0 (p.fst.length) 13 (.of 0) false),(.u64 (p.snd.x.c0.l0)),(.u64 (p.snd.x.c0.l1)),(.u64 (p.snd.x.c0.l2)),(.u64 (p.snd.x.c0.l3)),(.u64 (p.snd.x.c0.l4)),(.u64 (p.snd.x.c0.l5)),(.u64 (p.snd.x.c1.l0)),(.u64 (p.snd.x.c1.l1)),(.u64 (p.snd.x.c1.l2)),(.u64 (p.snd.x.c1.l3)),(.u64 (p.snd.x.c1.l4)),(.u64 (p.snd.x.c1.l5)),(.u64 (p.snd.y.c0.l0)),(.u64 (p.snd.y.c0.l1)),(.u64 (p.snd.y.c0.l2)),(.u64 (p.snd.y.c0.l3)),(.u64 (p.snd.y.c0.l4)),(.u64 (p.snd.y.c0.l5)),(.u64 (p.snd.y.c1.l0)),(.u64 (p.snd.y.c1.l1)),(.u64 (p.snd.y.c1.l2)),(.u64 (p.snd.y.c1.l3)),(.u64 (p.snd.y.c1.l4)),(.u64 (p.snd.y.c1.l5)),(.bool (p.snd.inf))]),false⟩,.live ⟨true,5,1,(.elts .u8 (l:List UInt8)),false⟩]))))):=by kernel_rfl
theorem by_end (f1:Pg1->List UInt8) (f2:Pg2->List UInt8) (p:List Pg1 × Pg2) (z:Int) (c:Nat) (l:List UInt8):letI za':=List.drop 0 (f2 p.snd);letI zb':=c+(f2 p.snd).length;endT (byE f1 f2) oBl 100 Tryz.f19 (byC.drop 4) (byS p z c l)=(.vc ((0+c<=l.length/\0+(f2 p.snd).length<=(f2 p.snd).length)/\c+(f2 p.snd).length<=9223372036854775807/\zb'*1<=140737488355328) (.leaf (some ((List.take zb' (List.take c (List.drop 0 l)++List.take (f2 p.snd).length za'),(.p (c+(f2 p.snd).length<=(List.take c (List.drop 0 l)++List.take (f2 p.snd).length za').length))))))):=by kernel_rfl
noncomputable abbrev tkC:List Code:=flat (codeOf Tryz.f18)
noncomputable abbrev tkE (t1:List UInt8->Pg1 × Int) (t2:List UInt8->Pg2 × Int) (cF:List Pg1 × Pg2->Int):Env:=En [(47,K1 aBs ((kRow Pg1).rs2 kInt).out.res t1),(48,K1 aBs ((kRow Pg2).rs2 kInt).out.res t2),(11,K1 aPow kInt.rs.res cF)]
def tkS (b:List UInt8) (n z:Int) (off len c:Nat) (l:List Pg1):St:=mkSt 93 [(2,ptrV 1),(3,vI 0),(6,ptrV 2),(7,.one (.c (.slc 0 off len 1 (.of off) false))),(53,vI n),(54,vI z)] [inHE eU8 b,own 35 powZ,own 35 (.slc 3 0 c 13 (.of 0) false :: (zeros 24 ++ [.ff])),.live ⟨true,46,13,.rows .g1 l,false⟩]
theorem tk_start (t1:List UInt8->Pg1 × Int) (t2:List UInt8->Pg2 × Int) (cF:List Pg1 × Pg2->Int) (b:List UInt8):letI za':Fp := { l0:=UInt64.ofNat 0,l1:=UInt64.ofNat 0,l2:=UInt64.ofNat 0,l3:=UInt64.ofNat 0,l4:=UInt64.ofNat 0,l5:=UInt64.ofNat 0 };letI zb':=(shlI IntKind.i64 (↑(b.getD 0 0).toNat:Int) 8);letI zc':=0+b.length*1<=(List.map EK.u8.cell b).length/\0<1;letI zd':=(IntKind.i64.wrap (2+IntKind.i64.wrap (bits BinOp.or IntKind.i64 zb' (↑(b.getD 1 0).toNat:Int)*48))+96);letI ze':=(↑(b.getD 1 0).toNat:Int);letI zf':=List.map EK.u8.cell b;letI zg':=(↑b.length:Int);segN (tkE t1 t2 cF) oMk 300 Tryz.f18 (tkC.take 9) (startSt Tryz.f18 [iBs.av 0 b] [inHE eU8 b]) [2,3,6,7,53,54] [0,1,2] [(2,.as),(3,.int),(6,.as),(7,.slc),(53,.as),(54,.int)] [] [] [(2,0,46,.rows .g1)]=(.vc zc' (.br (decide (zg'<2)) (.leaf (.inr (some (((([],{ x := { c0:=za',c1:=za' },y := { c0:=za',c1:=za' },inf:=false }),2),.t))))) (.vc (0<b.length/\0+b.length*1<=zf'.length/\0<1) (.vc (0<b.length) (.vc (1<b.length/\0+b.length*1<=zf'.length/\0<1) (.vc (1<b.length) (.br (decide (bits BinOp.or IntKind.i64 zb' ze'<2)) (.leaf (.inr (some (((([],{ x := { c0:=za',c1:=za' },y := { c0:=za',c1:=za' },inf:=false }),1),.t))))) (.br (decide (bits BinOp.or IntKind.i64 zb' ze' > 80)) (.leaf (.inr (some (((([],{ x := { c0:=za',c1:=za' },y := { c0:=za',c1:=za' },inf:=false }),1),.t))))) (.vc zc' (.br (decide (zg'<IntKind.i64.wrap zd')) (.leaf (.inr (some (((([],{ x := { c0:=za',c1:=za' },y := { c0:=za',c1:=za' },inf:=false }),2),.t))))) (.vc zc' (.br (decide (zg' > IntKind.i64.wrap zd')) (.leaf (.inr (some (((([],{ x := { c0:=za',c1:=za' },y := { c0:=za',c1:=za' },inf:=false }),8),.t))))) (.vc (2<=b.length/\b.length<=b.length/\0+b.length*1<=zf'.length/\0<1/\(2=0 \/ 2<b.length)/\0=0/\1=1) (.leaf (.inl (mkSt 93 [(2,.one (.c (.ptr 1 0))),(3,.one (.c (.int .i64 0))),(6,.one (.c (.ptr 2 0))),(7,.one (.c (.slc 0 2 (b.length-2) 1 (.of 2) false))),(53,.one (.c (.int .i64 (bits BinOp.or IntKind.i64 zb' ze')))),(54,.one (.c (.int .i64 0)))] [.live ⟨false,0,1,(.elts .u8 (b:List UInt8)),false⟩,.live ⟨true,35,0,(.row [.nils,(.lit .u64 0),(.lit .u64 0),(.lit .u64 0),(.lit .u64 0),(.lit .u64 0),(.lit .u64 0),(.lit .u64 0),(.lit .u64 0),(.lit .u64 0),(.lit .u64 0),(.lit .u64 0),(.lit .u64 0),(.lit .u64 0),(.lit .u64 0),(.lit .u64 0),(.lit .u64 0),(.lit .u64 0),(.lit .u64 0),(.lit .u64 0),(.lit .u64 0),(.lit .u64 0),(.lit .u64 0),(.lit .u64 0),(.lit .u64 0),.ff]),false⟩,.live ⟨true,35,0,(.row [(.slc 3 0 0 13 (.of 0) false),(.lit .u64 0),(.lit .u64 0),(.lit .u64 0),(.lit .u64 0),(.lit .u64 0),(.lit .u64 0),(.lit .u64 0),(.lit .u64 0),(.lit .u64 0),(.lit .u64 0),(.lit .u64 0),(.lit .u64 0),(.lit .u64 0),(.lit .u64 0),(.lit .u64 0),(.lit .u64 0),(.lit .u64 0),(.lit .u64 0),(.lit .u64 0),(.lit .u64 0),(.lit .u64 0),(.lit .u64 0),(.lit .u64 0),(.lit .u64 0),.ff]),false⟩,.live ⟨true,46,13,(.rows .g1 ([]:List Pg1)),false⟩])))))))))))))))):=by kernel_rfl
theorem tk_round (t1:List UInt8->Pg1 × Int) (t2:List UInt8->Pg2 × Int) (cF:List Pg1 × Pg2->Int) (b:List UInt8) (n z:Int) (off len c:Nat) (l:List Pg1):letI za':Fp := { l0:=UInt64.ofNat 0,l1:=UInt64.ofNat 0,l2:=UInt64.ofNat 0,l3:=UInt64.ofNat 0,l4:=UInt64.ofNat 0,l5:=UInt64.ofNat 0 };letI zb':=List.take 48 (List.drop (off+0) b);letI zc':=List.map EK.u8.cell b;iterP (tkE t1 t2 cF) oMk 300 Tryz.f18 [loopAt Tryz.f18 0] (tkS b n z off len c l) (followingB [2,3,6,7,53,54] [0,1,2] [] [2])=(.br (decide (z<n)) (.vc (0<=48/\48<=len/\off+len*1<=zc'.length/\0<1/\(0=0 \/ 0<48)/\off*1=off/\1=1) (.vc ((off+0+48<=b.length/\48<1125899906842624/\(off+0)*1=off+0/\1=1)/\littleB zb') (.br ((t1 zb').snd != 0) (.leaf (.inr (some (((([],{ x := { c0:=za',c1:=za' },y := { c0:=za',c1:=za' },inf:=false }),(t1 zb').snd),.t))))) (.vc ((0+c*13<=(rowsC RK.g1 l).length/\0=0)/\c+1<=9223372036854775807/\(c+1)*104<=140737488355328) (.vc (48<=len/\len<=len/\off+len*1<=zc'.length/\0<1/\(48=0 \/ 48<len)/\off*1=off/\1=1) (.leaf (.inl ((.normal,mkSt 93 [(2,.one (.c (.ptr 1 0))),(3,.one (.c (.int .i64 0))),(6,.one (.c (.ptr 2 0))),(7,.one (.c (.slc 0 (off+48) (len-48) 1 (.of (off+48)) false))),(53,.one (.c (.int .i64 (n)))),(54,.one (.c (.int .i64 (IntKind.i64.wrap (z+1)))))] [.live ⟨false,0,1,(.elts .u8 (b:List UInt8)),false⟩,.live ⟨true,35,0,(.row [.nils,(.lit .u64 0),(.lit .u64 0),(.lit .u64 0),(.lit .u64 0),(.lit .u64 0),(.lit .u64 0),(.lit .u64 0),(.lit .u64 0),(.lit .u64 0),(.lit .u64 0),(.lit .u64 0),(.lit .u64 0),(.lit .u64 0),(.lit .u64 0),(.lit .u64 0),(.lit .u64 0),(.lit .u64 0),(.lit .u64 0),(.lit .u64 0),(.lit .u64 0),(.lit .u64 0),(.lit .u64 0),(.lit .u64 0),(.lit .u64 0),.ff]),false⟩,.live ⟨true,35,0,(.row [(.slc 3 0 (c+1) 13 (.of 0) false),(.lit .u64 0),(.lit .u64 0),(.lit .u64 0),(.lit .u64 0),(.lit .u64 0),(.lit .u64 0),(.lit .u64 0),(.lit .u64 0),(.lit .u64 0),(.lit .u64 0),(.lit .u64 0),(.lit .u64 0),(.lit .u64 0),(.lit .u64 0),(.lit .u64 0),(.lit .u64 0),(.lit .u64 0),(.lit .u64 0),(.lit .u64 0),(.lit .u64 0),(.lit .u64 0),(.lit .u64 0),(.lit .u64 0),(.lit .u64 0),.ff]),false⟩,.live ⟨true,46,13,(.rows .g1 (List.take (mulNn c (13 / 13)) (List.drop 0 l) ++ [(t1 zb').fst]:List Pg1)),false⟩]))))))))) (.leaf (.inl ((.exit 1,mkSt 93 [(2,.one (.c (.ptr 1 0))),(3,.one (.c (.int .i64 0))),(6,.one (.c (.ptr 2 0))),(7,.one (.c (.slc 0 (off) (len) 1 (.of (off)) false))),(53,.one (.c (.int .i64 (n)))),(54,.one (.c (.int .i64 (z))))] [.live ⟨false,0,1,(.elts .u8 (b:List UInt8)),false⟩,.live ⟨true,35,0,(.row [.nils,(.lit .u64 0),(.lit .u64 0),(.lit .u64 0),(.lit .u64 0),(.lit .u64 0),(.lit .u64 0),(.lit .u64 0),(.lit .u64 0),(.lit .u64 0),(.lit .u64 0),(.lit .u64 0),(.lit .u64 0),(.lit .u64 0),(.lit .u64 0),(.lit .u64 0),(.lit .u64 0),(.lit .u64 0),(.lit .u64 0),(.lit .u64 0),(.lit .u64 0),(.lit .u64 0),(.lit .u64 0),(.lit .u64 0),(.lit .u64 0),.ff]),false⟩,.live ⟨true,35,0,(.row [(.slc 3 0 (c) 13 (.of 0) false),(.lit .u64 0),(.lit .u64 0),(.lit .u64 0),(.lit .u64 0),(.lit .u64 0),(.lit .u64 0),(.lit .u64 0),(.lit .u64 0),(.lit .u64 0),(.lit .u64 0),(.lit .u64 0),(.lit .u64 0),(.lit .u64 0),(.lit .u64 0),(.lit .u64 0),(.lit .u64 0),(.lit .u64 0),(.lit .u64 0),(.lit .u64 0),(.lit .u64 0),(.lit .u64 0),(.lit .u64 0),(.lit .u64 0),(.lit .u64 0),.ff]),false⟩,.live ⟨true,46,13,(.rows .g1 (l:List Pg1)),false⟩]))))):=by kernel_rfl
theorem tk_end (t1:List UInt8->Pg1 × Int) (t2:List UInt8->Pg2 × Int) (cF:List Pg1 × Pg2->Int) (b:List UInt8) (n z:Int) (off len c:Nat) (l:List Pg1):letI za':Fp := { l0:=UInt64.ofNat 0,l1:=UInt64.ofNat 0,l2:=UInt64.ofNat 0,l3:=UInt64.ofNat 0,l4:=UInt64.ofNat 0,l5:=UInt64.ofNat 0 };letI zb':=List.take len (List.drop off b);letI zc':=List.drop 0 l;endT (tkE t1 t2 cF) oMk 300 Tryz.f18 (tkC.drop 10) (tkS b n z off len c l)=(.vc ((off+len<=b.length/\len<1125899906842624/\off*1=off/\1=1)/\littleB zb') (.br ((t2 zb').snd != 0) (.leaf (some (((([],{ x := { c0:=za',c1:=za' },y := { c0:=za',c1:=za' },inf:=false }),(t2 zb').snd),.t)))) (.vc ((0+c*13<=(rowsC RK.g1 l).length/\0=0/\c<1125899906842624/\0=0/\13=13)/\fewP (List.take c zc',(t2 zb').fst)) (.br (cF (List.take c zc',(t2 zb').fst) != 0) (.leaf (some (((([],{ x := { c0:=za',c1:=za' },y := { c0:=za',c1:=za' },inf:=false }),cF (List.take c zc',(t2 zb').fst)),.t)))) (.leaf (some ((((List.take c l,(t2 zb').fst),0),(.p (c<=l.length)))))))))):=by kernel_rfl
end
set_option maxRecDepth 100000
section
theorem wholeT8 {xs:List UInt8} {c:Nat} (h:xs.length=c):List.take c (List.drop 0 xs)=xs:=by rw [List.drop_zero,<- h,List.take_length]
theorem flat_len {α:Type} {f:α->List UInt8} {k:Nat} (h : ∀ x,(f x).length=k) : ∀ l:List α,(l.flatMap f).length=l.length*k
 | []=>by rw [List.flatMap_nil,List.length_nil,List.length_nil,Nat.zero_mul]
 | x :: l=>by rw [List.flatMap_cons,List.length_append,h x,flat_len h l,List.length_cons,Nat.add_mul,Nat.one_mul,Nat.add_comm]
theorem take_snocD {α:Type} (l:List α) (d:α) {i:Nat} (h:i<l.length):l.take (i+1)=l.take i ++ [l.getD i d]:=by
 rw [List.take_succ_eq_append_getElem h,List.getD_eq_getElem?_getD,List.getElem?_eq_getElem h]
 rfl
def putH (p:List Pg1 × Pg2):List UInt8 := [UInt8.ofNat (shrI IntKind.i64 (p.1.length:Int) 8 % 256).toNat,UInt8.ofNat ((p.1.length:Int) % 256).toNat]
def bytH (p:List Pg1 × Pg2):List UInt8 := [UInt8.ofNat (IntKind.i64.wrap ((p.1.length:Int).tdiv 256) % 256).toNat,UInt8.ofNat ((p.1.length:Int) % 256).toNat]
def putG (f1:Pg1->List UInt8) (f2:Pg2->List UInt8) (p:List Pg1 × Pg2):List UInt8:=putH p++p.1.flatMap f1++f2 p.2
def bytG (f1:Pg1->List UInt8) (f2:Pg2->List UInt8) (p:List Pg1 × Pg2):List UInt8:=bytH p++p.1.flatMap f1++f2 p.2
section
variable {f1 : Pg1 -> List UInt8} {f2 : Pg2 -> List UInt8} (h1 : ∀ x, (f1 x).length = 48) (h2 : ∀ x, (f2 x).length = 96)
include h1 h2
theorem pu_does (hE:EnvOk (puE f1 f2)) (p:List Pg1 × Pg2) (hl:few p.1):DoesL (puE f1 f2) (flat (codeOf Tryz.f20)) (startSt Tryz.f20 [pwV 0 p] [rwHE .g1 p.1])
  (EndsAs (puE f1 f2) Tryz.f20 (Reads oBl (putG f1 f2 p))):=by
 have hl:p.1.length<4294967296:=hl
 refine DoesL.stageG hE 100 3 _ _ _ _ _ (pu_start f1 f2 p) ⟨vcLenG1 _,fun _=>⟨vcLenG1 _,fun _=>⟨vcLenG1 _,fun _ => ?_⟩⟩⟩
 refine (?_:DoesL _ _ (puS p ((0:Nat):Int) (2+0*48) (putH p++(p.1.take 0).flatMap f1)) _)
 refine DoesL.blockLoop (B:=loopAt Tryz.f20 0) (rest:=puC.drop 4) (id:=0) (by kernel_rfl) (fun i : { i:Nat // i<=p.1.length }=>puS p (i.1:Int) (2+i.1*48) (putH p++(p.1.take i.1).flatMap f1)) (fun i=>p.1.length-i.1) ⟨0,Nat.zero_le _⟩ fun i => ?_
 obtain ⟨i,hi⟩:=i
 refine (?_:Does _ _ (puS p (i:Int) (2+i*48) (putH p++(p.1.take i).flatMap f1)) _)
 have hc:(putH p++(p.1.take i).flatMap f1).length=2+i*48:=by
  rw [List.length_append,flat_len h1,List.length_take,Nat.min_eq_left hi]
  rfl
 refine Does.roundP hE 300 _ (pu_round f1 f2 p (i:Int) (2+i*48) (putH p++(p.1.take i).flatMap f1)) ⟨fun h => ?_,fun h => ?_⟩
 ·simp only [decide_eq_true_eq] at h
  have hi':i<p.1.length:=by omega
  have hx:=h1 (p.1.getD i pg10)
  rw [zeroN,wrapU i (by omega),whole8,wholeT8 hc,hx]
  refine ⟨vcIdxG1 hi',fun _=>⟨hi',fun _=>⟨⟨⟨by omega,by omega⟩,by omega,by omega⟩,fun _ => ?_⟩⟩⟩
  refine ⟨⟨i+1,hi'⟩,by show p.1.length-(i+1)<p.1.length-i;omega,?_⟩
  show _=puS p ((i+1:Nat):Int) (2+(i+1)*48) (putH p++(p.1.take (i+1)).flatMap f1)
  rw [take_snocD p.1 pg10 hi',List.flatMap_append,List.flatMap_cons,List.flatMap_nil,List.append_nil,<- List.append_assoc,show 2+(i+1)*48=2+i*48+48 by omega]
  rfl
 ·simp only [decide_eq_false_iff_not] at h
  obtain rfl:i=p.1.length:=by omega
  rw [List.take_length] at hc ⊢
  refine ⟨rfl,DoesL.ends hE 100 (pu_end f1 f2 p _ _ _) ?_⟩
  have hx:=h2 p.2
  rw [whole8,wholeT8 hc,hx]
  refine ⟨⟨⟨by omega,by omega⟩,by omega,by omega⟩,fun _ => ?_⟩
  have hz:(putH p++List.flatMap f1 p.1++f2 p.2).length=2+p.1.length*48+96:=by rw [List.length_append,hc,hx]
  exact reads_p (by rw [<- hz,List.take_length];rfl) (Nat.le_of_eq hz.symm)
theorem by_does (hE:EnvOk (byE f1 f2)) (p:List Pg1 × Pg2) (hl:few p.1):DoesL (byE f1 f2) (flat (codeOf Tryz.f19)) (startSt Tryz.f19 [pwV 0 p] [rwHE .g1 p.1])
  (EndsAs (byE f1 f2) Tryz.f19 (Reads oBl (bytG f1 f2 p))):=by
 have hl:p.1.length<4294967296:=hl
 refine DoesL.stageG hE 100 3 _ _ _ _ _ (by_start f1 f2 p) ⟨vcLenG1 _,fun _=>⟨vcLenG1 _,fun _ => ?_⟩⟩
 refine (?_:DoesL _ _ (byS p ((0:Nat):Int) (2+0*48) (bytH p++(p.1.take 0).flatMap f1)) _)
 refine DoesL.blockLoop (B:=loopAt Tryz.f19 0) (rest:=byC.drop 4) (id:=0) (by kernel_rfl) (fun i : { i:Nat // i<=p.1.length }=>byS p (i.1:Int) (2+i.1*48) (bytH p++(p.1.take i.1).flatMap f1)) (fun i=>p.1.length-i.1) ⟨0,Nat.zero_le _⟩ fun i => ?_
 obtain ⟨i,hi⟩:=i
 refine (?_:Does _ _ (byS p (i:Int) (2+i*48) (bytH p++(p.1.take i).flatMap f1)) _)
 have hc:(bytH p++(p.1.take i).flatMap f1).length=2+i*48:=by
  rw [List.length_append,flat_len h1,List.length_take,Nat.min_eq_left hi]
  rfl
 refine Does.roundP hE 300 _ (by_round f1 f2 p (i:Int) (2+i*48) (bytH p++(p.1.take i).flatMap f1)) ⟨vcLenG1 _,fun _=>⟨fun h => ?_,fun h => ?_⟩⟩
 ·simp only [decide_eq_true_eq] at h
  have hi':i<p.1.length:=by omega
  have hx:=h1 (p.1.getD i pg10)
  rw [zeroN,wrapU i (by omega),whole8,wholeT8 hc,hx]
  refine ⟨vcIdxG1 hi',fun _=>⟨hi',fun _=>⟨⟨⟨by omega,by omega⟩,by omega,by omega⟩,fun _ => ?_⟩⟩⟩
  refine ⟨⟨i+1,hi'⟩,by show p.1.length-(i+1)<p.1.length-i;omega,?_⟩
  show _=byS p ((i+1:Nat):Int) (2+(i+1)*48) (bytH p++(p.1.take (i+1)).flatMap f1)
  rw [take_snocD p.1 pg10 hi',List.flatMap_append,List.flatMap_cons,List.flatMap_nil,List.append_nil,<- List.append_assoc,show 2+(i+1)*48=2+i*48+48 by omega]
  rfl
 ·simp only [decide_eq_false_iff_not] at h
  obtain rfl:i=p.1.length:=by omega
  rw [List.take_length] at hc ⊢
  refine ⟨rfl,DoesL.ends hE 100 (by_end f1 f2 p _ _ _) ?_⟩
  have hx:=h2 p.2
  rw [whole8,wholeT8 hc,hx]
  refine ⟨⟨⟨by omega,by omega⟩,by omega,by omega⟩,fun _ => ?_⟩
  have hz:(bytH p++List.flatMap f1 p.1++f2 p.2).length=2+p.1.length*48+96:=by rw [List.length_append,hc,hx]
  exact reads_p (by rw [<- hz,List.take_length];rfl) (Nat.le_of_eq hz.symm)
end
theorem hdB_len' (l:List UInt8) (c:UInt8):(hdB l c).length=l.length:=by
 unfold hdB
 rw [List.length_set]
theorem rput1F_len (a:Pg1):(rput1F a).length=48:=by
 rw [rput1F_val]
 cases a.inf
 ·cases greatPF a.y
  ·exact (hdB_len' _ _).trans (fput_len' _)
  ·exact (hdB_len' _ _).trans ((hdB_len' _ _).trans (fput_len' _))
 ·rfl
theorem rput2F_len (a:Pg2):(rput2F a).length=96:=by
 rw [rput2F_val]
 have h:(fputF a.x.c1++fputF a.x.c0).length=96:=by rw [List.length_append,fput_len',fput_len']
 cases a.inf
 ·cases great2R a.y
  ·exact (hdB_len' _ _).trans h
  ·exact (hdB_len' _ _).trans ((hdB_len' _ _).trans h)
 ·rfl
def putS (p:List Pg1 × Pg2):List UInt8:=putG put1F put2F p
def bytS (p:List Pg1 × Pg2):List UInt8:=bytG rput1F rput2F p
theorem putS_ok:CallOk Tryz.prog 20 (K1 aPow rB putS) :=
 G1 (E:=puE put1F put2F) Tryz.func20 (c:=codeOf Tryz.f20) (by kernel_rfl) (bodied Tryz.func20 (by kernel_rfl) (by kernel_rfl)) iPow oBl putS fun p hp =>
  pu_does put1F_len put2F_len (Ens_ok (.cons put1_ok (.cons put2_ok .nil))) p hp.2
theorem bytS_ok:CallOk Tryz.prog 19 (K1 aPow rB bytS) :=
 G1 (E:=byE rput1F rput2F) Tryz.func19 (c:=codeOf Tryz.f19) (by kernel_rfl) (bodied Tryz.func19 (by kernel_rfl) (by kernel_rfl)) iPow oBl bytS fun p hp =>
  by_does rput1F_len rput2F_len (Ens_ok (.cons rput1_ok (.cons rput2_ok .nil))) p hp.2
def tkN (b:List UInt8):Int:=bits BinOp.or IntKind.i64 (shlI IntKind.i64 ((b.getD 0 0).toNat:Int) 8) ((b.getD 1 0).toNat:Int)
def tkA (b:List UInt8):Int:=IntKind.i64.wrap (IntKind.i64.wrap (2+IntKind.i64.wrap (tkN b*48))+96)
def tkL (t1:List UInt8->Pg1 × Int) (b:List UInt8):Nat->Nat->List Pg1->Int × List Pg1
 | _,0,l=>(0,l)
 | off,n+1,l=>match (t1 (List.take 48 (List.drop off b))).2 != 0 with
  | true=>((t1 (List.take 48 (List.drop off b))).2,l)
  | false=>tkL t1 b (off+48) n (l ++ [(t1 (List.take 48 (List.drop off b))).1])
theorem tkL_zero (t1:List UInt8->Pg1 × Int) (b:List UInt8) (off:Nat) (l:List Pg1):tkL t1 b off 0 l=(0,l):=rfl
theorem tkL_succ (t1:List UInt8->Pg1 × Int) (b:List UInt8) (off n:Nat) (l:List Pg1):tkL t1 b off (n+1) l=match (t1 (List.take 48 (List.drop off b))).2 != 0 with
  | true=>((t1 (List.take 48 (List.drop off b))).2,l)
  | false=>tkL t1 b (off+48) n (l ++ [(t1 (List.take 48 (List.drop off b))).1]):=rfl
def tkT (t2:List UInt8->Pg2 × Int) (cF:List Pg1 × Pg2->Int) (r:List UInt8) (l:List Pg1):(List Pg1 × Pg2) × Int :=
 match (t2 r).2 != 0 with
 | true=>(([],pg20),(t2 r).2)
 | false=>match cF (l,(t2 r).1) != 0 with
  | true=>(([],pg20),cF (l,(t2 r).1))
  | false=>((l,(t2 r).1),0)
def tkG (t1:List UInt8->Pg1 × Int) (t2:List UInt8->Pg2 × Int) (cF:List Pg1 × Pg2->Int) (b:List UInt8):(List Pg1 × Pg2) × Int :=
 match decide ((b.length:Int)<2) with
 | true=>(([],pg20),2)
 | false=>match decide (tkN b<2) with
  | true=>(([],pg20),1)
  | false=>match decide (tkN b > 80) with
   | true=>(([],pg20),1)
   | false=>match decide ((b.length:Int)<tkA b) with
    | true=>(([],pg20),2)
    | false=>match decide ((b.length:Int) > tkA b) with
     | true=>(([],pg20),8)
     | false=>match (tkL t1 b 2 (tkN b).toNat []).1 != 0 with
      | true=>(([],pg20),(tkL t1 b 2 (tkN b).toNat []).1)
      | false=>tkT t2 cF (List.drop (2+(tkN b).toNat*48) b) (tkL t1 b 2 (tkN b).toNat []).2
theorem vcAtB {xs:List UInt8} {n:Nat} (h:n<xs.length):n<xs.length/\0+xs.length*1<=(List.map EK.u8.cell xs).length/\0<1:=⟨h,(vcLenB xs).1,by decide⟩
theorem tkN_nat (b:List UInt8):tkN b=(((b.getD 0 0).toNat*256+(b.getD 1 0).toNat:Nat):Int):=by
 have h : ∀ x y:UInt8,bits BinOp.or IntKind.i64 (shlI IntKind.i64 (x.toNat:Int) 8) (y.toNat:Int)=((x.toNat*256+y.toNat:Nat):Int):=by
  intro x y
  have hx:=x.toNat_lt
  have hy:=y.toNat_lt
  have e1:shlI IntKind.i64 (x.toNat:Int) 8=((x.toNat*256:Nat):Int):=by
   unfold shlI
   rw [show (2:Int) ^ (min (8:Int).toNat IntKind.i64.bits)=256 by decide,IntWalk.i64_in _ (by omega)]
   omega
  rw [e1]
  show IntKind.i64.wrap ((BitVec.ofInt 64 ((x.toNat*256:Nat):Int) ||| BitVec.ofInt 64 (y.toNat:Int)).toNat:Int)=_
  rw [ofInt_nat,ofInt_nat]
  have e2:(BitVec.ofNat 64 (x.toNat*256) ||| BitVec.ofNat 64 y.toNat).toNat=x.toNat*256+y.toNat:=by
   rw [BitVec.toNat_or,BitVec.toNat_ofNat,BitVec.toNat_ofNat,Nat.mod_eq_of_lt (by omega),Nat.mod_eq_of_lt (by omega)]
   rw [Nat.mul_comm,show 256=2 ^ 8 from rfl,Nat.two_pow_add_eq_or_of_lt (by omega)]
  rw [e2,IntWalk.i64_in _ (by omega)]
 exact h _ _
theorem tkN_pos (b:List UInt8):0<=tkN b:=by rw [tkN_nat];omega
section
variable {t1 : List UInt8 -> Pg1 × Int} {t2 : List UInt8 -> Pg2 × Int} {cF : List Pg1 × Pg2 -> Int}
abbrev TkQ (t1:List UInt8->Pg1 × Int) (b:List UInt8) (n:Nat):Type := { q:Nat × List Pg1 // q.1<=n/\q.2.length=q.1/\tkL t1 b (2+q.1*48) (n-q.1) q.2=tkL t1 b 2 n [] }
theorem tk_loop (hE:EnvOk (tkE t1 t2 cF)) (b:List UInt8) (n:Nat) (hn:n<=80) (hb:b.length=2+n*48+96) {x:(List Pg1 × Pg2) × Int} (hx:x=match (tkL t1 b 2 n []).1 != 0 with
   | true=>(([],pg20),(tkL t1 b 2 n []).1)
   | false=>tkT t2 cF (List.drop (2+n*48) b) (tkL t1 b 2 n []).2) :
  DoesL (tkE t1 t2 cF) (tkC.drop 9) (tkS b (n:Int) ((0:Nat):Int) (2+0*48) (b.length-2) 0 []) (EndsAs (tkE t1 t2 cF) Tryz.f18 (Reads oMk x)):=by
 refine (?_:DoesL _ _ (tkS b (n:Int) ((0:Nat):Int) (2+0*48) (b.length-(2+0*48)) 0 []) _)
 refine DoesL.blockLoopR (B:=loopAt Tryz.f18 0) (rest:=tkC.drop 10) (id:=1) (by kernel_rfl) (fun q:TkQ t1 b n=>tkS b (n:Int) (q.1.1:Int) (2+q.1.1*48) (b.length-(2+q.1.1*48)) q.1.1 q.1.2) (fun q=>n-q.1.1) ⟨(0,[]),Nat.zero_le _,rfl,rfl⟩ fun q => ?_
 obtain ⟨⟨i,l⟩,h0,h1,h2⟩:=q
 have h0:i<=n:=h0
 have h1:l.length=i:=h1
 have h2:tkL t1 b (2+i*48) (n-i) l=tkL t1 b 2 n []:=h2
 refine (?_:DoesL _ _ (tkS b (n:Int) (i:Int) (2+i*48) (b.length-(2+i*48)) i l) _)
 have rd:=tk_round t1 t2 cF b (n:Int) (i:Int) (2+i*48) (b.length-(2+i*48)) i l
 simp only [Nat.add_zero] at rd
 refine DoesL.iterP hE 300 _ rd ⟨fun h => ?_,fun h => ?_⟩
 ·simp only [decide_eq_true_eq] at h
  have hi:i<n:=by omega
  have hlen:(List.map EK.u8.cell b).length=b.length:=List.length_map _
  rw [wrapU i (by omega)]
  obtain ⟨m,hm⟩ : ∃ m,n-i=m+1:=⟨n-i-1,by omega⟩
  rw [hm,tkL_succ] at h2
  refine ⟨⟨by omega,by omega,by omega,by decide,.inl trivial,by omega,trivial⟩,fun _=>⟨⟨⟨by omega,by decide,by omega,trivial⟩,?_⟩,fun _=>⟨fun h3 => ?_,fun h3 => ?_⟩⟩⟩
  ·show (List.take 48 _).length<16777216
   rw [List.length_take]
   omega
  ·rw [h3] at h2
   have h2:((t1 (List.take 48 (List.drop (2+i*48) b))).2,l)=tkL t1 b 2 n []:=h2
   rw [<- h2] at hx
   refine ⟨.t,?_,trivial⟩
   rw [hx]
   show _=some ((match (t1 (List.take 48 (List.drop (2+i*48) b))).2 != 0 with | true=>(([],pg20),(t1 (List.take 48 (List.drop (2+i*48) b))).2) | false=>tkT t2 cF (List.drop (2+n*48) b) l),Pr.t)
   rw [h3]
   rfl
  ·rw [h3] at h2
   have h2:tkL t1 b (2+i*48+48) m (l ++ [(t1 (List.take 48 (List.drop (2+i*48) b))).1])=tkL t1 b 2 n []:=h2
   refine ⟨⟨⟨by rw [rowsC_g1,h1];omega,trivial⟩,by omega,by omega⟩,fun _=>⟨⟨by omega,by omega,by omega,by decide,.inr (by omega),by omega,trivial⟩,fun _ => ?_⟩⟩
   refine ⟨⟨(i+1,l ++ [(t1 (List.take 48 (List.drop (2+i*48) b))).1]),hi,?_,?_⟩,by show n-(i+1)<n-i;omega,?_⟩
   ·show (l ++ [_]).length=i+1
    rw [List.length_append,h1]
    rfl
   ·show tkL t1 b (2+(i+1)*48) (n-(i+1)) _=_
    rw [show 2+(i+1)*48=2+i*48+48 by omega,show n-(i+1)=m by omega]
    exact h2
   ·rw [wholeAppG1 h1]
    show _=tkS b (n:Int) ((i+1:Nat):Int) (2+(i+1)*48) (b.length-(2+(i+1)*48)) (i+1) (l ++ [(t1 (List.take 48 (List.drop (2+i*48) b))).1])
    rw [show 2+(i+1)*48=2+i*48+48 by omega,show b.length-(2+i*48+48)=b.length-(2+i*48)-48 by omega]
    rfl
 ·simp only [decide_eq_false_iff_not] at h
  obtain rfl:i=n:=by omega
  rw [Nat.sub_self,tkL_zero] at h2
  rw [<- h2] at hx
  have hx:x=tkT t2 cF (List.drop (2+i*48) b) l:=hx
  refine ⟨rfl,DoesL.ends hE 300 (tk_end t1 t2 cF b (i:Int) (i:Int) (2+i*48) (b.length-(2+i*48)) i l) ?_⟩
  have hr:List.take (b.length-(2+i*48)) (List.drop (2+i*48) b)=List.drop (2+i*48) b:=List.take_of_length_le (by rw [List.length_drop];exact Nat.le_refl _)
  have hl:List.take i (List.drop 0 l)=l:=by rw [List.drop_zero,<- h1,List.take_length]
  rw [hr,hl,hx]
  refine ⟨⟨⟨by omega,by omega,by omega,rfl⟩,by show (List.drop _ b).length<16777216;rw [List.length_drop];omega⟩,fun _=>⟨fun h3 => ?_,fun h3=>⟨⟨⟨by rw [rowsC_g1,h1];omega,rfl,by omega,rfl,rfl⟩,by show l.length<4294967296;omega⟩,fun _=>⟨fun h4 => ?_,fun h4 => ?_⟩⟩⟩⟩
  ·exact ⟨.t,by unfold tkT;rw [h3];rfl,trivial⟩
  ·exact ⟨.t,by unfold tkT;rw [h3,h4];rfl,trivial⟩
  ·exact reads_p (by unfold tkT;rw [h3,h4,<- h1,List.take_length]) (by omega)
end
theorem tk_does {t1:List UInt8->Pg1 × Int} {t2:List UInt8->Pg2 × Int} {cF:List Pg1 × Pg2->Int} (hE:EnvOk (tkE t1 t2 cF)) (b:List UInt8):DoesL (tkE t1 t2 cF) (flat (codeOf Tryz.f18)) (startSt Tryz.f18 [iBs.av 0 b] [inHE eU8 b])
  (EndsAs (tkE t1 t2 cF) Tryz.f18 (Reads oMk (tkG t1 t2 cF b))):=by
 have st:=tk_start t1 t2 cF b
 rw [show bits BinOp.or IntKind.i64 (shlI IntKind.i64 ((b.getD 0 0).toNat:Int) 8) ((b.getD 1 0).toNat:Int)=tkN b from rfl] at st
 refine DoesL.segN hE 300 9 _ _ _ _ _ _ st ⟨vcLenB b,fun _=>⟨fun h => ?_,fun h => ?_⟩⟩
 ·exact ⟨.t,by unfold tkG;rw [h];rfl,trivial⟩
 ·have h':=h
  simp only [decide_eq_false_iff_not] at h'
  refine ⟨vcAtB (by omega),fun _=>⟨by omega,fun _=>⟨vcAtB (by omega),fun _=>⟨by omega,fun _=>⟨fun h1 => ?_,fun h1=>⟨fun h2 => ?_,fun h2=>⟨vcLenB b,fun _=>⟨fun h3 => ?_,fun h3=>⟨vcLenB b,fun _=>⟨fun h4 => ?_,fun h4 => ?_⟩⟩⟩⟩⟩⟩⟩⟩⟩⟩
  ·exact ⟨.t,by unfold tkG;rw [h,h1];rfl,trivial⟩
  ·exact ⟨.t,by unfold tkG;rw [h,h1,h2];rfl,trivial⟩
  ·have h3:decide ((b.length:Int)<tkA b)=true:=h3
   exact ⟨.t,by unfold tkG;rw [h,h1,h2,h3];rfl,trivial⟩
  ·have h3:decide ((b.length:Int)<tkA b)=false:=h3
   have h4:decide ((b.length:Int) > tkA b)=true:=h4
   exact ⟨.t,by unfold tkG;rw [h,h1,h2,h3,h4];rfl,trivial⟩
  ·have h3:decide ((b.length:Int)<tkA b)=false:=h3
   have h4:decide ((b.length:Int) > tkA b)=false:=h4
   have hx:tkG t1 t2 cF b=match (tkL t1 b 2 (tkN b).toNat []).1 != 0 with
      | true=>(([],pg20),(tkL t1 b 2 (tkN b).toNat []).1)
      | false=>tkT t2 cF (List.drop (2+(tkN b).toNat*48) b) (tkL t1 b 2 (tkN b).toNat []).2:=by
    unfold tkG
    rw [h,h1,h2,h3,h4]
   simp only [decide_eq_false_iff_not] at h1 h2 h3 h4
   have hp:=tkN_pos b
   clear st
   obtain ⟨n,hN⟩ : ∃ n:Nat,tkN b=(n:Int):=⟨(tkN b).toNat,by omega⟩
   rw [hN] at h1 h2 hx ⊢
   rw [Int.toNat_natCast] at hx
   have hA:tkA b=((2+n*48+96:Nat):Int):=by
    unfold tkA
    rw [hN,IntWalk.i64_in ((n:Int)*48) (by omega),IntWalk.i64_in (2+(n:Int)*48) (by omega),IntWalk.i64_in _ (by omega)]
    omega
   rw [hA] at h3 h4
   have hlen:(List.map EK.u8.cell b).length=b.length:=List.length_map _
   refine ⟨⟨by omega,by omega,by omega,by decide,.inr (by omega),rfl,rfl⟩,fun _ => ?_⟩
   exact tk_loop hE b n (by omega) (by omega) hx
def takeS (b:List UInt8):(List Pg1 × Pg2) × Int:=tkG take1F take2F checkF b
theorem takeS_ok:CallOk Tryz.prog 18 (K1 aBs oMk.res takeS) :=
 G1 (E:=tkE take1F take2F checkF) Tryz.func18 (c:=codeOf Tryz.f18) (by kernel_rfl) (bodied Tryz.func18 (by kernel_rfl) (by kernel_rfl)) iBs oMk takeS fun b _ =>
  tk_does (En_ok (.cons take1F_ok (.cons take2F_ok (.cons checkF_ok .nil)))) b
end
set_option maxRecDepth 100000
section
def kU16:Kd UInt16 where
 rd:=fun v=>match v with
  | .c (.int .u16 n)=>match decide (0<=n),decide (n<65536) with
   | true,true=>some (UInt16.ofNat n.toNat)
   | _,_=>none
  | _=>none
 av:=fun x => .c (.int .u16 (x.toNat:Int))
 val:=fun x => .int .u16 (x.toNat:Int)
 rd_ok:=fun v x e β=>by
  split at e
  ·rename_i n
   split at e
   ·rename_i h0 h1
    cases e
    simp only [decide_eq_true_eq] at h0 h1
    have h2:(UInt16.ofNat n.toNat).toNat=n.toNat:=by
     rw [UInt16.toNat_ofNat']
     omega
    rw [h2]
    show Value.int .u16 n=_
    rw [Int.toNat_of_nonneg h0]
   ·cases e
  ·cases e
 av_ok:=fun x β=>rfl
 av_id:=fun x h=>okc_none rfl
def srsReads_T (f0:Bool) (f1:Fr->Bool) (f2:Fr->Int->List Pg1 × Pg2) (f3:List Pg1 × Pg2->List UInt8) (f4:List UInt8->(List Pg1 × Pg2) × Int) (f5:List Pg1 × Pg2->List UInt8) (f6:List Pg1 × Pg2->List Pg1 × Pg2->Bool) (tau:Fr) (pl:UInt16) (x:UInt8) (b:List UInt8):Tree (Option ((Bool) × Pr)):=letI za':=(List.take (f3 (List.take (f2 tau 2).fst.length (List.drop 0 (f2 tau 2).fst),(f2 tau 2).snd)).length (List.drop 0 ((f3 (List.take (f2 tau 2).fst.length (List.drop 0 (f2 tau 2).fst),(f2 tau 2).snd)).set (0+((IntKind.i64.wrap (↑pl.toNat:Int)).tmod (↑(f3 (List.take (f2 tau 2).fst.length (List.drop 0 (f2 tau 2).fst),(f2 tau 2).snd)).length:Int)).toNat*1) ((f3 (List.take (f2 tau 2).fst.length (List.drop 0 (f2 tau 2).fst),(f2 tau 2).snd)).getD (0+((IntKind.i64.wrap (↑pl.toNat:Int)).tmod (↑(f3 (List.take (f2 tau 2).fst.length (List.drop 0 (f2 tau 2).fst),(f2 tau 2).snd)).length:Int)).toNat*1) 0 ^^^ x))));letI zb':=f4 (List.take b.length (List.drop 0 b));letI zc':=f3 (List.take (f2 tau 2).fst.length (List.drop 0 (f2 tau 2).fst),(f2 tau 2).snd);letI zd':=0+zb'.fst.fst.length*13<=(rowsC RK.g1 zb'.fst.fst).length/\0=0/\zb'.fst.fst.length<1125899906842624/\0=0/\13=13;letI ze':=0+b.length*1<=(List.map EK.u8.cell b).length/\0<1;letI zf':=(IntKind.i64.wrap ((↑(b.getD 0 0).toNat:Int)*256)+(↑(b.getD 1 0).toNat:Int));letI zg':=f5 (List.take zb'.fst.fst.length (List.drop 0 zb'.fst.fst),zb'.fst.snd);letI zh':=((IntKind.i64.wrap (↑pl.toNat:Int)).tmod (↑zc'.length:Int));letI zi':=f5 (List.take (f4 za').fst.fst.length (List.drop 0 (f4 za').fst.fst),(f4 za').fst.snd);letI zj':=zd'/\fewP (List.take zb'.fst.fst.length (List.drop 0 zb'.fst.fst),zb'.fst.snd);letI zk':=((0<=(IntKind.i64.wrap (↑pl.toNat:Int)).tmod (↑zc'.length:Int)/\(IntKind.i64.wrap (↑pl.toNat:Int)).tmod (↑zc'.length:Int)<(↑zc'.length:Int))/\0+zc'.length*1<=(List.map EK.u8.cell zc').length/\0<1);letI zl':=IntKind.i64.wrap (2+IntKind.i64.wrap (48*IntKind.i64.wrap zf'))+96;letI zm':=(↑b.length:Int);letI zn':=f6 (List.take zb'.fst.fst.length (List.drop 0 zb'.fst.fst),zb'.fst.snd) (List.take zb'.fst.fst.length (List.drop 0 zb'.fst.fst),zb'.fst.snd);letI zo':=zc'.set (0+zh'.toNat*1) (zc'.getD (0+zh'.toNat*1) 0 ^^^ x);letI zp':=(0+b.length<=b.length/\b.length<1125899906842624/\0=0/\1=1)/\littleB (List.take b.length (List.drop 0 b));letI zq':=zj'/\zd'/\fewP (List.take zb'.fst.fst.length (List.drop 0 zb'.fst.fst),zb'.fst.snd);letI zr':=0<b.length/\0+b.length*1<=(List.map EK.u8.cell b).length/\0<1;letI zs':=1<b.length/\0+b.length*1<=(List.map EK.u8.cell b).length/\0<1;letI zt':=decide (zm'<2);letI zu':=decide (zm'<IntKind.i64.wrap zl');letI zv':=decide (zm' > IntKind.i64.wrap zl');letI zw':=decide (IntKind.i64.wrap zf' > 80);letI zx':=decide (IntKind.i64.wrap zf'<2);letI zy':=0+zh'.toNat*1<zc'.length;letI zz':=0+zg'.length<=zg'.length;letI z0':=0+b.length<=b.length;letI z1':=decide (zm' >= 2);
 (.br (!(f0)) (.leaf (some ((false,.t)))) (.br (!(f1 tau)) (.leaf (some ((true,.t)))) (.br (frEq (tau) ({ l0:=UInt64.ofNat 0,l1:=UInt64.ofNat 0,l2:=UInt64.ofNat 0,l3:=UInt64.ofNat 0 })) (.leaf (some ((true,.t)))) (.vc ze' (.br (decide (zm' > 600)) (.leaf (some ((true,.t)))) (.vc (fewI 2) (.vc ((0+(f2 tau 2).fst.length*13<=(rowsC RK.g1 (f2 tau 2).fst).length/\0=0/\(f2 tau 2).fst.length<1125899906842624/\0=0/\13=13)/\fewP (List.take (f2 tau 2).fst.length (List.drop 0 (f2 tau 2).fst),(f2 tau 2).snd)) (.vc (0+zc'.length*1<=(List.map EK.u8.cell zc').length/\0<1) (.vc ((↑zc'.length:Int) ≠ 0) (.vc zk' (.vc zy' (.vc zk' (.vc zy' (.vc ((0+zc'.length<=zo'.length/\zc'.length<1125899906842624/\0=0/\1=1)/\littleB za') (.br ((f4 za').snd==0) (.vc ((0+(f4 za').fst.fst.length*13<=(rowsC RK.g1 (f4 za').fst.fst).length/\0=0/\(f4 za').fst.fst.length<1125899906842624/\0=0/\13=13)/\fewP (List.take (f4 za').fst.fst.length (List.drop 0 (f4 za').fst.fst),(f4 za').fst.snd)) (.vc (0+zi'.length<=zi'.length) (.vc (0+zc'.length<=zo'.length) (.br (!(List.take zi'.length (List.drop 0 zi')==List.take zc'.length (List.drop 0 zo'))) (.leaf (some ((false,.t)))) (.vc zp' (.vc ze' (.br z1' (.vc zr' (.vc (0<b.length) (.vc zs' (.vc (1<b.length) (.vc ze' (.br zt' (.leaf (some ((zb'.snd==2,.t)))) (.br zx' (.leaf (some ((zb'.snd==1,.t)))) (.br zw' (.leaf (some ((zb'.snd==1,.t)))) (.vc ze' (.br zu' (.leaf (some ((zb'.snd==2,.t)))) (.vc ze' (.br zv' (.leaf (some ((zb'.snd==8,.t)))) (.br (zb'.snd != 0) (.leaf (some ((true,.t)))) (.vc zq' (.br zn' (.vc zj' (.vc zz' (.vc z0' (.leaf (some ((List.take zg'.length (List.drop 0 zg')==List.take b.length (List.drop 0 b),.t))))))) (.leaf (some ((false,.t))))))))))))))))))) (.vc ze' (.br zt' (.leaf (some ((zb'.snd==2,.t)))) (.leaf (some ((zb'.snd==1,.t))))))))))))) (.vc zp' (.vc ze' (.br z1' (.vc zr' (.vc (0<b.length) (.vc zs' (.vc (1<b.length) (.vc ze' (.br zt' (.leaf (some ((zb'.snd==2,.t)))) (.br zx' (.leaf (some ((zb'.snd==1,.t)))) (.br zw' (.leaf (some ((zb'.snd==1,.t)))) (.vc ze' (.br zu' (.leaf (some ((zb'.snd==2,.t)))) (.vc ze' (.br zv' (.leaf (some ((zb'.snd==8,.t)))) (.br (zb'.snd != 0) (.leaf (some ((true,.t)))) (.vc zq' (.br zn' (.vc zj' (.vc zz' (.vc z0' (.leaf (some ((List.take zg'.length (List.drop 0 zg')==List.take b.length (List.drop 0 b),.t))))))) (.leaf (some ((false,.t))))))))))))))))))) (.vc ze' (.br zt' (.leaf (some ((zb'.snd==2,.t)))) (.leaf (some ((zb'.snd==1,.t))))))))))))))))))))))))
theorem srsReads_run (f0:Bool) (f1:Fr->Bool) (f2:Fr->Int->List Pg1 × Pg2) (f3:List Pg1 × Pg2->List UInt8) (f4:List UInt8->(List Pg1 × Pg2) × Int) (f5:List Pg1 × Pg2->List UInt8) (f6:List Pg1 × Pg2->List Pg1 × Pg2->Bool) (tau:Fr) (pl:UInt16) (x:UInt8) (b:List UInt8):endT (Ens [(7,K0  kBool.rs.out.res f0),(8,Krb f1),(21,K2 (kRow Fr).arg (kInt.arg.such fewI) oPow.res f2),(19,K1 aPow rB f3),(18,K1 aBs oMk.res f4),(20,K1 aPow rB f5),(10,K2 aPow aPow kBool.rs.res f6)] [21,19,18,20]) kBool.rs.out 300 Tryz.f6 (flat (codeOf Tryz.f6)) (startSt Tryz.f6 [.one ((kRow Fr).av tau),.one (kU16.av pl),.one (kU8.av x),iB.av 0 b] [inHE eU8 b])=srsReads_T f0 f1 f2 f3 f4 f5 f6 tau pl x b:=by kernel_rfl
def srsReads (tau:Fr) (pl:UInt16) (x:UInt8) (b:List UInt8):Bool:=(srsReads_T begun17 mayRF powsF bytS takeS putS sameF tau pl x b).outD false
theorem srsReads_gives' (tau:Fr) (pl:UInt16) (x:UInt8) (b:List UInt8) {w:World} {vtau vpl vx vb:Value} (gtau:(kRow Fr).arg.is w vtau tau) (gpl:kU16.arg.is w vpl pl) (gx:kU8.arg.is w vx x) (gb:aB.is w vb b) (h:iB.fact b->(srsReads_T begun17 mayRF powsF bytS takeS putS sameF tau pl x b).full=true/\(srsReads_T begun17 mayRF powsF bytS takeS putS sameF tau pl x b).okAll):Gives Tryz.prog 6 #[vtau,vpl,vx,vb] w kBool.rs.out.res (srsReads tau pl x b) :=
 GLg (E:=Ens [(7,K0  kBool.rs.out.res begun17),(8,Krb mayRF),(21,K2 (kRow Fr).arg (kInt.arg.such fewI) oPow.res powsF),(19,K1 aPow rB bytS),(18,K1 aBs oMk.res takeS),(20,K1 aPow rB putS),(10,K2 aPow aPow kBool.rs.res sameF)] [21,19,18,20]) Tryz.func6 (c:=codeOf Tryz.f6) (by kernel_rfl) (InpL.cons (kRow Fr).inp (InpL.cons kU16.inp (InpL.cons kU8.inp (InpL.cons iB InpL.nil)))) kBool.rs.out (srsReads tau pl x b) (vs := [vtau,vpl,vx,vb]) (x:=(tau,pl,x,b,())) ⟨gtau,gpl,gx,gb,rfl⟩ fun g =>
  (DoesL.outs (Ens_ok (.cons begun17_ok (.cons mayR_ok (.cons powsF_ok (.cons bytS_ok (.cons takeS_ok (.cons putS_ok (.cons sameF_ok .nil)))))))) 300 false (srsReads_run begun17 mayRF powsF bytS takeS putS sameF tau pl x b) (h g.2.2.2.1).1 (h g.2.2.2.1).2)
end
section
def coreG {X P:Type} (xo:X × Int) (sF:X->X × Bool) (cub:X->X) (isz:X->Bool) (fin:Bool->X->X->P) (inF:P->Bool) (z:P) (high:Bool):P × Int :=
 cond (xo.2 != 0) (z,xo.2) (cond (!(sF (cub xo.1)).2) (z,5) (cond (high && isz (sF (cub xo.1)).1) (z,3) (cond (!inF (fin high xo.1 (sF (cub xo.1)).1)) (z,6) (fin high xo.1 (sF (cub xo.1)).1,0))))
def takeV {P:Type} (r:List UInt8 × Bool × Bool × Int) (z i:P) (c:P × Int):P × Int:=cond (r.2.2.2 != 0) (z,r.2.2.2) (cond r.2.1 (i,0) c)
def twoG (f1:List UInt8->Fp × Int) (l:List UInt8):Fp2 × Int:=cond ((f1 (List.take 48 l)).2 != 0) (zeroFp2,(f1 (List.take 48 l)).2) (cond ((f1 (List.drop 48 l)).2 != 0) (zeroFp2,(f1 (List.drop 48 l)).2) (⟨(f1 (List.drop 48 l)).1,(f1 (List.take 48 l)).1⟩,0))
theorem take1_val (f0:List UInt8->Int->List UInt8 × Bool × Bool × Int) (f1:List UInt8->Fp × Int) (f2:Fp->Fp × Bool) (f3 f4:Fp->Fp->Fp) (f5:UInt64->Fp) (f6:Pg1->Pg1) (f7:Pg1->Bool) (b:List UInt8) :
  (take1F_T f0 f1 f2 f3 f4 f5 f6 f7 b).outD (pg10,0)=takeV (f0 b 48) pg10 infG1 (coreG (f1 (f0 b 48).1) f2 (fun x=>f3 (f4 (f4 x x) x) (f5 4)) (fun y=>fpEq y zeroFp) (fun h x y=>cond h (f6 ⟨x,y,false⟩) ⟨x,y,false⟩) f7 pg10 (f0 b 48).2.2.1):=by
 unfold take1F_T takeV coreG
 simp only [outD_br,outD_vc,outD_leaf,whole8]
 generalize f0 b 48=r
 obtain ⟨l,i,h,e⟩:=r
 generalize f1 l=x
 obtain ⟨x,o⟩:=x
 have e4:f5 (UInt64.ofNat 4)=f5 4:=rfl
 rw [e4]
 generalize f2 (f3 (f4 (f4 x x) x) (f5 4))=s
 obtain ⟨y,is⟩:=s
 cases h <;> cases is <;> first
  | rfl
  | (cases hz:fpEq y zeroFp <;> rfl)
theorem dropTail (l:List UInt8):List.take (l.length-48) (List.drop 48 l)=List.drop 48 l:=List.take_of_length_le (by rw [List.length_drop];exact Nat.le_refl _)
theorem take2_val (f0:List UInt8->Int->List UInt8 × Bool × Bool × Int) (f1:List UInt8->Fp × Int) (f2:Fp2->Fp2 × Bool) (f3 f4:Fp2->Fp2->Fp2) (f6:Pg2->Pg2) (f7:Pg2->Bool) (b:List UInt8) :
  (take2F_T f0 f1 f2 f3 f4 f6 f7 b).outD (pg20,0)=takeV (f0 b 96) pg20 infG2 (coreG (twoG f1 (f0 b 96).1) f2 (fun x=>f3 (f4 (f4 x x) x) bFp2) (fun y=>fp2Eq y zeroFp2) (fun h x y=>cond h (f6 ⟨x,y,false⟩) ⟨x,y,false⟩) f7 pg20 (f0 b 96).2.2.1):=by
 unfold take2F_T takeV coreG twoG
 simp only [outD_br,outD_vc,outD_leaf,dropTail,List.drop_zero,List.take_length]
 generalize f0 b 96=r
 obtain ⟨l,i,h,e⟩:=r
 simp only
 generalize f1 (List.take 48 l)=x
 obtain ⟨x,o⟩:=x
 generalize f1 (List.drop 48 l)=z
 obtain ⟨z,o2⟩:=z
 simp only
 cases hx:(o != 0) with
 | true=>simp only [cond_true,hx];rfl
 | false =>
  cases hz:(o2 != 0) with
  | true=>simp only [cond_true,cond_false,hz];rfl
  | false =>
   simp only [cond_false]
   have e4:({ c0 := { l0:=UInt64.ofNat 4,l1:=UInt64.ofNat 0,l2:=UInt64.ofNat 0,l3:=UInt64.ofNat 0,l4:=UInt64.ofNat 0,l5:=UInt64.ofNat 0 },c1 := { l0:=UInt64.ofNat 4,l1:=UInt64.ofNat 0,l2:=UInt64.ofNat 0,l3:=UInt64.ofNat 0,l4:=UInt64.ofNat 0,l5:=UInt64.ofNat 0 } }:Fp2)=bFp2:=rfl
   rw [e4]
   generalize f2 (f3 (f4 (f4 ⟨z,x⟩ ⟨z,x⟩) ⟨z,x⟩) bFp2)=s
   obtain ⟨y,is⟩:=s
   cases h <;> cases is <;> first
    | rfl
    | (cases hz:fp2Eq y zeroFp2 <;> rfl)
end
section
theorem u8_all {p:UInt8->Bool} (h:(List.range 256).all (fun n=>p (UInt8.ofNat n))=true) (b:UInt8):p b=true:=by
 have:=List.all_eq_true.1 h b.toNat (List.mem_range.2 b.toNat_lt)
 rwa [UInt8.ofNat_toNat] at this
theorem taken_ok {l:List UInt8} (h:(ftakeF l).2=0):(ftakeF l).1.ok:=by
 have key : ∀ (n:Nat) (x:Fp) (m:Bool),(m=true->x.ok)->(takeG n x m).2=0->(takeG n x m).1.ok:=fun n x m hm=>by
  unfold takeG
  cases decide ((n:Int)<48) with
  | true=>exact fun e=>absurd e int2
  | false =>
   cases decide ((n:Int) > 48) with
   | true=>exact fun e=>absurd e int8
   | false =>
    cases m with
    | false=>exact fun e=>absurd (show (4:Int)=0 from e) (by decide)
    | true=>exact fun _=>hm rfl
 exact key _ _ _ (fun h=>(mayF_ok _).1 h) h
abbrev cub1 (x:Fp):Fp:=addF (mulF (mulF x x) x) (ofF 4)
abbrev cub2 (x:Fp2):Fp2:=addF2 (mulF2 (mulF2 x x) x) bFp2
theorem of4:ofF 4=bFp1:=(fpEq_iff _ _).1 (by decide +kernel)
theorem cub1_v {x:Fp} (hx:x.ok):(cub1 x).ok/\(cub1 x).v=x.v*x.v*x.v+Crv.b:=by
 have h1:(mulF x x).ok:=mul_ok' hx
 have h2:(mulF (mulF x x) x).ok:=mul_ok' h1
 have hb:=bFp1_v
 unfold cub1
 rw [of4]
 exact ⟨add_ok' h2 hb.1,by rw [v_add h2 hb.1,v_mul h1 hx,v_mul hx hx,hb.2]⟩
theorem cub2_v {x:Fp2} (hx:x.ok):(cub2 x).ok/\(cub2 x).v=x.v*x.v*x.v+Crv.b:=by
 have h1:(mulF2 x x).ok:=mul_ok2 hx hx
 have h2:(mulF2 (mulF2 x x) x).ok:=mul_ok2 h1 hx
 have hb:=bFp2_v
 unfold cub2
 exact ⟨add_ok2 h2 hb.1,by rw [v_add2 h2 hb.1,v_mul2 h1 hx,v_mul2 hx hx,hb.2]⟩
theorem over1 {x:Fp} (hx:x.ok) (h:(sqrtF (cub1 x)).2=true):(⟨x,(sqrtF (cub1 x)).1,false⟩:Pg1).good:=by
 obtain ⟨c1,c2⟩:=cub1_v hx
 refine (good1_mk hx (sqrt_ok' c1) rfl rfl ?_).1
 show _=_
 rw [sqrt_v c1 h,c2]
theorem root2_of {a:Fp2} (ha:a.ok) (h:(sqrtF2 a).2=true):(sqrtF2 a).1.ok/\(sqrtF2 a).1.v*(sqrtF2 a).1.v=a.v/\great2V (sqrtF2 a).1=false:=by
 rcases sqrt_root2 ha with ⟨_,_,h1,h2,h3⟩ | ⟨_,h1⟩
 ·exact ⟨h1,h2,h3⟩
 ·rw [h1] at h;cases h
theorem over2 {x:Fp2} (hx:x.ok) (h:(sqrtF2 (cub2 x)).2=true):(⟨x,(sqrtF2 (cub2 x)).1,false⟩:Pg2).good:=by
 obtain ⟨c1,c2⟩:=cub2_v hx
 obtain ⟨r1,r2,_⟩:=root2_of c1 h
 refine (good2_mk hx r1 rfl rfl ?_).1
 show _=_
 rw [r2,c2]
abbrev fin1 (h:Bool) (x y:Fp):Pg1:=cond h (negG1 ⟨x,y,false⟩) ⟨x,y,false⟩
abbrev fin2 (h:Bool) (x y:Fp2):Pg2:=cond h (negG2 ⟨x,y,false⟩) ⟨x,y,false⟩
abbrev core1 (l:List UInt8) (h:Bool):Pg1 × Int:=coreG (ftakeF l) sqrtF cub1 (fun y=>fpEq y zeroFp) fin1 inG1 pg10 h
abbrev core2 (l:List UInt8) (h:Bool):Pg2 × Int:=coreG (twoG ftakeF l) sqrtF2 cub2 (fun y=>fp2Eq y zeroFp2) fin2 inG2 pg20 h
theorem two_ok {l:List UInt8} (h:(twoG ftakeF l).2=0):(twoG ftakeF l).1.ok:=by
 unfold twoG at h ⊢
 cases h1:((ftakeF (List.take 48 l)).2 != 0) with
 | true =>
  rw [h1] at h
  have h:(ftakeF (List.take 48 l)).2=0:=h
  rw [h] at h1
  cases h1
 | false =>
  rw [h1] at h
  cases h2:((ftakeF (List.drop 48 l)).2 != 0) with
  | true =>
   rw [h2] at h
   have h:(ftakeF (List.drop 48 l)).2=0:=h
   rw [h] at h2
   cases h2
  | false=>exact Fp2.mk_ok (taken_ok (int_zero h2)) (taken_ok (int_zero h1))
theorem take1F_val (b:List UInt8):take1F b=takeV (bareF b 48) pg10 infG1 (core1 (bareF b 48).1 (bareF b 48).2.2.1):=take1_val bareF ftakeF sqrtF addF mulF ofF negG1 inG1 b
theorem take2F_val (b:List UInt8):take2F b=takeV (bareF b 96) pg20 infG2 (core2 (bareF b 96).1 (bareF b 96).2.2.1):=take2_val bareF ftakeF sqrtF2 addF2 mulF2 negG2 inG2 b
end
section
theorem getD_hd (l:List UInt8) (h:0<l.length) (v:UInt8):(l.set 0 v).getD 0 0=v:=by
 cases l with
 | nil=>cases h
 | cons a l=>rfl
theorem set_hd (l:List UInt8):l.set 0 (l.getD 0 0)=l:=by
 cases l with
 | nil=>rfl
 | cons a l=>rfl
theorem set_set_hd (l:List UInt8) (v w:UInt8):(l.set 0 v).set 0 w=l.set 0 w:=by
 cases l with
 | nil=>rfl
 | cons a l=>rfl
abbrev hiB (g:Bool):UInt8:=cond g 160 128
theorem b_or (c:UInt8):(!decide (c<32) || (c ||| 128==c+128 && (c ||| 128 ||| 32==c+160)))=true:=u8_all (p:=fun c => !decide (c<32) || (c ||| 128==c+128 && (c ||| 128 ||| 32==c+160))) (by decide +kernel) c
theorem mark_hd {l:List UInt8} (h0:0<l.length) (hc:l.getD 0 0<32) (g:Bool):markF l (false,g,())=hdB l (hiB g):=by
 have h:=b_or (l.getD 0 0)
 rw [decide_eq_true hc,Bool.not_true,Bool.false_or,Bool.and_eq_true] at h
 have h1:=eq_of_beq h.1
 have h2:=eq_of_beq h.2
 cases g with
 | false =>
  show l.set 0 (l.getD 0 0 ||| 128)=_
  rw [h1]
  rfl
 | true =>
  show (l.set 0 (l.getD 0 0 ||| 128)).set 0 ((l.set 0 (l.getD 0 0 ||| 128)).getD 0 0 ||| 32)=_
  rw [getD_hd l h0,set_set_hd,h2]
  rfl
theorem pN_top:pN<32*256 ^ 47:=by decide +kernel
theorem top_low {x:Fp} (hx:x.ok):(fputF x).getD 0 0<32:=by
 have hl:(cutF x.list).length<=6:=Nat.le_trans (cutF_len x.list) (Nat.le_of_eq (fp_short x))
 have hv:bsum (cutF x.list) 48=x.nat:=by rw [show (48:Nat)=8*6 from rfl,bsum_val,valAt_out _ hl,valL_cut,valL_list]
 have hh:(fputF x).getD 0 0=byteAt (cutF x.list) 47:=by
  rw [fput_full]
  exact bAt_full (cutF x.list) (n:=48) (t:=0) (by decide)
 have hs:bsum (cutF x.list) 48=bsum (cutF x.list) 47+(byteAt (cutF x.list) 47).toNat*256 ^ 47:=rfl
 rw [hh]
 show (byteAt (cutF x.list) 47).toNat<32
 have hx:x.nat<pN:=hx
 have hp:=pN_top
 generalize (256:Nat) ^ 47=q at *
 generalize (byteAt (cutF x.list) 47).toNat=c at *
 rcases Nat.lt_or_ge c 32 with h | h
 ·exact h
 ·have:=Nat.mul_le_mul_right q h
  omega
theorem fput_pos (x:Fp):0<(fputF x).length:=by rw [fput_len'];decide
theorem two_top {x:Fp2} (hx:x.ok):(fputF x.c1++fputF x.c0).getD 0 0<32:=by
 have h:=top_low hx.2
 have h0:=fput_pos x.c1
 generalize fputF x.c1=l at *
 cases l with
 | nil=>cases h0
 | cons a l=>exact h
theorem two_len (x:Fp2):(fputF x.c1++fputF x.c0).length=96:=by rw [List.length_append,fput_len',fput_len']
theorem two_pos (x:Fp2):0<(fputF x.c1++fputF x.c0).length:=by rw [two_len];decide
theorem twoG_put {x:Fp2} (hx:x.ok):twoG ftakeF (fputF x.c1++fputF x.c0)=(x,0):=by
 unfold twoG
 rw [List.take_left' (fput_len' x.c1),List.drop_left' (fput_len' x.c1),take_put hx.1,take_put hx.2]
 rfl
abbrev put1B (x:Fp):List UInt8:=fputF x
abbrev put2B (x:Fp2):List UInt8:=fputF x.c1++fputF x.c0
theorem put1B_ok {x:Fp} (hx:x.ok):((put1B x).length:Int)=48/\0<(put1B x).length/\(put1B x).getD 0 0<32/\ftakeF (put1B x)=(x,0):=⟨by rw [show (put1B x).length=48 from fput_len' x];rfl,fput_pos x,top_low hx,take_put hx⟩
theorem put2B_ok {x:Fp2} (hx:x.ok):((put2B x).length:Int)=96/\0<(put2B x).length/\(put2B x).getD 0 0<32/\twoG ftakeF (put2B x)=(x,0):=⟨by rw [show (put2B x).length=96 from two_len x];rfl,two_pos x,two_top hx,twoG_put hx⟩
theorem fr1 {a:Fp} (ha:a.ok) (h:a.v ≠ 0):greatF (negF a) = !greatF a:=great_neg ha h
theorem fr2 {a:Fp2} (ha:a.ok) (h:a.v ≠ 0):greatF2 (negF2 a) = !greatF2 a:=by rw [greatF2_eq,greatF2_eq];exact great_neg2 ha h
theorem rt1 {a:Fp} (ha:a.ok) (h : ∃ y:V1,y*y=a.v):(sqrtF a).2=true/\(sqrtF a).1.ok/\(sqrtF a).1.v*(sqrtF a).1.v=a.v/\greatF (sqrtF a).1=false:=(sqrt_law ha).1 h
theorem takeV_inf {P:Type} (l:List UInt8) (g:Bool) (z i:P) (c:P × Int):takeV (l,true,g,0) z i c=(i,0):=rfl
theorem takeV_go {P:Type} (l:List UInt8) (g:Bool) (z i:P) (c:P × Int):takeV (l,false,g,0) z i c=c:=rfl
theorem neg_aff1 (x y:Fp):negG1 ⟨x,y,false⟩=⟨x,negF y,false⟩:=by
 unfold negG1
 exact negG1_aff rfl
theorem neg_aff2 (x y:Fp2):negG2 ⟨x,y,false⟩=⟨x,negF2 y,false⟩:=by
 unfold negG2
 exact negG2_aff rfl
theorem y_ne1 {x y:Fp} (h:(⟨x,y,false⟩:Pg1).good):y.v ≠ 0:=fun e=>by
 have h1:y.v*y.v=x.v*x.v*x.v+Crv.b:=h.2
 rw [e] at h1
 exact Crv.no x.v (by rw [<- h1];exact CR.zero_mul _)
theorem put1_hd {x y:Fp} (hx:x.ok):put1F ⟨x,y,false⟩=hdB (put1B x) (hiB (greatF y)):=by
 obtain ⟨h1,h2,h3,h4⟩:=put1B_ok hx
 rw [put1F_val]
 exact mark_hd h2 h3 _
theorem y_ne2 {x y:Fp2} (h:(⟨x,y,false⟩:Pg2).good):y.v ≠ 0:=fun e=>by
 have h1:y.v*y.v=x.v*x.v*x.v+Crv.b:=h.2
 rw [e] at h1
 exact Crv.no x.v (by rw [<- h1];exact CR.zero_mul _)
theorem put2_hd {x y:Fp2} (hx:x.ok):put2F ⟨x,y,false⟩=hdB (put2B x) (hiB (greatF2 y)):=by
 obtain ⟨h1,h2,h3,h4⟩:=put2B_ok hx
 rw [put2F_val]
 exact mark_hd h2 h3 _
end
section
theorem bval_inj {a b:List UInt8} (hl:a.length=b.length) : ∀ n,bval a n=bval b n -> ∀ t,t<n->bAt a (a.length-1-t)=bAt b (b.length-1-t)
 | 0,_,t,ht=>absurd ht (Nat.not_lt_zero t)
 | n+1,h,t,ht=>by
  have h1:=bval_lt a n
  have h2:=bval_lt b n
  have h:bval a n+(bAt a (a.length-1-n)).toNat*256 ^ n=bval b n+(bAt b (b.length-1-n)).toNat*256 ^ n:=h
  have hp:0<256 ^ n:=Nat.pow_pos (by decide)
  generalize (256:Nat) ^ n=q at *
  have e1:(bval a n+(bAt a (a.length-1-n)).toNat*q) / q=(bAt a (a.length-1-n)).toNat:=by rw [Nat.add_mul_div_right _ _ hp,Nat.div_eq_of_lt h1,Nat.zero_add]
  have e2:(bval b n+(bAt b (b.length-1-n)).toNat*q) / q=(bAt b (b.length-1-n)).toNat:=by rw [Nat.add_mul_div_right _ _ hp,Nat.div_eq_of_lt h2,Nat.zero_add]
  have e3:(bAt a (a.length-1-n)).toNat=(bAt b (b.length-1-n)).toNat:=by rw [<- e1,<- e2,h]
  rcases Nat.lt_succ_iff_lt_or_eq.1 ht with h3 | h3
  ·exact bval_inj hl n (by rw [e3] at h;exact Nat.add_right_cancel h) t h3
  ·subst h3
   exact UInt8.toNat.inj e3
theorem bytes_inj {a b:List UInt8} (hl:a.length=b.length) (h:bval a a.length=bval b b.length):a=b:=by
 refine List.ext_getElem hl fun i h1 h2 => ?_
 have k:=bval_inj hl a.length (by rw [h,hl]) (a.length-1-i) (by omega)
 rw [<- hl,show a.length-1-(a.length-1-i)=i by omega] at k
 unfold bAt at k
 rwa [List.getD_eq_getElem?_getD,List.getD_eq_getElem?_getD,List.getElem?_eq_getElem h1,List.getElem?_eq_getElem h2] at k
theorem takeG_zero {n:Nat} {x:Fp} {m:Bool} (h:(takeG n x m).2=0):n=48/\(takeG n x m).1=x:=by
 unfold takeG at h ⊢
 cases h1:decide ((n:Int)<48) with
 | true=>rw [h1] at h;exact absurd h int2
 | false =>
  rw [h1] at h
  cases h2:decide ((n:Int) > 48) with
  | true=>rw [h2] at h;exact absurd h int8
  | false =>
   rw [h2] at h
   have h1:=of_decide_eq_false h1
   have h2:=of_decide_eq_false h2
   refine ⟨by omega,?_⟩
   cases m with
   | false=>exact absurd (show (4:Int)=0 from h) (by decide)
   | true=>rfl
theorem w6_bytes:(256:Nat) ^ 48=W64 ^ 6:=by decide +kernel
theorem put_take {l:List UInt8} (h:(ftakeF l).2=0):fputF (ftakeF l).1=l:=by
 obtain ⟨h1,h2⟩:=takeG_zero (n:=l.length) (x:=ofL (takF l)) (m:=mayF (ofL (takF l))) h
 rw [show (ftakeF l).1=ofL (takF l) from h2]
 have hl:(takF l).length<=6:=normal_len (xs:=takF l) (cutF_idem _) (by rw [takF_val,h1,<- w6_bytes];exact bval_lt l 48)
 refine bytes_inj (by rw [fput_len',h1]) ?_
 rw [fput_len',h1,fput_val,ofL_val hl,takF_val,h1]
theorem b_un (c:UInt8):((c &&& UInt8.ofNat 128==UInt8.ofNat 0) || (c &&& UInt8.ofNat 64 != UInt8.ofNat 0) || ((c &&& ~~~(UInt8.ofNat 224))+hiB (c &&& UInt8.ofNat 32 != UInt8.ofNat 0)==c))=true:=u8_all (p:=fun c=>(c &&& UInt8.ofNat 128==UInt8.ofNat 0) || (c &&& UInt8.ofNat 64 != UInt8.ofNat 0) || ((c &&& ~~~(UInt8.ofNat 224))+hiB (c &&& UInt8.ofNat 32 != UInt8.ofNat 0)==c)) (by decide +kernel) c
theorem b_un0 (c:UInt8):((c &&& UInt8.ofNat 128==UInt8.ofNat 0) || !(c &&& UInt8.ofNat 64 != UInt8.ofNat 0) || (c &&& UInt8.ofNat 32 != UInt8.ofNat 0) || !(c &&& ~~~(UInt8.ofNat 224)==0) || c==192)=true:=u8_all (p:=fun c=>(c &&& UInt8.ofNat 128==UInt8.ofNat 0) || !(c &&& UInt8.ofNat 64 != UInt8.ofNat 0) || (c &&& UInt8.ofNat 32 != UInt8.ofNat 0) || !(c &&& ~~~(UInt8.ofNat 224)==0) || c==192) (by decide +kernel) c
theorem un_hd {t:List UInt8} (h0:0<t.length) (h7:bit7 t=false) (h6:bit6 t=false):hdB (bareL t) (hiB (bit5 t))=t:=by
 have h:=b_un (t.getD 0 0)
 rw [show (t.getD 0 0 &&& UInt8.ofNat 128==UInt8.ofNat 0)=false from h7,show (t.getD 0 0 &&& UInt8.ofNat 64 != UInt8.ofNat 0)=false from h6,Bool.false_or,Bool.false_or] at h
 unfold hdB bareL
 rw [getD_hd t h0,set_set_hd]
 exact (congrArg (t.set 0) (eq_of_beq h)).trans (set_hd t)
theorem zeroTo_get {l:List UInt8} : ∀ {n:Nat},zeroTo l n=true -> ∀ i,i<n->l.getD i 0=0
 | 0,_,i,hi=>absurd hi (Nat.not_lt_zero i)
 | n+1,h,i,hi=>by
  unfold zeroTo at h
  rw [Bool.and_eq_true] at h
  rcases Nat.lt_succ_iff_lt_or_eq.1 hi with h1 | h1
  ·exact zeroTo_get h.1 i h1
  ·rw [h1];exact eq_of_beq h.2
theorem zeros_of {l:List UInt8} (h:zeroTo l l.length=true):l=List.replicate l.length 0:=by
 refine List.ext_getElem (by rw [List.length_replicate]) fun i h1 h2 => ?_
 have k:=zeroTo_get h i h1
 rw [List.getD_eq_getElem?_getD,List.getElem?_eq_getElem h1] at k
 rw [List.getElem_replicate]
 exact k
theorem un_inf {t:List UInt8} (hl:t.length=48) (h7:bit7 t=false) (h6:bit6 t=true) (h5:bit5 t=false) (hz:zeroTo (bareL t) t.length=true):inf1B=t:=by
 have h0:0<t.length:=by rw [hl];decide
 have hz':zeroTo (bareL t) (bareL t).length=true:=by rw [bareL_len];exact hz
 have e:=zeros_of hz'
 rw [bareL_len,hl] at e
 have hc:(t.getD 0 0 &&& ~~~(UInt8.ofNat 224))=0:=by
  have k:=zeroTo_get hz 0 h0
  unfold bareL at k
  rwa [getD_hd t h0] at k
 have h:=b_un0 (t.getD 0 0)
 rw [show (t.getD 0 0 &&& UInt8.ofNat 128==UInt8.ofNat 0)=false from h7,show (t.getD 0 0 &&& UInt8.ofNat 64 != UInt8.ofNat 0)=true from h6,show (t.getD 0 0 &&& UInt8.ofNat 32 != UInt8.ofNat 0)=false from h5,hc] at h
 have h:t.getD 0 0=192:=eq_of_beq (by simpa using h)
 unfold inf1B hdB
 rw [<- e]
 unfold bareL
 rw [getD_hd t h0,set_set_hd,hc]
 refine Eq.trans ?_ (set_hd t)
 rw [h]
 rfl
theorem bareG_inv {c1 c2 c3 c4 c5 c6:Bool} {l:List UInt8} (h:(bareG c1 c2 c3 c4 c5 c6 l).2.2.2=0) :
  c1=false/\c2=false/\c3=false/\((c4=false/\bareG c1 c2 c3 c4 c5 c6 l=(l,false,c5,0)) \/ (c4=true/\c5=false/\c6=true/\bareG c1 c2 c3 c4 c5 c6 l=(l,true,false,0))):=by
 cases c1 with
 | true=>exact absurd h int2
 | false =>
 cases c2 with
 | true=>exact absurd h int8
 | false =>
 cases c3 with
 | true=>exact absurd h int3
 | false =>
 cases c4 with
 | false=>exact ⟨rfl,rfl,rfl,.inl ⟨rfl,rfl⟩⟩
 | true =>
  cases c5 with
  | true=>exact absurd h int3
  | false =>
   cases c6 with
   | false=>exact absurd h int3
   | true=>exact ⟨rfl,rfl,rfl,.inr ⟨rfl,rfl,rfl,rfl⟩⟩
theorem coreG_inv {X P:Type} {xo:X × Int} {sF:X->X × Bool} {cub:X->X} {isz:X->Bool} {fin:Bool->X->X->P} {inF:P->Bool} {z:P} {high:Bool} (h:(coreG xo sF cub isz fin inF z high).2=0) :
  xo.2=0/\(sF (cub xo.1)).2=true/\(coreG xo sF cub isz fin inF z high).1=fin high xo.1 (sF (cub xo.1)).1:=by
 unfold coreG at h ⊢
 cases h1:(xo.2 != 0) with
 | true =>
  rw [h1] at h
  have h:xo.2=0:=h
  rw [h] at h1
  cases h1
 | false =>
  rw [h1] at h
  cases h2:(sF (cub xo.1)).2 with
  | false=>rw [h2] at h;exact absurd (show (5:Int)=0 from h) (by decide)
  | true =>
   rw [h2] at h
   cases h3:high && isz (sF (cub xo.1)).1 with
   | true=>rw [h3] at h;exact absurd h int3
   | false =>
    rw [h3] at h
    cases h4:inF (fin high xo.1 (sF (cub xo.1)).1) with
    | false=>rw [h4] at h;exact absurd (show (6:Int)=0 from h) (by decide)
    | true=>exact ⟨int_zero h1,rfl,rfl⟩
theorem put_fin {x s:Fp} (hx:x.ok) (hs:s.ok) (h0:s.v ≠ 0) (hg:greatF s=false) (g:Bool):put1F (fin1 g x s)=hdB (fputF x) (hiB g):=by
 unfold fin1
 cases g with
 | false=>rw [cond_false,put1_hd hx,hg]
 | true=>rw [cond_true,neg_aff1,put1_hd hx,fr1 hs h0,hg];rfl
theorem back_gen {l:List UInt8} {g:Bool} {xo:Fp × Int} (ho:xo.2=0->xo.1.ok) (h:(coreG xo sqrtF cub1 (fun y=>fpEq y zeroFp) fin1 inG1 pg10 g).2=0):xo.2=0/\put1F (coreG xo sqrtF cub1 (fun y=>fpEq y zeroFp) fin1 inG1 pg10 g).1=hdB (fputF xo.1) (hiB g):=by
 obtain ⟨h1,h2,h3⟩:=coreG_inv h
 refine ⟨h1,?_⟩
 rw [h3]
 have hx:=ho h1
 obtain ⟨c1,c2⟩:=cub1_v hx
 obtain ⟨_,r2,r3,r4⟩:=rt1 c1 ((sqrt_snd c1).1 h2)
 exact put_fin hx r2 (y_ne1 (over1 hx h2)) r4 g
theorem back1 {t:List UInt8} (h:(take1F t).2=0):put1F (take1F t).1=t:=by
 rw [take1F_val] at h ⊢
 have he:(bareF t 48).2.2.2=0:=by
  cases hc:((bareF t 48).2.2.2 != 0) with
  | true =>
   unfold takeV at h
   rw [hc] at h
   exact h
  | false=>exact int_zero hc
 obtain ⟨c1,c2,c3,h4⟩:=bareG_inv (c1:=decide ((t.length:Int)<48)) (c2:=decide ((t.length:Int) > 48)) (c3:=bit7 t) (c4:=bit6 t) (c5:=bit5 t) (c6:=zeroTo (bareL t) t.length) (l:=bareL t) he
 have hl:t.length=48:=by
  have c1:=of_decide_eq_false c1
  have c2:=of_decide_eq_false c2
  omega
 rcases h4 with ⟨h6,e⟩ | ⟨h6,h5,hz,e⟩
 ·rw [show bareF t 48=(bareL t,false,bit5 t,0) from e] at h ⊢
  rw [takeV_go] at h ⊢
  obtain ⟨k1,k2⟩:=back_gen (l:=bareL t) (xo:=ftakeF (bareL t)) taken_ok h
  refine k2.trans ?_
  rw [put_take k1]
  exact un_hd (by rw [hl];decide) c3 h6
 ·rw [show bareF t 48=(bareL t,true,false,0) from e,takeV_inf]
  show put1F infG1=t
  rw [put1F_val]
  exact un_inf hl c3 h6 h5 hz
end
set_option maxRecDepth 100000
section
theorem un_inf2 {t:List UInt8} (hl:t.length=96) (h7:bit7 t=false) (h6:bit6 t=true) (h5:bit5 t=false) (hz:zeroTo (bareL t) t.length=true):inf2B=t:=by
 have h0:0<t.length:=by rw [hl];decide
 have hz':zeroTo (bareL t) (bareL t).length=true:=by rw [bareL_len];exact hz
 have e:=zeros_of hz'
 rw [bareL_len,hl] at e
 have hc:(t.getD 0 0 &&& ~~~(UInt8.ofNat 224))=0:=by
  have k:=zeroTo_get hz 0 h0
  unfold bareL at k
  rwa [getD_hd t h0] at k
 have h:=b_un0 (t.getD 0 0)
 rw [show (t.getD 0 0 &&& UInt8.ofNat 128==UInt8.ofNat 0)=false from h7,show (t.getD 0 0 &&& UInt8.ofNat 64 != UInt8.ofNat 0)=true from h6,show (t.getD 0 0 &&& UInt8.ofNat 32 != UInt8.ofNat 0)=false from h5,hc] at h
 have h:t.getD 0 0=192:=eq_of_beq (by simpa using h)
 unfold inf2B hdB
 rw [<- e]
 unfold bareL
 rw [getD_hd t h0,set_set_hd,hc]
 refine Eq.trans ?_ (set_hd t)
 rw [h]
 rfl
theorem put_fin2 {x s:Fp2} (hx:x.ok) (hs:s.ok) (h0:s.v ≠ 0) (hg:greatF2 s=false) (g:Bool):put2F (fin2 g x s)=hdB (put2B x) (hiB g):=by
 unfold fin2
 cases g with
 | false=>rw [cond_false,put2_hd hx,hg]
 | true=>rw [cond_true,neg_aff2,put2_hd hx,fr2 hs h0,hg];rfl
theorem back_gen2 {l:List UInt8} {g:Bool} {xo:Fp2 × Int} (ho:xo.2=0->xo.1.ok) (h:(coreG xo sqrtF2 cub2 (fun y=>fp2Eq y zeroFp2) fin2 inG2 pg20 g).2=0):xo.2=0/\put2F (coreG xo sqrtF2 cub2 (fun y=>fp2Eq y zeroFp2) fin2 inG2 pg20 g).1=hdB (put2B xo.1) (hiB g):=by
 obtain ⟨h1,h2,h3⟩:=coreG_inv h
 refine ⟨h1,?_⟩
 rw [h3]
 have hx:=ho h1
 obtain ⟨c1,c2⟩:=cub2_v hx
 obtain ⟨r1,r2,r3⟩:=root2_of c1 h2
 exact put_fin2 hx r1 (y_ne2 (over2 hx h2)) (by rw [greatF2_eq];exact r3) g
theorem two_back {l:List UInt8} (h:(twoG ftakeF l).2=0):put2B (twoG ftakeF l).1=l:=by
 unfold twoG at h ⊢
 cases h1:((ftakeF (List.take 48 l)).2 != 0) with
 | true =>
  rw [h1] at h
  have h:(ftakeF (List.take 48 l)).2=0:=h
  rw [h] at h1
  cases h1
 | false =>
  rw [h1] at h
  cases h2:((ftakeF (List.drop 48 l)).2 != 0) with
  | true =>
   rw [h2] at h
   have h:(ftakeF (List.drop 48 l)).2=0:=h
   rw [h] at h2
   cases h2
  | false =>
   have k1:=put_take (int_zero h1)
   have k2:=put_take (int_zero h2)
   show fputF (ftakeF (List.take 48 l)).1++fputF (ftakeF (List.drop 48 l)).1=l
   rw [k1,k2,List.take_append_drop]
theorem back2 {t:List UInt8} (h:(take2F t).2=0):put2F (take2F t).1=t:=by
 rw [take2F_val] at h ⊢
 have he:(bareF t 96).2.2.2=0:=by
  cases hc:((bareF t 96).2.2.2 != 0) with
  | true =>
   unfold takeV at h
   rw [hc] at h
   exact h
  | false=>exact int_zero hc
 obtain ⟨c1,c2,c3,h4⟩:=bareG_inv (c1:=decide ((t.length:Int)<96)) (c2:=decide ((t.length:Int) > 96)) (c3:=bit7 t) (c4:=bit6 t) (c5:=bit5 t) (c6:=zeroTo (bareL t) t.length) (l:=bareL t) he
 have hl:t.length=96:=by
  have c1:=of_decide_eq_false c1
  have c2:=of_decide_eq_false c2
  omega
 rcases h4 with ⟨h6,e⟩ | ⟨h6,h5,hz,e⟩
 ·rw [show bareF t 96=(bareL t,false,bit5 t,0) from e] at h ⊢
  rw [takeV_go] at h ⊢
  obtain ⟨k1,k2⟩:=back_gen2 (l:=bareL t) (xo:=twoG ftakeF (bareL t)) two_ok h
  refine k2.trans ?_
  rw [two_back k1]
  exact un_hd (by rw [hl];decide) c3 h6
 ·rw [show bareF t 96=(bareL t,true,false,0) from e,takeV_inf]
  show put2F infG2=t
  rw [put2F_val]
  exact un_inf2 hl c3 h6 h5 hz
theorem putH_eq {p:List Pg1 × Pg2} (h:p.1.length<=80):putH p = [0,UInt8.ofNat p.1.length]:=by
 have e1:shrI IntKind.i64 (p.1.length:Int) 8=0:=by
  unfold shrI
  rw [show (2:Int) ^ (min (8:Int).toNat IntKind.i64.bits)=256 by decide]
  omega
 unfold putH
 rw [e1,show ((p.1.length:Int) % 256).toNat=p.1.length by omega]
 rfl
theorem putS_eq {p:List Pg1 × Pg2} (h:p.1.length<=80):putS p=0 :: UInt8.ofNat p.1.length :: (p.1.flatMap put1F++put2F p.2):=by
 show putH p++p.1.flatMap put1F++put2F p.2=_
 rw [putH_eq h,List.append_assoc]
 rfl
theorem tkA_nat {b:List UInt8} {n:Nat} (h:tkN b=(n:Int)) (hn:n<=80):tkA b=((2+n*48+96:Nat):Int):=by
 unfold tkA
 rw [h,IntWalk.i64_in ((n:Int)*48) (by omega),IntWalk.i64_in (2+(n:Int)*48) (by omega),IntWalk.i64_in _ (by omega)]
 omega
theorem tkG_all {t1:List UInt8->Pg1 × Int} {t2:List UInt8->Pg2 × Int} {cF:List Pg1 × Pg2->Int} {b:List UInt8} {n:Nat} (hN:tkN b=(n:Int)) (h2:2<=n) (h80:n<=80) (hl:b.length=2+n*48+96):tkG t1 t2 cF b=match (tkL t1 b 2 n []).1 != 0 with
  | true=>(([],pg20),(tkL t1 b 2 n []).1)
  | false=>tkT t2 cF (List.drop (2+n*48) b) (tkL t1 b 2 n []).2:=by
 have hA:=tkA_nat hN h80
 have a1:decide ((b.length:Int)<2)=false:=decide_eq_false (by omega)
 have a2:decide (tkN b<2)=false:=decide_eq_false (by omega)
 have a3:decide (tkN b > 80)=false:=decide_eq_false (by omega)
 have a4:decide ((b.length:Int)<tkA b)=false:=decide_eq_false (by omega)
 have a5:decide ((b.length:Int) > tkA b)=false:=decide_eq_false (by omega)
 have a6:(tkN b).toNat=n:=by omega
 unfold tkG
 rw [a1,a2,a3,a4,a5,a6]
 all_goals rfl
end
set_option maxRecDepth 100000
section
def cutI (put:List UInt8) (cut:UInt16):Int:=(IntKind.i64.wrap (cut.toNat:Int)).tmod (put.length:Int)
def rawP (p:List Pg1 × Pg2):List Pg1 × Pg2:=(List.take p.1.length (List.drop 0 p.1),p.2)
theorem rawP_eq (p:List Pg1 × Pg2):rawP p=p:=powEta p
theorem cutI_nat {put:List UInt8} {cut:UInt16} (h:0<put.length) (hb:put.length<65536):cutI put cut=((cut.toNat % put.length:Nat):Int)/\cut.toNat % put.length<put.length:=by
 have hc:=cut.toNat_lt
 refine ⟨?_,Nat.mod_lt _ h⟩
 unfold cutI
 rw [IntWalk.i64_in _ (by omega),Int.tmod_eq_emod_of_nonneg (by omega)]
 exact (Int.natCast_emod _ _).symm
theorem vcSlB {xs:List UInt8} (h:xs.length<16777216):(0+xs.length<=xs.length/\xs.length<1125899906842624/\0=0/\1=1)/\littleB (List.take xs.length (List.drop 0 xs)):=by
 rw [whole8]
 exact ⟨⟨by omega,by omega,rfl,rfl⟩,h⟩
end
set_option maxRecDepth 100000
section
theorem tkL_back {b:List UInt8} : ∀ (n off:Nat) (l:List Pg1),off+n*48<=b.length->(tkL take1F b off n l).1=0 -> ∃ L:List Pg1,(tkL take1F b off n l).2=l++L/\L.length=n/\L.flatMap put1F=List.take (n*48) (List.drop off b)
 | 0,off,l,_,_=>⟨[],(List.append_nil l).symm,rfl,by rw [Nat.zero_mul,List.take_zero];rfl⟩
 | n+1,off,l,hb,h=>by
  rw [tkL_succ] at h ⊢
  cases hc:((take1F (List.take 48 (List.drop off b))).2 != 0) with
  | true =>
   rw [hc] at h
   have h:(take1F (List.take 48 (List.drop off b))).2=0:=h
   rw [h] at hc
   cases hc
  | false =>
   rw [hc] at h
   have hx:=back1 (int_zero hc)
   obtain ⟨L,h1,h2,h3⟩:=tkL_back n (off+48) (l ++ [(take1F (List.take 48 (List.drop off b))).1]) (by omega) h
   refine ⟨(take1F (List.take 48 (List.drop off b))).1 :: L,?_,by rw [List.length_cons,h2],?_⟩
   ·show (tkL take1F b (off+48) n (l ++ [(take1F (List.take 48 (List.drop off b))).1])).2=_
    rw [h1,List.append_assoc]
    rfl
   ·rw [List.flatMap_cons,hx,h3,show (n+1)*48=48+n*48 by omega,List.take_add,List.drop_drop]
theorem two_bytes {b:List UInt8} {n:Nat} (h:tkN b=(n:Int)) (hn:n<=80) (hl:2<=b.length):List.take 2 b = [0,UInt8.ofNat n]:=by
 rw [tkN_nat] at h
 match b,hl with
 | x :: y :: r,_ =>
  have h:((x.toNat*256+y.toNat:Nat):Int)=(n:Int):=h
  have hx:x=0:=UInt8.toNat_inj.1 (by show x.toNat=0;omega)
  have hy:y=UInt8.ofNat n:=UInt8.toNat_inj.1 (by rw [UInt8.toNat_ofNat'];have:=y.toNat_lt;omega)
  show [x,y]=_
  rw [hx,hy]
theorem tkT_zero {t2:List UInt8->Pg2 × Int} {cF:List Pg1 × Pg2->Int} {r:List UInt8} {l:List Pg1} (h:(tkT t2 cF r l).2=0):(t2 r).2=0/\tkT t2 cF r l=((l,(t2 r).1),0):=by
 unfold tkT at h ⊢
 cases h1:((t2 r).2 != 0) with
 | true =>
  rw [h1] at h
  have h:(t2 r).2=0:=h
  rw [h] at h1
  cases h1
 | false =>
  rw [h1] at h
  cases h2:(cF (l,(t2 r).1) != 0) with
  | true =>
   rw [h2] at h
   have h:cF (l,(t2 r).1)=0:=h
   rw [h] at h2
   cases h2
  | false=>exact ⟨int_zero h1,rfl⟩
theorem tkG_zero {t1:List UInt8->Pg1 × Int} {t2:List UInt8->Pg2 × Int} {cF:List Pg1 × Pg2->Int} {b:List UInt8} (h:(tkG t1 t2 cF b).2=0) : ∃ n:Nat,tkN b=(n:Int)/\2<=n/\n<=80/\b.length=2+n*48+96/\(tkL t1 b 2 n []).1=0/\(t2 (List.drop (2+n*48) b)).2=0/\tkG t1 t2 cF b=(((tkL t1 b 2 n []).2,(t2 (List.drop (2+n*48) b)).1),0):=by
 have hp:=tkN_pos b
 cases a1:decide ((b.length:Int)<2) with
 | true=>unfold tkG at h;rw [a1] at h;exact absurd (show (2:Int)=0 from h) (by decide)
 | false =>
 cases a2:decide (tkN b<2) with
 | true=>unfold tkG at h;rw [a1,a2] at h;exact absurd (show (1:Int)=0 from h) (by decide)
 | false =>
 cases a3:decide (tkN b > 80) with
 | true=>unfold tkG at h;rw [a1,a2,a3] at h;exact absurd (show (1:Int)=0 from h) (by decide)
 | false =>
 cases a4:decide ((b.length:Int)<tkA b) with
 | true=>unfold tkG at h;rw [a1,a2,a3,a4] at h;exact absurd (show (2:Int)=0 from h) (by decide)
 | false =>
 cases a5:decide ((b.length:Int) > tkA b) with
 | true=>unfold tkG at h;rw [a1,a2,a3,a4,a5] at h;exact absurd (show (8:Int)=0 from h) (by decide)
 | false =>
  simp only [decide_eq_false_iff_not] at a1 a2 a3 a4 a5
  obtain ⟨n,hN⟩ : ∃ n:Nat,tkN b=(n:Int):=⟨(tkN b).toNat,by omega⟩
  have hA:=tkA_nat hN (by omega)
  have hl:b.length=2+n*48+96:=by omega
  have e:=tkG_all (t1:=t1) (t2:=t2) (cF:=cF) hN (by omega) (by omega) hl
  rw [e] at h ⊢
  refine ⟨n,hN,by omega,by omega,hl,?_⟩
  cases h1:((tkL t1 b 2 n []).1 != 0) with
  | true =>
   rw [h1] at h
   have h:(tkL t1 b 2 n []).1=0:=h
   rw [h] at h1
   cases h1
  | false =>
   rw [h1] at h
   obtain ⟨k1,k2⟩:=tkT_zero (show (tkT t2 cF (List.drop (2+n*48) b) (tkL t1 b 2 n []).2).2=0 from h)
   exact ⟨int_zero h1,k1,k2⟩
theorem takeS_zero {b:List UInt8} (h:(takeS b).2=0):(takeS b).1.1.length<=80/\putS (takeS b).1=b:=by
 unfold takeS at h ⊢
 obtain ⟨n,hN,h2,h80,hl,k1,k2,k3⟩:=tkG_zero h
 obtain ⟨L,e1,e2,e3⟩:=tkL_back (b:=b) n 2 [] (by omega) k1
 rw [k3,e1,List.nil_append]
 dsimp only
 refine ⟨by omega,?_⟩
 rw [putS_eq (by show L.length<=80;omega)]
 dsimp only
 rw [back2 k2,e3,e2,<- List.drop_drop]
 have ht:=two_bytes hN h80 (by omega)
 rw [List.take_append_drop]
 have:=List.take_append_drop 2 b
 rw [ht] at this
 exact this
def rdI (byt:List UInt8) (pl:UInt16):Int:=(IntKind.i64.wrap (pl.toNat:Int)).tmod (byt.length:Int)
def srdC (byt:List UInt8) (pl:UInt16) (x:UInt8):List UInt8:=List.take byt.length (List.drop 0 (byt.set (0+(rdI byt pl).toNat*1) (byt.getD (0+(rdI byt pl).toNat*1) 0 ^^^ x)))
def rdN (b:List UInt8):Int:=IntKind.i64.wrap (IntKind.i64.wrap (((b.getD 0 0).toNat:Int)*256)+((b.getD 1 0).toNat:Int))
def rdA (b:List UInt8):Int:=IntKind.i64.wrap (IntKind.i64.wrap (2+IntKind.i64.wrap (48*rdN b))+96)
def rdR (S:List Pg1 × Pg2->List Pg1 × Pg2->Bool) (W:List Pg1 × Pg2->List UInt8) (t:(List Pg1 × Pg2) × Int) (b:List UInt8):Bool :=
 cond (decide ((b.length:Int) >= 2)) (cond (decide ((b.length:Int)<2)) (t.2==2) (cond (decide (rdN b<2)) (t.2==1) (cond (decide (rdN b > 80)) (t.2==1) (cond (decide ((b.length:Int)<rdA b)) (t.2==2) (cond (decide ((b.length:Int) > rdA b)) (t.2==8) (cond (t.2 != 0) true (S (rawP t.1) (rawP t.1) && (List.take (W (rawP t.1)).length (List.drop 0 (W (rawP t.1)))==List.take b.length (List.drop 0 b)))))))))
  (cond (decide ((b.length:Int)<2)) (t.2==2) (t.2==1))
theorem srsReads_G (c:Bool) (M:Fr->Bool) (O:Fr->Int->List Pg1 × Pg2) (Y:List Pg1 × Pg2->List UInt8) (T:List UInt8->(List Pg1 × Pg2) × Int) (W:List Pg1 × Pg2->List UInt8) (S:List Pg1 × Pg2->List Pg1 × Pg2->Bool) (tau:Fr) (pl:UInt16) (x:UInt8) (b:List UInt8):(srsReads_T c M O Y T W S tau pl x b).outD false =
  cond (!c) false (cond (!M tau) true (cond (frEq tau frZ) true (cond (decide ((b.length:Int) > 600)) true
   (cond ((T (srdC (Y (rawP (O tau 2))) pl x)).2==0)
    (cond (!(List.take (W (rawP (T (srdC (Y (rawP (O tau 2))) pl x)).1)).length (List.drop 0 (W (rawP (T (srdC (Y (rawP (O tau 2))) pl x)).1)))==srdC (Y (rawP (O tau 2))) pl x)) false (rdR S W (T (List.take b.length (List.drop 0 b))) b))
    (rdR S W (T (List.take b.length (List.drop 0 b))) b))))):=by
 unfold srsReads_T
 simp only [outD_br,outD_vc,outD_leaf,cond_and7]
 rfl
theorem rdN_eq (b:List UInt8):rdN b=tkN b:=by
 have h1:=(b.getD 0 0).toNat_lt
 have h2:=(b.getD 1 0).toNat_lt
 unfold rdN
 rw [tkN_nat,IntWalk.i64_in (((b.getD 0 0).toNat:Int)*256) (by omega),IntWalk.i64_in _ (by omega)]
 omega
theorem rdA_eq (b:List UInt8):rdA b=tkA b:=by
 unfold rdA tkA
 rw [rdN_eq,Int.mul_comm]
theorem rdR_true (b:List UInt8):rdR sameF putS (takeS b) b=true:=by
 unfold rdR
 rw [rdN_eq,rdA_eq]
 cases a1:decide ((b.length:Int)<2) with
 | true =>
  have e:(takeS b).2=2:=by unfold takeS tkG;rw [a1]
  rw [e]
  cases decide ((b.length:Int) >= 2) <;> rfl
 | false =>
  have a0:decide ((b.length:Int) >= 2)=true:=by
   simp only [decide_eq_false_iff_not] at a1
   exact decide_eq_true (by omega)
  rw [a0]
  cases a2:decide (tkN b<2) with
  | true =>
   have e:(takeS b).2=1:=by unfold takeS tkG;rw [a1,a2]
   rw [e]
   rfl
  | false =>
  cases a3:decide (tkN b > 80) with
  | true =>
   have e:(takeS b).2=1:=by unfold takeS tkG;rw [a1,a2,a3]
   rw [e]
   rfl
  | false =>
  cases a4:decide ((b.length:Int)<tkA b) with
  | true =>
   have e:(takeS b).2=2:=by unfold takeS tkG;rw [a1,a2,a3,a4]
   rw [e]
   rfl
  | false =>
  cases a5:decide ((b.length:Int) > tkA b) with
  | true =>
   have e:(takeS b).2=8:=by unfold takeS tkG;rw [a1,a2,a3,a4,a5]
   rw [e]
   rfl
  | false =>
   cases h:((takeS b).2 != 0) with
   | true=>rfl
   | false =>
    have hz:=(takeS_zero (int_zero h)).2
    rw [rawP_eq,sameF_self,whole8,whole8,hz,beq_self_eq_true]
    rfl
theorem srsReads_law (tau:Fr) (pl:UInt16) (x:UInt8) (b:List UInt8):srsReads tau pl x b=true:=by
 unfold srsReads
 rw [srsReads_G,begun17_true]
 generalize srdC (bytS (rawP (powsF tau 2))) pl x=c
 have hr:=rdR_true b
 rw [whole8 b,hr]
 have e:(takeS c).2==0->(List.take (putS (rawP (takeS c).1)).length (List.drop 0 (putS (rawP (takeS c).1)))==c)=true:=fun h=>by
  have hz:=(takeS_zero (eq_of_beq h)).2
  rw [whole8,rawP_eq,hz]
  exact beq_self_eq_true _
 cases mayRF tau with
 | false=>rfl
 | true =>
  cases frEq tau frZ with
  | true=>rfl
  | false =>
   cases decide ((b.length:Int) > 600) with
   | true=>rfl
   | false =>
    cases h:((takeS c).2==0) with
    | false=>rfl
    | true =>
     rw [e h]
     rfl
theorem bytS_len (p:List Pg1 × Pg2):(bytS p).length=2+p.1.length*48+96:=by
 show (bytH p++p.1.flatMap rput1F++rput2F p.2).length=_
 rw [List.length_append,List.length_append,flat_len rput1F_len,rput2F_len]
 rfl
theorem vcWr {xs:List UInt8} {k:Nat} {v:UInt8} (h:xs.length<16777216):(0+xs.length<=(xs.set k v).length/\xs.length<1125899906842624/\0=0/\1=1)/\littleB (List.take xs.length (List.drop 0 (xs.set k v))):=by
 refine ⟨⟨by rw [List.length_set];omega,by omega,rfl,rfl⟩,?_⟩
 show (List.take _ _).length<16777216
 rw [List.length_take]
 omega
theorem takeS_few {b:List UInt8} (h:(takeS b).2=0):few (takeS b).1.1:=by
 have:=(takeS_zero h).1
 show (takeS b).1.1.length<4294967296
 omega
theorem srsReads_ok (tau:Fr) (pl:UInt16) (x:UInt8) (b:List UInt8) (hb:b.length<topLen):(srsReads_T begun17 mayRF powsF bytS takeS putS sameF tau pl x b).full=true/\(srsReads_T begun17 mayRF powsF bytS takeS putS sameF tau pl x b).okAll:=by
 refine ⟨rfl,fun _=>trivial,fun _=>⟨fun _=>trivial,fun _=>⟨fun _=>trivial,fun _=>⟨vcLenB b,fun _=>trivial,fun h6 => ?_⟩⟩⟩⟩
 simp only [decide_eq_false_iff_not] at h6
 have hO:few (powsF tau 2).1:=by
  show (powL (ofRF 1) commG mulRF tau 2).length<4294967296
  rw [powL_len]
  decide
 have hl:(bytS (powsF tau 2)).length=194:=by
  rw [bytS_len]
  show 2+(powL (ofRF 1) commG mulRF tau 2).length*48+96=194
  rw [powL_len]
 rw [powEta]
 obtain ⟨c1,c2⟩:=cutI_nat (put:=bytS (powsF tau 2)) (cut:=pl) (by omega) (by omega)
 unfold cutI at c1
 rw [c1]
 generalize bytS (powsF tau 2)=w at *
 refine ⟨⟨by decide,by decide⟩,⟨(vcFewG hO).1,hO⟩,vcLenB w,by omega,vcIdxB c2,vcGetB c2,vcIdxB c2,vcGetB c2,vcWr (by omega),?_⟩
 refine ⟨fun h=>⟨vcFewG (takeS_few (eq_of_beq h)),by omega,by rw [List.length_set];omega,fun _=>trivial,fun _ => ?_⟩,fun _ => ?_⟩
 all_goals
  refine ⟨vcSlB (by omega),vcLenB b,fun g2 => ?_,fun _=>⟨vcLenB b,fun _=>trivial,fun _=>trivial⟩⟩
  simp only [ge_iff_le,decide_eq_true_eq] at g2
  refine ⟨vcAtB (by omega),by omega,vcAtB (by omega),by omega,vcLenB b,fun _=>trivial,fun _=>⟨fun _=>trivial,fun _=>⟨fun _=>trivial,fun _=>⟨vcLenB b,fun _=>trivial,fun _=>⟨vcLenB b,fun _=>trivial,fun _=>⟨fun _=>trivial,fun hz => ?_⟩⟩⟩⟩⟩⟩
  have vq:=vcFewG (takeS_few (int_zero hz))
  exact ⟨⟨vq,vq⟩,fun _=>⟨vq,by omega,by omega,trivial⟩,fun _=>trivial⟩
theorem srsReads_gives {w:World} {v0 v1 v2 v3:Value} {tau:Fr} {pl:UInt16} {x:UInt8} {b:List UInt8} (g0:(kRow Fr).arg.is w v0 tau) (g1:kU16.arg.is w v1 pl) (g2:kU8.arg.is w v2 x) (g3:aB.is w v3 b):Gives Tryz.prog 6 #[v0,v1,v2,v3] w kBool.rs.res true:=by
 have:=srsReads_gives' tau pl x b g0 g1 g2 g3 (fun hb=>srsReads_ok tau pl x b hb)
 rw [srsReads_law] at this
 exact this
end
end Go.Proofs.YtcbplfkeeaecgaaGreat
