/- Texts of the proof, joined. -/
import Derived.Test.YtgpafcehehaiiaaGreatZH7
set_option linter.unusedSectionVars false
set_option linter.unusedSimpArgs false
set_option linter.unusedVariables false
namespace Go.Proofs.YtgpafcehehaiiaaGreat
open Go.RowKit
set_option maxRecDepth 100000
section
theorem at1_infP {p:Pg1} (h:p=infG1):At1 p 0:=by
 subst h
 exact ⟨⟨.inl rfl,trivial⟩,by rw [gm_zero];rfl⟩
theorem sum2 {a b:Pg1} {k l:Fr} {A B:VR} (ha:At1 a A) (hb:At1 b B) (hk:k.ok) (hl:l.ok):At1 (sumG1 [a,b] [k,l]) (0+A*k.v+B*l.v):=by
 have h:=at1_sum (ps := [a,b]) (ks := [k,l]) (X:=fun i => [A,B].getD i 0) (fun i hi=>by
  match i,hi with
  | 0,_=>exact ha
  | 1,_=>exact hb) (fun i hi=>by
  match i,hi with
  | 0,_=>exact hk
  | 1,_=>exact hl)
 exact h
theorem sum5 {a b c d e:Pg1} {k l m n o:Fr} {A B C D E:VR} (ha:At1 a A) (hb:At1 b B) (hc:At1 c C) (hd:At1 d D) (he:At1 e E) (hk:k.ok) (hl:l.ok) (hm:m.ok) (hn:n.ok) (ho:o.ok):At1 (sumG1 [a,b,c,d,e] [k,l,m,n,o]) (0+A*k.v+B*l.v+C*m.v+D*n.v+E*o.v):=by
 have h:=at1_sum (ps := [a,b,c,d,e]) (ks := [k,l,m,n,o]) (X:=fun i => [A,B,C,D,E].getD i 0) (fun i hi=>by
  match i,hi with
  | 0,_=>exact ha
  | 1,_=>exact hb
  | 2,_=>exact hc
  | 3,_=>exact hd
  | 4,_=>exact he) (fun i hi=>by
  match i,hi with
  | 0,_=>exact hk
  | 1,_=>exact hl
  | 2,_=>exact hm
  | 3,_=>exact hn
  | 4,_=>exact ho)
 exact h
theorem VR.sideA (a b r:VR):0+a*1+b*r=a+b*r:=by grind
theorem VR.sideB (a b c d y u z x r:VR):0+a*z+b*(r*x)+c*1+d*r+1 * -(y+r*u)=a*z+b*(r*x)+c+d*r-(y+r*u):=by grind
theorem at1_gen1:At1 oneG1 1:=⟨gen1_good,by rw [gm_one]⟩
theorem bSides_v {c y d u:List Fr} {z x v r:Fr} {wa wb:Pg1} {A B:VR} (hc:okFs c) (hy:okFs y) (hd:okFs d) (hu:okFs u) (hz:z.ok) (hx:x.ok) (hv:v.ok) (hr:r.ok) (ha:At1 wa A) (hb:At1 wb B) :
  At1 (bSides (pntsF c) y z (pntsF d) u x v r ⟨wa,wb⟩).1 (A+B*r.v)/\At1 (bSides (pntsF c) y z (pntsF d) u x v r ⟨wa,wb⟩).2 (A*z.v+B*(r.v*x.v)+hor v.v (vL c)+hor v.v (vL d)*r.v-(hor v.v (vL y)+r.v*hor v.v (vL u))):=by
 rw [bSides_eq,ofP1]
 obtain ⟨y1,y2⟩:=scalP_v hy hv
 obtain ⟨u1,u2⟩:=scalP_v hu hv
 obtain ⟨m1,m2⟩:=mulPR_v hr hx
 obtain ⟨n1,n2⟩:=mulPR_v hr u1
 obtain ⟨a1,a2⟩:=addPR_v y1 n1
 obtain ⟨g1,g2⟩:=negPR_v a1
 have h1:=sum2 ha hb oneFr_ok hr
 have h2:=sum5 ha hb (pntP_v hc hv) (pntP_v hd hv) at1_gen1 hz m1 oneFr_ok hr g1
 rw [v_oneFr,VR.sideA] at h1
 rw [v_oneFr,g2,a2,n2,m2,y2,u2,VR.sideB] at h2
 dsimp only
 exact ⟨h1,h2⟩
theorem check_val2 {a b:Pg1} {t q:Pg2} {A B T:VR} (ha:At1 a A) (hb:At1 b B) (ht:At2 t T) (hq:At2 q 1):prCheck [⟨a,t⟩,⟨negG1 b,q⟩]=true <-> A*T=B:=by
 have hn:=at1_neg hb
 have hd : ∀ x ∈ [(⟨a,t⟩:Duo),⟨negG1 b,q⟩],DuoP x:=fun x hx=>by
  rcases List.mem_cons.1 hx with rfl | hx
  ·exact ⟨ha.in1,ht.in2⟩
  ·rcases List.mem_cons.1 hx with rfl | hx
   ·exact ⟨hn.in1,hq.in2⟩
   ·exact (List.not_mem_nil hx).elim
 rw [prCheck_w (by show 2<=20;decide) hd,prL_cons,prL_cons,prL_nil,mOne]
 simp only []
 rw [ha.pt,hq.pt,hn.pt,ht.pt,prV_gh,prV_gh,<- em_add,em_one_iff]
 constructor
 ·intro h
  have:A*T + -B*1=A*T-B:=by grind
  rw [this] at h
  grind
 ·intro h
  rw [h]
  grind
theorem inLs_pnts {c:List Fr} (hc:okFs c):inLs (pntsF c)=true:=by
 unfold inLs
 refine (inAll_iff _ _).2 fun x hx => ?_
 unfold pntsF at hx
 obtain ⟨a,ha,rfl⟩:=List.mem_map.1 hx
 exact at1_inG (at1_comm (hc a ha))
theorem inLs_two {a b:Pg1} {A B:VR} (ha:At1 a A) (hb:At1 b B):inLs [a,b]=true:=by
 unfold inLs
 refine (inAll_iff _ _).2 fun x hx => ?_
 rcases List.mem_cons.1 hx with rfl | hx
 ·exact at1_inG ha
 ·rw [List.mem_singleton.1 hx]
  exact at1_inG hb
theorem bCheck_v {T:VR} {t:Pg2} {c y d u:List Fr} {z x v r:Fr} {wa wb:Pg1} {A B:VR} (ht:At2 t T) (hc:okFs c) (hy:okFs y) (hd:okFs d) (hu:okFs u) (hz:z.ok) (hx:x.ok) (hv:v.ok) (hr:r.ok) (ha:At1 wa A) (hb:At1 wb B) :
  bCheck t (pntsF c) y z (pntsF d) u x v r ⟨wa,wb⟩=true <-> c.length=y.length/\d.length=u.length/\(A+B*r.v)*T=A*z.v+B*(r.v*x.v)+hor v.v (vL c)+hor v.v (vL d)*r.v-(hor v.v (vL y)+r.v*hor v.v (vL u)):=by
 obtain ⟨s1,s2⟩:=bSides_v hc hy hd hu hz hx hv hr ha hb
 rw [bCheck_eq,pnts_len,pnts_len,inLs_pnts hc,inLs_pnts hd,at2_inG ht]
 have h2:=inLs_two ha hb
 rw [h2,Bool.true_and,Bool.true_and,Bool.true_and,Bool.true_and,Bool.and_eq_true,Bool.and_eq_true,beq_iff_eq,beq_iff_eq,check_val2 s1 s2 ht at2_one]
theorem batchOne_L {M:List Fr->Int->Bool} {h:Fr->Pg2} {g:Fr->Pg1} {bC:Pg2->List Pg1->List Fr->Fr->List Pg1->List Fr->Fr->Fr->Fr->PP->Bool} {kC:Pg2->Pg1->Fr->Fr->Pg1->Bool} {tau c z y w0 v r:Fr} {fit:Bool}
  (H:M [tau,c,z,y,w0,v,r] 7=true->bC (h tau) [g c] [cond fit c y] z [] [] z v r ⟨g (cond fit frZ w0),infG1⟩=kC (h tau) (g c) z (cond fit c y) (g (cond fit frZ w0))):(batchOne_T true M h g bC kC tau c z y w0 v r fit).outD false=true:=by
 unfold batchOne_T
 simp only [outD_br,outD_vc,outD_leaf]
 cases e:M [tau,c,z,y,w0,v,r] 7 with
 | false=>rfl
 | true =>
  have H:=H e
  cases fit with
  | true=>exact (beq_iff_eq).2 H
  | false=>exact (beq_iff_eq).2 H
theorem VR.one2 (A r T z v C Y:VR):(A+0*r)*T=A*z+0*(r*z)+hor v [C]+hor v []*r-(hor v [Y]+r*hor v []) <-> C-Y=A*(T-z):=by
 rw [hor_cons,hor_cons,hor_nil]
 constructor
 ·intro h
  grind
 ·intro h
  grind
theorem cond_okF {b:Bool} {x y:Fr} (hx:x.ok) (hy:y.ok):(cond b x y).ok:=by cases b <;> assumption
theorem batchOne_law (tau c z y w0 v r:Fr) (fit:Bool):batchOne tau c z y w0 v r fit=true:=by
 unfold batchOne
 rw [begun19_true]
 refine batchOne_L fun e => ?_
 have h:=(mayLF_true e).1
 have k1:=h tau (by simp)
 have k2:=h c (by simp)
 have k3:=h z (by simp)
 have k4:=h y (by simp)
 have k5:=h w0 (by simp)
 have k6:=h v (by simp)
 have k7:=h r (by simp)
 have hy:(cond fit c y).ok:=cond_okF k2 k4
 have hw:(cond fit frZ w0).ok:=cond_okF frZ_ok k5
 generalize cond fit c y=y' at *
 generalize cond fit frZ w0=w' at *
 have b:=bCheck_v (c := [c]) (y := [y']) (d := []) (u := []) (z:=z) (x:=z) (v:=v) (r:=r) (at2_comm k1) (okFs_one k2) (okFs_one hy) okFs_nil okFs_nil k3 k3 k6 k7 (at1_comm hw) (at1_infP rfl)
 have k:=kCheck_val (z:=z) (y:=y') (at2_comm k1) (at1_comm k2) (at1_comm hw) k3 hy
 have e1:pntsF [c] = [commG c]:=by
  unfold pntsF
  rw [List.map_cons,List.map_nil]
 have e2:pntsF [] = []:=by
  unfold pntsF
  rw [List.map_nil]
 rw [e1,e2] at b
 have key:(bCheck (commH tau) [commG c] [y'] z [] [] z v r ⟨commG w',infG1⟩=true) <-> (kCheck (commH tau) (commG c) z y' (commG w')=true):=by
  rw [b,k]
  refine ⟨fun ⟨_,_,h⟩ => ?_,fun h=>⟨rfl,rfl,?_⟩⟩
  ·exact (VR.one2 _ _ _ _ _ _ _).1 h
  ·exact (VR.one2 _ _ _ _ _ _ _).2 h
 cases e3:kCheck (commH tau) (commG c) z y' (commG w') with
 | true=>exact key.2 e3
 | false =>
  cases e4:bCheck (commH tau) [commG c] [y'] z [] [] z v r ⟨commG w',infG1⟩ with
  | false=>rfl
  | true =>
   rw [key.1 e4] at e3
   cases e3
theorem nfew1 (p:Pg1):few [p]:=Nat.succ_lt_succ (Nat.zero_lt_succ _)
theorem nfewR1 (p:Fr):fewR [p]:=Nat.succ_lt_succ (Nat.zero_lt_succ _)
theorem nfew0:few []:=Nat.zero_lt_succ _
theorem nfewR0:fewR []:=Nat.zero_lt_succ _
theorem batchOne_ok (tau c z y w0 v r:Fr) (fit:Bool):(batchOne_T begun19 mayLF commH commG bCheck kCheck tau c z y w0 v r fit).full=true/\(batchOne_T begun19 mayLF commH commG bCheck kCheck tau c z y w0 v r fit).okAll:=by
 refine ⟨rfl,?_⟩
 exact ⟨fun _=>trivial,fun _=>⟨fun _=>trivial,fun _=>⟨fun _=>⟨⟨nfew1 (commG c),nfewR1 c,nfew0,nfewR0⟩,trivial⟩,fun _=>⟨⟨nfew1 (commG c),nfewR1 y,nfew0,nfewR0⟩,trivial⟩⟩⟩⟩
theorem batchOne_gives (tau c z y w0 v r:Fr) (fit:Bool) (w:World):Gives Tryz.prog 11 ((KdL.cons (kRow Fr) (KdL.cons (kRow Fr) (KdL.cons (kRow Fr) (KdL.cons (kRow Fr) (KdL.cons (kRow Fr) (KdL.cons (kRow Fr) (KdL.cons (kRow Fr) (KdL.cons kBool KdL.nil)))))))).vals (tau,c,z,y,w0,v,r,fit,())).toArray w kBool.rs.res true:=by
 have:=batchOne_gives' tau c z y w0 v r fit (batchOne_ok tau c z y w0 v r fit) w
 rw [batchOne_law] at this
 exact this
end
set_option maxRecDepth 100000
section
def boW (b:Bool):AV := .one (.c (.bool b))
noncomputable abbrev ccC:List Code:=flat (codeOf Tryz.f10)
noncomputable abbrev ccE (bF:Bool) (mF:List Fr->Int->Bool) (lF:Fr->List Fr->List Fr->List Fr->List Fr->Fr->Fr->Fr->Fr->FF->Fr) (sF:Fr->Fr->Fr) (hF:Fr->Pg2) (gF:Fr->Pg1) (pF:List Fr->List Pg1) (cF:Pg2->List Pg1->List Fr->Fr->List Pg1->List Fr->Fr->Fr->Fr->PP->Bool):Env:=Ens [(13,K0 kBool.rs.res bF),(14,K2 (argRw .fr) kInt.arg kBool.rs.res mF),(40,KL (ArgL.cons (kRow Fr).arg (ArgL.cons (argRw .fr) (ArgL.cons (argRw .fr) (ArgL.cons (argRw .fr) (ArgL.cons (argRw .fr) (ArgL.cons (kRow Fr).arg (ArgL.cons (kRow Fr).arg (ArgL.cons (kRow Fr).arg (ArgL.cons (kRow Fr).arg (ArgL.cons (kRow FF).arg ArgL.nil)))))))))) (kRow Fr).rs.out.res (fun x=>lF x.1 x.2.1 x.2.2.1 x.2.2.2.1 x.2.2.2.2.1 x.2.2.2.2.2.1 x.2.2.2.2.2.2.1 x.2.2.2.2.2.2.2.1 x.2.2.2.2.2.2.2.2.1 x.2.2.2.2.2.2.2.2.2.1)),(27,Kr2 sF),(31,K1 (kRow Fr).arg (kRow Pg2).rs.res hF),(32,K1 (kRow Fr).arg (kRow Pg1).rs.res gF),(42,K1 aFew oG1s.res pF),(41,KL (ArgL.cons (kRow Pg2).arg (ArgL.cons ((argRw .g1).such few) (ArgL.cons aFew (ArgL.cons (kRow Fr).arg (ArgL.cons ((argRw .g1).such few) (ArgL.cons aFew (ArgL.cons (kRow Fr).arg (ArgL.cons (kRow Fr).arg (ArgL.cons (kRow Fr).arg (ArgL.cons (kRow PP).arg ArgL.nil)))))))))) kBool.rs.out.res (fun x=>cF x.1 x.2.1 x.2.2.1 x.2.2.2.1 x.2.2.2.2.1 x.2.2.2.2.2.1 x.2.2.2.2.2.2.1 x.2.2.2.2.2.2.2.1 x.2.2.2.2.2.2.2.2.1 x.2.2.2.2.2.2.2.2.2.1))] [42]
def ccS (tau:Fr) (c y d u:List Fr) (z x v r:Fr) (ws:FF) (fit:Bool):St:=mkSt 147 [(1,rwV .fr 0 c),(2,rwV .fr 1 y),(3,rwV .fr 2 d),(4,rwV .fr 3 u),(10,boW fit),(11,ptrV 4),(16,ptrV 5),(17,ptrV 6),(18,ptrV 7),(19,ptrV 8),(20,ptrV 9)] [rwHE .fr c,rwHE .fr y,rwHE .fr d,rwHE .fr u,own 24 (Row.cs tau),own 24 (Row.cs z),own 24 (Row.cs x),own 24 (Row.cs v),own 24 (Row.cs r),own 74 (Row.cs ws)]
def ccM (o:Bool) (ty n:Nat) (tau:Fr) (c y d u:List Fr) (z x v r:Fr) (ws:FF):St:=mkSt 147 [(1,.one (.c (.slc 9 0 n 4 (.of 0) false))),(2,rwV .fr 0 y),(3,rwV .fr 1 d),(4,rwV .fr 2 u),(11,ptrV 3),(16,ptrV 4),(17,ptrV 5),(18,ptrV 6),(19,ptrV 7),(20,ptrV 8)] [rwHE .fr y,rwHE .fr d,rwHE .fr u,own 24 (Row.cs tau),own 24 (Row.cs z),own 24 (Row.cs x),own 24 (Row.cs v),own 24 (Row.cs r),own 74 (Row.cs ws),.live ⟨o,ty,4,.rows .fr c,false⟩]
theorem cc_start (bF:Bool) (mF:List Fr->Int->Bool) (lF:Fr->List Fr->List Fr->List Fr->List Fr->Fr->Fr->Fr->Fr->FF->Fr) (sF:Fr->Fr->Fr) (hF:Fr->Pg2) (gF:Fr->Pg1) (pF:List Fr->List Pg1) (cF:Pg2->List Pg1->List Fr->Fr->List Pg1->List Fr->Fr->Fr->Fr->PP->Bool) (tau:Fr) (c y d u:List Fr) (z x v r:Fr) (ws:FF) (fit:Bool):segT (ccE bF mF lF sF hF gF pF cF) oB 300 Tryz.f10 (ccC.take 5) (startSt Tryz.f10 [v4 tau,rwV .fr 0 c,rwV .fr 1 y,rwV .fr 2 d,rwV .fr 3 u,v4 z,v4 x,v4 v,v4 r,.one ((kRow FF).av ws),boW fit] [rwHE .fr c,rwHE .fr y,rwHE .fr d,rwHE .fr u]) [1,2,3,4,10,11,16,17,18,19,20] [0,1,2,3,4,5,6,7,8,9] [(1,.as),(2,.as),(3,.as),(4,.as),(10,.as),(11,.as),(16,.as),(17,.as),(18,.as),(19,.as),(20,.as)] [] []=(.br (!(bF)) (.leaf (.inr (some ((false,.t))))) (.vc (0+c.length*4<=(rowsC RK.fr c).length/\0=0/\c.length<1125899906842624/\0=0/\4=4) (.br (!(mF (List.take c.length (List.drop 0 c)) 3)) (.leaf (.inr (some ((true,.t))))) (.vc (0+d.length*4<=(rowsC RK.fr d).length/\0=0/\d.length<1125899906842624/\0=0/\4=4) (.br (!(mF (List.take d.length (List.drop 0 d)) 3)) (.leaf (.inr (some ((true,.t))))) (.br (!(mF [tau,z,x,v,r,ws.a,ws.b] 7)) (.leaf (.inr (some ((true,.t))))) (.vc (0+y.length*4<=(rowsC RK.fr y).length/\0=0/\y.length<1125899906842624/\0=0/\4=4) (.br (!(mF (List.take y.length (List.drop 0 y)) 3)) (.leaf (.inr (some ((true,.t))))) (.vc (0+u.length*4<=(rowsC RK.fr u).length/\0=0/\u.length<1125899906842624/\0=0/\4=4) (.br (!(mF (List.take u.length (List.drop 0 u)) 3)) (.leaf (.inr (some ((true,.t))))) (.leaf (.inl (mkSt 147 [(1,.one (.c (.slc 0 0 (c.length) 4 (.of 0) false))),(2,.one (.c (.slc 1 0 (y.length) 4 (.of 0) false))),(3,.one (.c (.slc 2 0 (d.length) 4 (.of 0) false))),(4,.one (.c (.slc 3 0 (u.length) 4 (.of 0) false))),(10,.one (.c (.bool (fit)))),(11,.one (.c (.ptr 4 0))),(16,.one (.c (.ptr 5 0))),(17,.one (.c (.ptr 6 0))),(18,.one (.c (.ptr 7 0))),(19,.one (.c (.ptr 8 0))),(20,.one (.c (.ptr 9 0)))] [.live ⟨false,0,4,(.rows .fr (c:List Fr)),false⟩,.live ⟨false,0,4,(.rows .fr (y:List Fr)),false⟩,.live ⟨false,0,4,(.rows .fr (d:List Fr)),false⟩,.live ⟨false,0,4,(.rows .fr (u:List Fr)),false⟩,.live ⟨true,24,0,(.row (Row.cs (tau:Fr))),false⟩,.live ⟨true,24,0,(.row (Row.cs (z:Fr))),false⟩,.live ⟨true,24,0,(.row (Row.cs (x:Fr))),false⟩,.live ⟨true,24,0,(.row (Row.cs (v:Fr))),false⟩,.live ⟨true,24,0,(.row (Row.cs (r:Fr))),false⟩,.live ⟨true,74,0,(.row [(.u64 (ws.a.l0)),(.u64 (ws.a.l1)),(.u64 (ws.a.l2)),(.u64 (ws.a.l3)),(.u64 (ws.b.l0)),(.u64 (ws.b.l1)),(.u64 (ws.b.l2)),(.u64 (ws.b.l3))]),false⟩]))))))))))))):=by kernel_rfl
theorem cc_if (bF:Bool) (mF:List Fr->Int->Bool) (lF:Fr->List Fr->List Fr->List Fr->List Fr->Fr->Fr->Fr->Fr->FF->Fr) (sF:Fr->Fr->Fr) (hF:Fr->Pg2) (gF:Fr->Pg1) (pF:List Fr->List Pg1) (cF:Pg2->List Pg1->List Fr->Fr->List Pg1->List Fr->Fr->Fr->Fr->PP->Bool) (tau:Fr) (c y d u:List Fr) (z x v r:Fr) (ws:FF) (fit:Bool):letI za':=mulNn c.length (4 / 4);letI zb':=List.drop 0 c;letI zc':=(Row.cs (tau:Fr));letI zd':=(Row.cs (z:Fr));letI ze':=(Row.cs (x:Fr));letI zf':=(Row.cs (v:Fr));letI zg':=(Row.cs (r:Fr));letI zh':=0+c.length;letI zi':=0+c.length*4<=(rowsC RK.fr c).length/\0<4;letI zj':=mulNn (0 / 4+0) (4 / 4);segP (ccE bF mF lF sF hF gF pF cF) oB 300 Tryz.f10 ((ccC.drop 5).take 2) (ccS tau c y d u z x v r ws fit) (following [1,2,3,4,11,16,17,18,19,20] [1,2,3,4,5,6,7,8,9] [1]) [(1,.slc),(2,.as),(3,.as),(4,.as),(11,.as),(16,.as),(17,.as),(18,.as),(19,.as),(20,.as)] [] []=(.br (fit) (.vc zi' (.br (decide ((↑c.length:Int) > 0)) (.vc zi' (.vc (0+y.length*4<=(rowsC RK.fr y).length/\0<4) (.br ((↑c.length:Int)==(↑y.length:Int)) (.vc (0+d.length*4<=(rowsC RK.fr d).length/\0<4) (.vc (0+u.length*4<=(rowsC RK.fr u).length/\0<4) (.br ((↑d.length:Int)==(↑u.length:Int)) (.vc ((0+c.length*4<=(rowsC RK.fr c).length/\0=0)/\0+c.length<=9223372036854775807/\zh'*32<=140737488355328) (.vc (0<0+c.length/\0+zh'*4<=(rowsC RK.fr ([]++List.take za' zb')).length/\0<4/\0 % 4=0) (.vc (mulNn (0 / 4+0) (4 / 4)<([]++List.take za' zb').length) (.vc ((0+zh'*4<=(rowsC RK.fr ([]++List.take za' zb')).length/\0 % 4=0/\0+c.length<1125899906842624/\0*4=0/\4=4)/\(0+y.length*4<=(rowsC RK.fr y).length/\0=0/\y.length<1125899906842624/\0=0/\4=4)/\(0+d.length*4<=(rowsC RK.fr d).length/\0=0/\d.length<1125899906842624/\0=0/\4=4)/\0+u.length*4<=(rowsC RK.fr u).length/\0=0/\u.length<1125899906842624/\0=0/\4=4) (.vc (0<0+c.length/\0+zh'*4<=(rowsC RK.fr ([]++List.take za' zb')).length/\0<4/\0 % 4=0) (.vc (mulNn (0 / 4+0) (4 / 4)<([]++List.take za' zb').length) (.leaf (.inl (mkSt 147 [(1,.one (.c (.slc 9 0 zh' 4 (.of 0) false))),(2,.one (.c (.slc 0 0 (y.length) 4 (.of 0) false))),(3,.one (.c (.slc 1 0 (d.length) 4 (.of 0) false))),(4,.one (.c (.slc 2 0 (u.length) 4 (.of 0) false))),(11,.one (.c (.ptr 3 0))),(16,.one (.c (.ptr 4 0))),(17,.one (.c (.ptr 5 0))),(18,.one (.c (.ptr 6 0))),(19,.one (.c (.ptr 7 0))),(20,.one (.c (.ptr 8 0)))] [.live ⟨false,0,4,(.rows .fr (y:List Fr)),false⟩,.live ⟨false,0,4,(.rows .fr (d:List Fr)),false⟩,.live ⟨false,0,4,(.rows .fr (u:List Fr)),false⟩,.live ⟨true,24,0,(.row zc'),false⟩,.live ⟨true,24,0,(.row zd'),false⟩,.live ⟨true,24,0,(.row ze'),false⟩,.live ⟨true,24,0,(.row zf'),false⟩,.live ⟨true,24,0,(.row zg'),false⟩,.live ⟨true,74,0,(.row [(.u64 (ws.a.l0)),(.u64 (ws.a.l1)),(.u64 (ws.a.l2)),(.u64 (ws.a.l3)),(.u64 (ws.b.l0)),(.u64 (ws.b.l1)),(.u64 (ws.b.l2)),(.u64 (ws.b.l3))]),false⟩,.live ⟨true,24,4,(.rows .fr (([]++List.take za' zb').set zj' (sF (([]++List.take za' zb').getD zj' { l0:=0,l1:=0,l2:=0,l3:=0 }) (lF tau (List.take zh' (List.drop (0 / 4) ([]++List.take za' zb'))) (List.take y.length (List.drop 0 y)) (List.take d.length (List.drop 0 d)) (List.take u.length (List.drop 0 u)) z x v r ws)):List Fr)),false⟩]))))))))) (.leaf (.inl (mkSt 147 [(1,.one (.c (.slc 9 0 (c.length) 4 (.of 0) false))),(2,.one (.c (.slc 0 0 (y.length) 4 (.of 0) false))),(3,.one (.c (.slc 1 0 (d.length) 4 (.of 0) false))),(4,.one (.c (.slc 2 0 (u.length) 4 (.of 0) false))),(11,.one (.c (.ptr 3 0))),(16,.one (.c (.ptr 4 0))),(17,.one (.c (.ptr 5 0))),(18,.one (.c (.ptr 6 0))),(19,.one (.c (.ptr 7 0))),(20,.one (.c (.ptr 8 0)))] [.live ⟨false,0,4,(.rows .fr (y:List Fr)),false⟩,.live ⟨false,0,4,(.rows .fr (d:List Fr)),false⟩,.live ⟨false,0,4,(.rows .fr (u:List Fr)),false⟩,.live ⟨true,24,0,(.row zc'),false⟩,.live ⟨true,24,0,(.row zd'),false⟩,.live ⟨true,24,0,(.row ze'),false⟩,.live ⟨true,24,0,(.row zf'),false⟩,.live ⟨true,24,0,(.row zg'),false⟩,.live ⟨true,74,0,(.row [(.u64 (ws.a.l0)),(.u64 (ws.a.l1)),(.u64 (ws.a.l2)),(.u64 (ws.a.l3)),(.u64 (ws.b.l0)),(.u64 (ws.b.l1)),(.u64 (ws.b.l2)),(.u64 (ws.b.l3))]),false⟩,.live ⟨false,0,4,(.rows .fr (c:List Fr)),false⟩])))))) (.leaf (.inl (mkSt 147 [(1,.one (.c (.slc 9 0 (c.length) 4 (.of 0) false))),(2,.one (.c (.slc 0 0 (y.length) 4 (.of 0) false))),(3,.one (.c (.slc 1 0 (d.length) 4 (.of 0) false))),(4,.one (.c (.slc 2 0 (u.length) 4 (.of 0) false))),(11,.one (.c (.ptr 3 0))),(16,.one (.c (.ptr 4 0))),(17,.one (.c (.ptr 5 0))),(18,.one (.c (.ptr 6 0))),(19,.one (.c (.ptr 7 0))),(20,.one (.c (.ptr 8 0)))] [.live ⟨false,0,4,(.rows .fr (y:List Fr)),false⟩,.live ⟨false,0,4,(.rows .fr (d:List Fr)),false⟩,.live ⟨false,0,4,(.rows .fr (u:List Fr)),false⟩,.live ⟨true,24,0,(.row zc'),false⟩,.live ⟨true,24,0,(.row zd'),false⟩,.live ⟨true,24,0,(.row ze'),false⟩,.live ⟨true,24,0,(.row zf'),false⟩,.live ⟨true,24,0,(.row zg'),false⟩,.live ⟨true,74,0,(.row [(.u64 (ws.a.l0)),(.u64 (ws.a.l1)),(.u64 (ws.a.l2)),(.u64 (ws.a.l3)),(.u64 (ws.b.l0)),(.u64 (ws.b.l1)),(.u64 (ws.b.l2)),(.u64 (ws.b.l3))]),false⟩,.live ⟨false,0,4,(.rows .fr (c:List Fr)),false⟩])))))) (.leaf (.inl (mkSt 147 [(1,.one (.c (.slc 9 0 (c.length) 4 (.of 0) false))),(2,.one (.c (.slc 0 0 (y.length) 4 (.of 0) false))),(3,.one (.c (.slc 1 0 (d.length) 4 (.of 0) false))),(4,.one (.c (.slc 2 0 (u.length) 4 (.of 0) false))),(11,.one (.c (.ptr 3 0))),(16,.one (.c (.ptr 4 0))),(17,.one (.c (.ptr 5 0))),(18,.one (.c (.ptr 6 0))),(19,.one (.c (.ptr 7 0))),(20,.one (.c (.ptr 8 0)))] [.live ⟨false,0,4,(.rows .fr (y:List Fr)),false⟩,.live ⟨false,0,4,(.rows .fr (d:List Fr)),false⟩,.live ⟨false,0,4,(.rows .fr (u:List Fr)),false⟩,.live ⟨true,24,0,(.row zc'),false⟩,.live ⟨true,24,0,(.row zd'),false⟩,.live ⟨true,24,0,(.row ze'),false⟩,.live ⟨true,24,0,(.row zf'),false⟩,.live ⟨true,24,0,(.row zg'),false⟩,.live ⟨true,74,0,(.row [(.u64 (ws.a.l0)),(.u64 (ws.a.l1)),(.u64 (ws.a.l2)),(.u64 (ws.a.l3)),(.u64 (ws.b.l0)),(.u64 (ws.b.l1)),(.u64 (ws.b.l2)),(.u64 (ws.b.l3))]),false⟩,.live ⟨false,0,4,(.rows .fr (c:List Fr)),false⟩]))))) (.leaf (.inl (mkSt 147 [(1,.one (.c (.slc 9 0 (c.length) 4 (.of 0) false))),(2,.one (.c (.slc 0 0 (y.length) 4 (.of 0) false))),(3,.one (.c (.slc 1 0 (d.length) 4 (.of 0) false))),(4,.one (.c (.slc 2 0 (u.length) 4 (.of 0) false))),(11,.one (.c (.ptr 3 0))),(16,.one (.c (.ptr 4 0))),(17,.one (.c (.ptr 5 0))),(18,.one (.c (.ptr 6 0))),(19,.one (.c (.ptr 7 0))),(20,.one (.c (.ptr 8 0)))] [.live ⟨false,0,4,(.rows .fr (y:List Fr)),false⟩,.live ⟨false,0,4,(.rows .fr (d:List Fr)),false⟩,.live ⟨false,0,4,(.rows .fr (u:List Fr)),false⟩,.live ⟨true,24,0,(.row zc'),false⟩,.live ⟨true,24,0,(.row zd'),false⟩,.live ⟨true,24,0,(.row ze'),false⟩,.live ⟨true,24,0,(.row zf'),false⟩,.live ⟨true,24,0,(.row zg'),false⟩,.live ⟨true,74,0,(.row [(.u64 (ws.a.l0)),(.u64 (ws.a.l1)),(.u64 (ws.a.l2)),(.u64 (ws.a.l3)),(.u64 (ws.b.l0)),(.u64 (ws.b.l1)),(.u64 (ws.b.l2)),(.u64 (ws.b.l3))]),false⟩,.live ⟨false,0,4,(.rows .fr (c:List Fr)),false⟩])))):=by kernel_rfl
theorem cc_end (bF:Bool) (mF:List Fr->Int->Bool) (lF:Fr->List Fr->List Fr->List Fr->List Fr->Fr->Fr->Fr->Fr->FF->Fr) (sF:Fr->Fr->Fr) (hF:Fr->Pg2) (gF:Fr->Pg1) (pF:List Fr->List Pg1) (cF:Pg2->List Pg1->List Fr->Fr->List Pg1->List Fr->Fr->Fr->Fr->PP->Bool) (o:Bool) (ty n:Nat) (tau:Fr) (c y d u:List Fr) (z x v r:Fr) (ws:FF):letI za':=((0+(pF (List.take n (List.drop 0 c))).length*13<=(rowsC RK.g1 (pF (List.take n (List.drop 0 c)))).length/\0=0/\(pF (List.take n (List.drop 0 c))).length<1125899906842624/\0=0/\13=13)/\few (List.take (pF (List.take n (List.drop 0 c))).length (List.drop 0 (pF (List.take n (List.drop 0 c))))))/\((0+y.length*4<=(rowsC RK.fr y).length/\0=0/\y.length<1125899906842624/\0=0/\4=4)/\fewR (List.take y.length (List.drop 0 y)))/\((0+(pF (List.take d.length (List.drop 0 d))).length*13<=(rowsC RK.g1 (pF (List.take d.length (List.drop 0 d)))).length/\0=0/\(pF (List.take d.length (List.drop 0 d))).length<1125899906842624/\0=0/\13=13)/\few (List.take (pF (List.take d.length (List.drop 0 d))).length (List.drop 0 (pF (List.take d.length (List.drop 0 d))))))/\(0+u.length*4<=(rowsC RK.fr u).length/\0=0/\u.length<1125899906842624/\0=0/\4=4)/\fewR (List.take u.length (List.drop 0 u));letI zb':=lF tau (List.take n (List.drop 0 c)) (List.take y.length (List.drop 0 y)) (List.take d.length (List.drop 0 d)) (List.take u.length (List.drop 0 u)) z x v r ws;letI zc':=0+d.length*4<=(rowsC RK.fr d).length/\0=0/\d.length<1125899906842624/\0=0/\4=4;letI zd':=0+n*4<=(rowsC RK.fr c).length/\0=0/\n<1125899906842624/\0=0/\4=4;letI ze':=List.take d.length (List.drop 0 d);letI zf':=List.take n (List.drop 0 c);letI zg':=List.take (pF zf').length (List.drop 0 (pF zf'));letI zh':=List.take (pF ze').length (List.drop 0 (pF ze'));letI zi':=List.take y.length (List.drop 0 y);letI zj':=List.take u.length (List.drop 0 u);letI zk':=zd'/\fewR zf';letI zl':=zc'/\fewR ze';endT (ccE bF mF lF sF hF gF pF cF) oB 300 Tryz.f10 (ccC.drop 7) (ccM o ty n tau c y d u z x v r ws)=(.vc (0+n*4<=(rowsC RK.fr c).length/\0<4) (.vc (0+y.length*4<=(rowsC RK.fr y).length/\0<4) (.br ((↑n:Int)==(↑y.length:Int)) (.vc (0+d.length*4<=(rowsC RK.fr d).length/\0<4) (.vc (0+u.length*4<=(rowsC RK.fr u).length/\0<4) (.br ((↑d.length:Int)==(↑u.length:Int)) (.vc (zd'/\(0+y.length*4<=(rowsC RK.fr y).length/\0=0/\y.length<1125899906842624/\0=0/\4=4)/\zc'/\0+u.length*4<=(rowsC RK.fr u).length/\0=0/\u.length<1125899906842624/\0=0/\4=4) (.vc zk' (.vc zl' (.vc za' (.leaf (some ((cF (hF tau) zg' zi' z zh' zj' x v r { a:=gF ws.a,b:=gF ws.b }==(zb'.l0==UInt64.ofNat 0 && (zb'.l1==UInt64.ofNat 0 && (zb'.l2==UInt64.ofNat 0 && (zb'.l3==UInt64.ofNat 0 && true)))),.t)))))))) (.vc zk' (.vc zl' (.vc za' (.leaf (some ((cF (hF tau) zg' zi' z zh' zj' x v r { a:=gF ws.a,b:=gF ws.b }==false,.t)))))))))) (.vc zk' (.vc zl' (.vc za' (.leaf (some ((cF (hF tau) zg' zi' z zh' zj' x v r { a:=gF ws.a,b:=gF ws.b }==false,.t)))))))))):=by kernel_rfl
end
set_option maxRecDepth 100000
section
theorem DoesL.toW {ρ:Type} {E:Env} {o:Out ρ} {fn:Func} {cs:List Code} {st:St} {x:ρ} (h:DoesL E cs st (EndsAs E fn (Reads o x))):DoesL E cs st (Within E fn o x (EndsAs E fn (Reads o x))):=DoesL.mono h fun r hr=>by
 unfold Within
 split <;> exact hr
theorem DoesL.ofW {ρ:Type} {E:Env} {o:Out ρ} {fn:Func} {cs:List Code} {st:St} {x:ρ} (h:DoesL E cs st (Within E fn o x (EndsAs E fn (Reads o x)))):DoesL E cs st (EndsAs E fn (Reads o x)):=DoesL.mono h fun r hr=>by
 unfold Within at hr
 split at hr <;> exact hr
section
variable {bF : Bool} {mF : List Fr -> Int -> Bool} {lF : Fr -> List Fr -> List Fr -> List Fr -> List Fr -> Fr -> Fr -> Fr -> Fr -> FF -> Fr} {sF : Fr -> Fr -> Fr} {hF : Fr -> Pg2} {gF : Fr -> Pg1} {pF : List Fr -> List Pg1} {cF : Pg2 -> List Pg1 -> List Fr -> Fr -> List Pg1 -> List Fr -> Fr -> Fr -> Fr -> PP -> Bool}
def ccW (lF:Fr->List Fr->List Fr->List Fr->List Fr->Fr->Fr->Fr->Fr->FF->Fr) (hF:Fr->Pg2) (gF:Fr->Pg1) (pF:List Fr->List Pg1) (cF:Pg2->List Pg1->List Fr->Fr->List Pg1->List Fr->Fr->Fr->Fr->PP->Bool) (tau:Fr) (c y d u:List Fr) (z x v r:Fr) (ws:FF):Bool :=
 cF (hF tau) (pF c) y z (pF d) u x v r ⟨gF ws.a,gF ws.b⟩==(match (c.length:Int)==(y.length:Int) with
  | true=>match (d.length:Int)==(u.length:Int) with
   | true=>frEq (lF tau c y d u z x v r ws) frZ
   | false=>false
  | false=>false)
def ccN (lF:Fr->List Fr->List Fr->List Fr->List Fr->Fr->Fr->Fr->Fr->FF->Fr) (sF:Fr->Fr->Fr) (tau:Fr) (c y d u:List Fr) (z x v r:Fr) (ws:FF) (fit:Bool):List Fr :=
 match fit with
 | false=>c
 | true=>match decide ((c.length:Int) > 0) with
  | false=>c
  | true=>match (c.length:Int)==(y.length:Int) with
   | false=>c
   | true=>match (d.length:Int)==(u.length:Int) with
    | false=>c
    | true=>c.set 0 (sF (c.getD 0 frZ) (lF tau c y d u z x v r ws))
def ccG (bF:Bool) (mF:List Fr->Int->Bool) (lF:Fr->List Fr->List Fr->List Fr->List Fr->Fr->Fr->Fr->Fr->FF->Fr) (sF:Fr->Fr->Fr) (hF:Fr->Pg2) (gF:Fr->Pg1) (pF:List Fr->List Pg1) (cF:Pg2->List Pg1->List Fr->Fr->List Pg1->List Fr->Fr->Fr->Fr->PP->Bool) (tau:Fr) (c y d u:List Fr) (z x v r:Fr) (ws:FF) (fit:Bool):Bool :=
 match !bF with
 | true=>false
 | false=>match !(mF c 3) with
  | true=>true
  | false=>match !(mF d 3) with
   | true=>true
   | false=>match !(mF [tau,z,x,v,r,ws.a,ws.b] 7) with
    | true=>true
    | false=>match !(mF y 3) with
     | true=>true
     | false=>match !(mF u 3) with
      | true=>true
      | false=>ccW lF hF gF pF cF tau (ccN lF sF tau c y d u z x v r ws fit) y d u z x v r ws
theorem fewT {l:List Fr} (h:(l.length:Int)<=3):l.length<4294967296:=by omega
theorem cc_fin (hE:EnvOk (ccE bF mF lF sF hF gF pF cF)) (hP : ∀ l,(pF l).length=l.length) (o:Bool) (ty n:Nat) (tau:Fr) (c y d u:List Fr) (z x v r:Fr) (ws:FF) (hn:c.length=n) (hc:c.length<4294967296) (hy:y.length<4294967296) (hd:d.length<4294967296) (hu:u.length<4294967296) :
  DoesL (ccE bF mF lF sF hF gF pF cF) (ccC.drop 7) (ccM o ty n tau c y d u z x v r ws) (EndsAs (ccE bF mF lF sF hF gF pF cF) Tryz.f10 (Reads oB (ccW lF hF gF pF cF tau c y d u z x v r ws))):=by
 subst hn
 have q1:List.take c.length (List.drop 0 c)=c:=wholeTakeFr rfl
 have q2:List.take y.length (List.drop 0 y)=y:=wholeTakeFr rfl
 have q3:List.take d.length (List.drop 0 d)=d:=wholeTakeFr rfl
 have q4:List.take u.length (List.drop 0 u)=u:=wholeTakeFr rfl
 have p1:(pF c).length<4294967296:=by rw [hP];exact hc
 have p2:(pF d).length<4294967296:=by rw [hP];exact hd
 have V:(((0+(pF c).length*13<=(rowsC RK.g1 (pF c)).length/\0=0/\(pF c).length<1125899906842624/\0=0/\13=13)/\few (List.take (pF c).length (List.drop 0 (pF c))))/\((0+y.length*4<=(rowsC RK.fr y).length/\0=0/\y.length<1125899906842624/\0=0/\4=4)/\fewR y)/\((0+(pF d).length*13<=(rowsC RK.g1 (pF d)).length/\0=0/\(pF d).length<1125899906842624/\0=0/\13=13)/\few (List.take (pF d).length (List.drop 0 (pF d))))/\(0+u.length*4<=(rowsC RK.fr u).length/\0=0/\u.length<1125899906842624/\0=0/\4=4)/\fewR u) :=
  ⟨vcFewN p1,⟨vcAllFr (Nat.lt_of_lt_of_le hy (by decide)),hy⟩,vcFewN p2,vcAllFr (Nat.lt_of_lt_of_le hu (by decide)),hu⟩
 have C1:(0+c.length*4<=(rowsC RK.fr c).length/\0=0/\c.length<1125899906842624/\0=0/\4=4):=vcAllFr (Nat.lt_of_lt_of_le hc (by decide))
 have C2:(0+y.length*4<=(rowsC RK.fr y).length/\0=0/\y.length<1125899906842624/\0=0/\4=4):=vcAllFr (Nat.lt_of_lt_of_le hy (by decide))
 have C3:(0+d.length*4<=(rowsC RK.fr d).length/\0=0/\d.length<1125899906842624/\0=0/\4=4):=vcAllFr (Nat.lt_of_lt_of_le hd (by decide))
 have C4:(0+u.length*4<=(rowsC RK.fr u).length/\0=0/\u.length<1125899906842624/\0=0/\4=4):=vcAllFr (Nat.lt_of_lt_of_le hu (by decide))
 have e:=cc_end bF mF lF sF hF gF pF cF o ty c.length tau c y d u z x v r ws
 rw [q1,q2,q3,q4] at e
 have w1:List.take (pF c).length (List.drop 0 (pF c))=pF c:=wholePs _
 have w2:List.take (pF d).length (List.drop 0 (pF d))=pF d:=wholePs _
 refine DoesL.ends hE 300 e ⟨vcLenFr c,fun _=>⟨vcLenFr y,fun _=>⟨fun h1 => ?_,fun h1 => ?_⟩⟩⟩
 ·refine ⟨vcLenFr d,fun _=>⟨vcLenFr u,fun _=>⟨fun h2 => ?_,fun h2 => ?_⟩⟩⟩
  ·refine ⟨⟨C1,C2,C3,C4⟩,fun _=>⟨⟨C1,hc⟩,fun _=>⟨⟨C3,hd⟩,fun _=>⟨V,fun _ => ?_⟩⟩⟩⟩
   rw [w1,w2]
   refine ⟨.t,?_,trivial⟩
   unfold ccW
   rw [h1,h2]
   rfl
  ·refine ⟨⟨C1,hc⟩,fun _=>⟨⟨C3,hd⟩,fun _=>⟨V,fun _ => ?_⟩⟩⟩
   rw [w1,w2]
   refine ⟨.t,?_,trivial⟩
   unfold ccW
   rw [h1,h2]
 ·refine ⟨⟨C1,hc⟩,fun _=>⟨⟨C3,hd⟩,fun _=>⟨V,fun _ => ?_⟩⟩⟩
  rw [w1,w2]
  refine ⟨.t,?_,trivial⟩
  unfold ccW
  rw [h1]
theorem mul1 (n:Nat):mulNn n (4 / 4)=n:=by
 unfold mulNn
 split <;> omega
theorem cc_does (hE:EnvOk (ccE bF mF lF sF hF gF pF cF)) (hP : ∀ l,(pF l).length=l.length) (hM : ∀ l,mF l 3=true->(l.length:Int)<=3) (tau:Fr) (c y d u:List Fr) (z x v r:Fr) (ws:FF) (fit:Bool) (hc:c.length<topLen) (hy:y.length<topLen) (hd:d.length<topLen) (hu:u.length<topLen) :
  DoesL (ccE bF mF lF sF hF gF pF cF) (flat (codeOf Tryz.f10)) (startSt Tryz.f10 [v4 tau,rwV .fr 0 c,rwV .fr 1 y,rwV .fr 2 d,rwV .fr 3 u,v4 z,v4 x,v4 v,v4 r,.one ((kRow FF).av ws),boW fit] [rwHE .fr c,rwHE .fr y,rwHE .fr d,rwHE .fr u])
   (EndsAs (ccE bF mF lF sF hF gF pF cF) Tryz.f10 (Reads oB (ccG bF mF lF sF hF gF pF cF tau c y d u z x v r ws fit))):=by
 have q1:List.take c.length (List.drop 0 c)=c:=wholeTakeFr rfl
 have q2:List.take y.length (List.drop 0 y)=y:=wholeTakeFr rfl
 have q3:List.take d.length (List.drop 0 d)=d:=wholeTakeFr rfl
 have q4:List.take u.length (List.drop 0 u)=u:=wholeTakeFr rfl
 have e:=cc_start bF mF lF sF hF gF pF cF tau c y d u z x v r ws fit
 rw [q1,q2,q3,q4] at e
 refine DoesL.seg hE 300 5 _ _ _ _ _ e ⟨fun b1=>⟨.t,by unfold ccG;rw [b1],trivial⟩,fun b1=>⟨vcAllFr hc,fun _=>⟨fun b2=>⟨.t,by unfold ccG;rw [b1,b2],trivial⟩,fun b2=>⟨vcAllFr hd,fun _=>⟨fun b3=>⟨.t,by unfold ccG;rw [b1,b2,b3],trivial⟩,fun b3=>⟨fun b4=>⟨.t,by unfold ccG;rw [b1,b2,b3,b4],trivial⟩,fun b4=>⟨vcAllFr hy,fun _=>⟨fun b5=>⟨.t,by unfold ccG;rw [b1,b2,b3,b4,b5],trivial⟩,fun b5=>⟨vcAllFr hu,fun _=>⟨fun b6=>⟨.t,by unfold ccG;rw [b1,b2,b3,b4,b5,b6],trivial⟩,fun b6 => ?_⟩⟩⟩⟩⟩⟩⟩⟩⟩⟩
 have m1:=fewT (hM c (by simpa using b2))
 have m2:=fewT (hM d (by simpa using b3))
 have m3:=fewT (hM y (by simpa using b5))
 have m4:=fewT (hM u (by simpa using b6))
 have G:ccG bF mF lF sF hF gF pF cF tau c y d u z x v r ws fit=ccW lF hF gF pF cF tau (ccN lF sF tau c y d u z x v r ws fit) y d u z x v r ws:=by
  unfold ccG
  rw [b1,b2,b3,b4,b5,b6]
 rw [G]
 refine (?_:DoesL _ _ (ccS tau c y d u z x v r ws fit) _)
 have e2:=cc_if bF mF lF sF hF gF pF cF tau c y d u z x v r ws fit
 rw [show (ccC.drop 5).take 2=List.take 2 (List.drop 5 ccC) from rfl] at e2
 have plain:ccN lF sF tau c y d u z x v r ws fit=c->DoesL (ccE bF mF lF sF hF gF pF cF) (ccC.drop 7) (ccM false 0 c.length tau c y d u z x v r ws) (EndsAs (ccE bF mF lF sF hF gF pF cF) Tryz.f10 (Reads oB (ccW lF hF gF pF cF tau (ccN lF sF tau c y d u z x v r ws fit) y d u z x v r ws))):=fun h=>by
  rw [h]
  exact cc_fin hE hP false 0 c.length tau c y d u z x v r ws rfl m1 m3 m2 m4
 refine DoesL.ofW (DoesL.segP hE 300 2 _ _ _ _ e2 ⟨fun h1=>⟨vcLenFr c,fun _=>⟨fun h2=>⟨vcLenFr c,fun _=>⟨vcLenFr y,fun _=>⟨fun h3=>⟨vcLenFr d,fun _=>⟨vcLenFr u,fun _=>⟨fun h4 => ?_,fun h4 => ?_⟩⟩⟩,fun h3 => ?_⟩⟩⟩,fun h2 => ?_⟩⟩,fun h1 => ?_⟩)
 ·have hN:ccN lF sF tau c y d u z x v r ws fit=c.set 0 (sF (c.getD 0 frZ) (lF tau c y d u z x v r ws)):=by
   unfold ccN
   rw [h1,h2,h3,h4]
  simp only [gt_iff_lt,decide_eq_true_eq] at h2
  rw [mul1,q1,List.nil_append,Nat.zero_add]
  refine ⟨⟨⟨by rw [rowsC_fr];omega,rfl⟩,by omega,by omega⟩,fun _=>⟨⟨by omega,by rw [rowsC_fr];omega,by decide,rfl⟩,fun _=>⟨?_,fun _=>⟨⟨⟨by rw [rowsC_fr];omega,rfl,by omega,rfl,rfl⟩,vcAllFr hy,vcAllFr hd,vcAllFr hu⟩,fun _=>⟨⟨by omega,by rw [rowsC_fr];omega,by decide,rfl⟩,fun _=>⟨?_,fun _ => ?_⟩⟩⟩⟩⟩⟩
  ·show mulNn (0+0) (4 / 4)<c.length
   rw [mul1]
   omega
  ·show mulNn (0+0) (4 / 4)<c.length
   rw [mul1]
   omega
  ·rw [show mulNn (0 / 4+0) (4 / 4)=0 from mul1 0,show (0 / 4:Nat)=0 from rfl,Nat.zero_add,q1,q2,q3,q4]
   rw [hN]
   refine DoesL.toW ?_
   refine (?_:DoesL _ _ (ccM true 24 c.length tau (c.set 0 (sF (c.getD 0 frZ) (lF tau c y d u z x v r ws))) y d u z x v r ws) _)
   exact cc_fin hE hP true 24 c.length tau _ y d u z x v r ws List.length_set (by rw [List.length_set];exact m1) m3 m2 m4
 ·exact DoesL.toW (plain (by unfold ccN;rw [h1,h2,h3,h4]))
 ·exact DoesL.toW (plain (by unfold ccN;rw [h1,h2,h3]))
 ·exact DoesL.toW (plain (by unfold ccN;rw [h1,h2]))
 ·exact DoesL.toW (plain (by unfold ccN;rw [h1]))
end
def batchChecks (tau:Fr) (c y d u:List Fr) (z x v r:Fr) (ws:FF) (fit:Bool):Bool:=ccG begun19 mayLF lLeft subRF commH commG pntsF bCheck tau c y d u z x v r ws fit
theorem batchChecks_gives' (tau:Fr) (c y d u:List Fr) (z x v r:Fr) (ws:FF) (fit:Bool) {w:World} {v0 v1 v2 v3 v4' v5 v6 v7 v8 v9 v10:Value} (g0:(kRow Fr).arg.is w v0 tau) (g1:(argRw .fr).is w v1 c) (g2:(argRw .fr).is w v2 y) (g3:(argRw .fr).is w v3 d) (g4:(argRw .fr).is w v4' u) (g5:(kRow Fr).arg.is w v5 z) (g6:(kRow Fr).arg.is w v6 x) (g7:(kRow Fr).arg.is w v7 v) (g8:(kRow Fr).arg.is w v8 r) (g9:(kRow FF).arg.is w v9 ws) (g10:kBool.arg.is w v10 fit) :
  Gives Tryz.prog 10 #[v0,v1,v2,v3,v4',v5,v6,v7,v8,v9,v10] w oB.res (batchChecks tau c y d u z x v r ws fit) :=
 GLg (E:=ccE begun19 mayLF lLeft subRF commH commG pntsF bCheck) Tryz.func10 (c:=codeOf Tryz.f10) (by kernel_rfl) (InpL.cons (kRow Fr).inp (InpL.cons (inpRw .fr) (InpL.cons (inpRw .fr) (InpL.cons (inpRw .fr) (InpL.cons (inpRw .fr) (InpL.cons (kRow Fr).inp (InpL.cons (kRow Fr).inp (InpL.cons (kRow Fr).inp (InpL.cons (kRow Fr).inp (InpL.cons (kRow FF).inp (InpL.cons kBool.inp InpL.nil))))))))))) oB (batchChecks tau c y d u z x v r ws fit) (vs := [v0,v1,v2,v3,v4',v5,v6,v7,v8,v9,v10]) (x:=(tau,c,y,d,u,z,x,v,r,ws,fit,())) ⟨g0,g1,g2,g3,g4,g5,g6,g7,g8,g9,g10,rfl⟩ fun g=>by
  have hE:EnvOk (ccE begun19 mayLF lLeft subRF commH commG pntsF bCheck):=Ens_ok (.cons begun19_ok (.cons mayLF_ok (.cons lLeft_ok (.cons subR_ok (.cons commH_ok (.cons commG_ok (.cons pntsF_ok (.cons bCheck_ok .nil))))))))
  exact cc_does hE (fun l=>by unfold pntsF;rw [List.length_map]) (fun l h=>(mayLF_true h).2) tau c y d u z x v r ws fit g.2.1 g.2.2.1 g.2.2.2.1 g.2.2.2.2.1
end
set_option maxRecDepth 100000
section
theorem subR_v {a b:Fr} (ha:a.ok) (hb:b.ok):(subRF a b).ok/\(subRF a b).v=a.v-b.v:=⟨sub_okR ha hb,v_subR ha hb⟩
theorem lLeft_v {tau:Fr} {c y d u:List Fr} {z x v r:Fr} {ws:FF} (ht:tau.ok) (hc:okFs c) (hy:okFs y) (hd:okFs d) (hu:okFs u) (hz:z.ok) (hx:x.ok) (hv:v.ok) (hr:r.ok) (ha:ws.a.ok) (hb:ws.b.ok) :
  (lLeft tau c y d u z x v r ws).ok/\(lLeft tau c y d u z x v r ws).v=hor v.v (vL c)-hor v.v (vL y)+r.v*(hor v.v (vL d)-hor v.v (vL u))+ws.a.v*(z.v-tau.v)+r.v*ws.b.v*(x.v-tau.v):=by
 rw [lLeft_eq]
 obtain ⟨c1,c2⟩:=rAtF_v hc hv
 obtain ⟨y1,y2⟩:=rAtF_v hy hv
 obtain ⟨d1,d2⟩:=rAtF_v hd hv
 obtain ⟨u1,u2⟩:=rAtF_v hu hv
 obtain ⟨s1,s2⟩:=subR_v c1 y1
 obtain ⟨t1,t2⟩:=subR_v d1 u1
 obtain ⟨m1,m2⟩:=mulR_v hr t1
 obtain ⟨a1,a2⟩:=addR_v s1 m1
 obtain ⟨z1,z2⟩:=subR_v hz ht
 obtain ⟨n1,n2⟩:=mulR_v ha z1
 obtain ⟨b1,b2⟩:=addR_v a1 n1
 obtain ⟨x1,x2⟩:=subR_v hx ht
 obtain ⟨p1,p2⟩:=mulR_v hr hb
 obtain ⟨q1,q2⟩:=mulR_v p1 x1
 obtain ⟨e1,e2⟩:=addR_v b1 q1
 exact ⟨e1,by rw [e2,b2,a2,s2,m2,t2,n2,z2,q2,p2,x2,c2,y2,d2,u2]⟩
theorem VR.leftE (A B R T Z X C D Y U:VR):(A+B*R)*T=A*Z+B*(R*X)+C+D*R-(Y+R*U) <-> C-Y+R*(D-U)+A*(Z-T)+R*B*(X-T)=0:=by
 constructor
 ·intro h
  grind
 ·intro h
  grind
theorem natEq (a b:Nat):(((a:Int)==(b:Int))=true) <-> a=b:=by
 rw [beq_iff_eq]
 omega
theorem ccW_true {lF:Fr->List Fr->List Fr->List Fr->List Fr->Fr->Fr->Fr->Fr->FF->Fr} {hF:Fr->Pg2} {gF:Fr->Pg1} {pF:List Fr->List Pg1} {cF:Pg2->List Pg1->List Fr->Fr->List Pg1->List Fr->Fr->Fr->Fr->PP->Bool} {tau:Fr} {c y d u:List Fr} {z x v r:Fr} {ws:FF}
  (h:cF (hF tau) (pF c) y z (pF d) u x v r ⟨gF ws.a,gF ws.b⟩=true <-> c.length=y.length/\d.length=u.length/\frEq (lF tau c y d u z x v r ws) frZ=true):ccW lF hF gF pF cF tau c y d u z x v r ws=true:=by
 unfold ccW
 have h1:=natEq c.length y.length
 have h2:=natEq d.length u.length
 generalize cF (hF tau) (pF c) y z (pF d) u x v r ⟨gF ws.a,gF ws.b⟩=b at *
 cases e1:(c.length:Int)==(y.length:Int) with
 | false =>
  cases b with
  | false=>rfl
  | true =>
   have:=h1.2 (h.1 rfl).1
   rw [e1] at this
   cases this
 | true =>
  cases e2:(d.length:Int)==(u.length:Int) with
  | false =>
   cases b with
   | false=>rfl
   | true =>
    have:=h2.2 (h.1 rfl).2.1
    rw [e2] at this
    cases this
  | true =>
   cases e3:frEq (lF tau c y d u z x v r ws) frZ with
   | true =>
    have:b=true:=h.2 ⟨h1.1 e1,h2.1 e2,e3⟩
    rw [this]
    rfl
   | false =>
    cases b with
    | false=>rfl
    | true =>
     have:=(h.1 rfl).2.2
     rw [e3] at this
     cases this
theorem ccG_true {bF:Bool} {mF:List Fr->Int->Bool} {lF:Fr->List Fr->List Fr->List Fr->List Fr->Fr->Fr->Fr->Fr->FF->Fr} {sF:Fr->Fr->Fr} {hF:Fr->Pg2} {gF:Fr->Pg1} {pF:List Fr->List Pg1} {cF:Pg2->List Pg1->List Fr->Fr->List Pg1->List Fr->Fr->Fr->Fr->PP->Bool} {tau:Fr} {c y d u:List Fr} {z x v r:Fr} {ws:FF} {fit:Bool} (hb:bF=true)
  (h:mF c 3=true->mF d 3=true->mF [tau,z,x,v,r,ws.a,ws.b] 7=true->mF y 3=true->mF u 3=true->ccW lF hF gF pF cF tau (ccN lF sF tau c y d u z x v r ws fit) y d u z x v r ws=true):ccG bF mF lF sF hF gF pF cF tau c y d u z x v r ws fit=true:=by
 unfold ccG
 rw [hb]
 cases e1:mF c 3 with
 | false=>rfl
 | true =>
  cases e2:mF d 3 with
  | false=>rfl
  | true =>
   cases e3:mF [tau,z,x,v,r,ws.a,ws.b] 7 with
   | false=>rfl
   | true =>
    cases e4:mF y 3 with
    | false=>rfl
    | true =>
     cases e5:mF u 3 with
     | false=>rfl
     | true=>exact h e1 e2 e3 e4 e5
theorem ccN_cases (lF:Fr->List Fr->List Fr->List Fr->List Fr->Fr->Fr->Fr->Fr->FF->Fr) (sF:Fr->Fr->Fr) (tau:Fr) (c y d u:List Fr) (z x v r:Fr) (ws:FF) (fit:Bool):ccN lF sF tau c y d u z x v r ws fit=c \/ ccN lF sF tau c y d u z x v r ws fit=c.set 0 (sF (c.getD 0 frZ) (lF tau c y d u z x v r ws)):=by
 unfold ccN
 split
 ·exact .inl rfl
 ·split
  ·exact .inl rfl
  ·split
   ·exact .inl rfl
   ·split
    ·exact .inl rfl
    ·exact .inr rfl
theorem okFs_set {l:List Fr} (h:okFs l) {a:Fr} (ha:a.ok) (i:Nat):okFs (l.set i a):=fun x hx=>by
 rcases List.mem_or_eq_of_mem_set hx with h1 | h1
 ·exact h x h1
 ·rw [h1];exact ha
theorem batchChecks_law (tau:Fr) (c y d u:List Fr) (z x v r:Fr) (ws:FF) (fit:Bool):batchChecks tau c y d u z x v r ws fit=true:=by
 unfold batchChecks
 refine ccG_true begun19_true fun e1 e2 e3 e4 e5 => ?_
 have hc:=(mayLF_true e1).1
 have hd:=(mayLF_true e2).1
 have h:=(mayLF_true e3).1
 have hy:=(mayLF_true e4).1
 have hu:=(mayLF_true e5).1
 have k1:=h tau (by simp)
 have k2:=h z (by simp)
 have k3:=h x (by simp)
 have k4:=h v (by simp)
 have k5:=h r (by simp)
 have k6:=h ws.a (by simp)
 have k7:=h ws.b (by simp)
 have hN:okFs (ccN lLeft subRF tau c y d u z x v r ws fit):=by
  rcases ccN_cases lLeft subRF tau c y d u z x v r ws fit with e | e
  ·rw [e];exact hc
  ·rw [e]
   exact okFs_set hc (subR_v (okFs_get hc 0) (lLeft_v k1 hc hy hd hu k2 k3 k4 k5 k6 k7).1).1 0
 generalize ccN lLeft subRF tau c y d u z x v r ws fit=c' at *
 obtain ⟨l1,l2⟩:=lLeft_v k1 hN hy hd hu k2 k3 k4 k5 k6 k7
 refine ccW_true ?_
 rw [bCheck_v (at2_comm k1) hN hy hd hu k2 k3 k4 k5 (at1_comm k6) (at1_comm k7),VR.leftE,<- l2,frEq_v l1 frZ_ok,frZ_v]
theorem batchChecks_gives {w:World} {v0 v1 v2 v3 v4' v5 v6 v7 v8 v9 v10:Value} {tau:Fr} {c y d u:List Fr} {z x v r:Fr} {ws:FF} {fit:Bool} (g0:(kRow Fr).arg.is w v0 tau) (g1:(argRw .fr).is w v1 c) (g2:(argRw .fr).is w v2 y) (g3:(argRw .fr).is w v3 d) (g4:(argRw .fr).is w v4' u) (g5:(kRow Fr).arg.is w v5 z) (g6:(kRow Fr).arg.is w v6 x) (g7:(kRow Fr).arg.is w v7 v) (g8:(kRow Fr).arg.is w v8 r) (g9:(kRow FF).arg.is w v9 ws) (g10:kBool.arg.is w v10 fit) :
  Gives Tryz.prog 10 #[v0,v1,v2,v3,v4',v5,v6,v7,v8,v9,v10] w kBool.rs.res true:=by
 have:=batchChecks_gives' tau c y d u z x v r ws fit g0 g1 g2 g3 g4 g5 g6 g7 g8 g9 g10
 rw [batchChecks_law] at this
 exact this
end
end Go.Proofs.YtgpafcehehaiiaaGreat
