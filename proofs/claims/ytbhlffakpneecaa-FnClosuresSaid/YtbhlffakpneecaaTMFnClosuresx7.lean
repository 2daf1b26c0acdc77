/- Texts that print.sh has printed for the law FnClosures,one function each,put together in one file: contracts of its functions. -/
import Derived.Test.YtbhlffakpneecaaTMFnClosuresx0
import Derived.Test.YtbhlffakpneecaaTMFnClosuresx6
import Derived.Test.YtbhlffakpneecaaTMFnClosuresx5
section
namespace Go.Proofs.Ytbhlffakpneecaa.PFnClosures
open Go.RowKit Go.Proofs.YtbhlffakpneecaaW.PrintWords Go.Proofs.YtbhlffakpneecaaW.PrintLast Go.Proofs.YtbhlffakpneecaaW.PrintMore
attribute [local go_sem] max2_int min2_int max_two min_two max_three min_three max_four min_four   -- for this text's walks alone
set_option linter.unusedVariables false
set_option linter.unusedSimpArgs false
theorem aM7:type_of% @Aside0.mk:=@Aside0.mk
theorem oD7:type_of% @of_decide_eq_true:=@of_decide_eq_true
theorem dT7:type_of% @decide_eq_true:=@decide_eq_true
theorem bI7:type_of% @Option.bind_eq_some_iff.{0,0}:=@Option.bind_eq_some_iff.{0,0}
theorem bL7:type_of% @World.block_lt_of_cell?:=@World.block_lt_of_cell?
theorem bZ7:type_of% @below_size:=@below_size
theorem zsx7_0 {P:Prop} (h:P:=by repeat (first|(with_reducible first|exact HB.out|apply below_alloc|apply pw_below_drewN|apply below_drew1)|exact HB.out)):P:=h
theorem zsx7_1 {P:Prop} (h:P:=by (with_reducible repeat (first|apply Kd.V_alloc|apply Kd.V_drewN|apply Kd.V_drew));exact HO1.out):P:=h
theorem zsx7_2 {P:Prop} (h:P:=by (try simp only [List.map_toArray,List.map_cons,List.map_nil]);first|done|rfl|(simp only [List.length_drop,List.length_take];rfl)):P:=h
theorem zsx7_3 {P:Prop} (h:P:=by (with_reducible repeat (first|apply Kd.N_alloc|apply Kd.N_drewN|apply Kd.N_drew));exact HO542.out):P:=h
theorem zsx7_4 {P:Prop} (h:P:=by first|rfl|(simp;done)|(simp [*];done)):P:=h
theorem zsx7_5 {P:Prop} (h:P:=by first|(with_reducible assumption)|assumption):P:=h
theorem zsx7_6 {P:Prop} (h:P:=by (with_reducible repeat (first|apply Kd.R_alloc|apply Kd.R_drewN|apply Kd.R_drew));exact HO_6.out):P:=h
theorem zsx7_7 {P:Prop} (h:P:=by (with_reducible repeat (first|apply Kd.R_alloc|apply Kd.R_drewN|apply Kd.R_drew));exact HO_7.out):P:=h
theorem zsx7_8 {P:Prop} (h:P:=by first|rfl|(simp [errW_none,errW_some] <;> rfl)|(simp [*,errW_none,errW_some] <;> rfl)):P:=h
theorem zsx7_9 {P:Prop} (h:P:=by first|exact Kd.R_nil _ _ _ _ _|exact Kd.N_nil _ _ _ _ _|exact Kd.V_nil _ _ _ _ _|exact Kd.Q_nil _ _ _ _ _|exact Kd.S_nil _ _ _ _ _):P:=h
theorem zsx7_10 {P:Prop} (h:P:=by (with_reducible repeat (first|apply Kd.R_alloc|apply Kd.R_drewN|apply Kd.R_drew));exact HO_5.out):P:=h
theorem zsx7_11 {P:Prop} (h:P:=by have:=HK1.out;have:=HK2.out;omega):P:=h
theorem zsx7_12 {P:Prop} (h:P:=by (with_reducible repeat (first|apply Kd.N_alloc|apply Kd.N_drewN|apply Kd.N_drew));exact HO574.out):P:=h
theorem zsx7_13 {P:Prop} (h:P:=by (with_reducible repeat (first|apply Kd.V_alloc|apply Kd.V_drewN|apply Kd.V_drew));exact Kd.V_mono HO1.out (fun _ hk=>⟨hk.1.1,hk.2⟩)):P:=h
theorem zsx7_14 {P:Prop} (h:P:=by (with_reducible repeat (first|apply Kd.V_alloc|apply Kd.V_drewN|apply Kd.V_drew));exact HO_1.out):P:=h
theorem zsx7_15 {P:Prop} (h:P:=by (with_reducible repeat (first|apply Kd.V_alloc|apply Kd.V_drewN|apply Kd.V_drew));exact HO_22.out):P:=h
theorem zsx7_16 {P:Prop} (h:P:=by (with_reducible repeat (first|apply Kd.R_alloc|apply Kd.R_drewN|apply Kd.R_drew));exact HO_11.out):P:=h
theorem zsx7_17 {P:Prop} (h:P:=by (with_reducible repeat (first|apply Kd.V_alloc|apply Kd.V_drewN|apply Kd.V_drew));exact HO2.out):P:=h
theorem zsx7_18 {P:Prop} (h:P:=by (with_reducible repeat (first|apply Kd.N_alloc|apply Kd.N_drewN|apply Kd.N_drew));exact HO605.out):P:=h
theorem zsx7_19 {P:Prop} (h:P:=by (with_reducible repeat (first|apply Kd.V_alloc|apply Kd.V_drewN|apply Kd.V_drew));exact HO_21.out):P:=h
theorem zsx7_20 {P:Prop} (h:P:=by (with_reducible repeat (first|apply Kd.R_alloc|apply Kd.R_drewN|apply Kd.R_drew));exact HO_8.out):P:=h
theorem zsx7_21 {P:Prop} (h:P:=by (with_reducible repeat (first|apply Kd.N_alloc|apply Kd.N_drewN|apply Kd.N_drew));exact HO632.out):P:=h
theorem zsx7_22 {P:Prop} (h:P:=by (with_reducible repeat (first|apply Kd.R_alloc|apply Kd.R_drewN|apply Kd.R_drew));exact HO_9.out):P:=h
theorem zsx7_23 {P:Prop} (h:P:=by repeat (first|exact Drawn0.refl _|apply Drawn0.step)):P:=h
theorem zsx7_24 {P:Prop} (h:P:=by first|(go_simp;done)|(go_simp;rfl)):P:=h
theorem zsx7_25 {P:Prop} (h:P:=by repeat (first|exact (Kd.C_below HR0.out HB.out)|(with_reducible refine Kd.C_alloc ?_ _)|(with_reducible refine Kd.C_drewN ?_ _)|(with_reducible refine Kd.C_drew ?_))):P:=h
theorem zsx7_26 {P:Prop} (h:P:=by repeat (first|exact (Kd.N_reads' HO542.out).2.2|(with_reducible refine Kd.C_alloc ?_ _)|(with_reducible refine Kd.C_drewN ?_ _)|(with_reducible refine Kd.C_drew ?_))):P:=h
theorem zsx7_27 {P:Prop} (h:P:=by repeat (first|exact (Kd.V_reads' HO1.out).2.2|(with_reducible refine Kd.C_alloc ?_ _)|(with_reducible refine Kd.C_drewN ?_ _)|(with_reducible refine Kd.C_drew ?_))):P:=h
theorem zsx7_28 {P:Prop} (h:P:=by repeat (first|exact (Kd.R_reads' HO_6.out).2.2|(with_reducible refine Kd.C_alloc ?_ _)|(with_reducible refine Kd.C_drewN ?_ _)|(with_reducible refine Kd.C_drew ?_))):P:=h
theorem zsx7_29 {P:Prop} (h:P:=by repeat (first|exact (Kd.C_below HR551_0.out HB.out)|(with_reducible refine Kd.C_alloc ?_ _)|(with_reducible refine Kd.C_drewN ?_ _)|(with_reducible refine Kd.C_drew ?_))):P:=h
theorem zsx7_30 {P:Prop} (h:P:=by repeat (first|exact HR0.out|(with_reducible refine Kd.C_alloc ?_ _)|(with_reducible refine Kd.C_drewN ?_ _)|(with_reducible refine Kd.C_drew ?_))):P:=h
theorem zsx7_31 {P:Prop} (h:P:=by repeat (first|exact HR1.out|(with_reducible refine Kd.C_alloc ?_ _)|(with_reducible refine Kd.C_drewN ?_ _)|(with_reducible refine Kd.C_drew ?_))):P:=h
theorem zsx7_32 {P:Prop} (h:P:=by repeat (first|exact (Kd.C_below HR1.out HB.out)|(with_reducible refine Kd.C_alloc ?_ _)|(with_reducible refine Kd.C_drewN ?_ _)|(with_reducible refine Kd.C_drew ?_))):P:=h
theorem zsx7_33 {P:Prop} (h:P:=by repeat (first|exact (Kd.N_reads' HO574.out).2.2|(with_reducible refine Kd.C_alloc ?_ _)|(with_reducible refine Kd.C_drewN ?_ _)|(with_reducible refine Kd.C_drew ?_))):P:=h
theorem zsx7_34 {P:Prop} (h:P:=by repeat (first|exact (Kd.N_reads' HO605.out).2.2|(with_reducible refine Kd.C_alloc ?_ _)|(with_reducible refine Kd.C_drewN ?_ _)|(with_reducible refine Kd.C_drew ?_))):P:=h
theorem zsx7_35 {P:Prop} (h:P:=by repeat (first|exact (Kd.N_reads' HO632.out).2.2|(with_reducible refine Kd.C_alloc ?_ _)|(with_reducible refine Kd.C_drewN ?_ _)|(with_reducible refine Kd.C_drew ?_))):P:=h
def impl_NextBlocks.l0:Nat→List (List Int)→List Bool→List Int→Int→Int→Option (List Int × Bool)
 | 0,_,_,_,_,_=>none
 | k + 1,x0,x6,x7,x20,x21=>if x21 < x20 then (if 0≤x21 then (if x21 < (x6.length:Int) then (if rdOf false x6 x21=true then (impl_NextBlocks.l0 k x0 x6 x7 x20 (wrap64 (x21 + 1))) else (if x21 < (x0.length:Int) then ((impl_allIn.f k x6 (rd_L1 x0 x21)).bind fun t552=>(if t552=true then (if x7.length < 17592186044416 then (impl_NextBlocks.l0 k x0 x6 (x7 ++ [x21]) x20 (wrap64 (x21 + 1))) else (none)) else (impl_NextBlocks.l0 k x0 x6 x7 x20 (wrap64 (x21 + 1))))) else (none))) else (none)) else (none)) else (some (x7,true))
def impl_NextBlocks.f (k:Nat) (l0:List (List Int)) (l1:List Int):Option (List Int × Bool):=(impl_arePits.f k l0 (([l1]:List (List Int)))).bind fun t543=>(if t543=true then ((impl_markOf.f k (l0.length:Int) l1).bind fun t544=>(impl_NextBlocks.l0 k l0 t544 (([]:List Int)) (l0.length:Int) 0)) else (some (([]:List Int),false)))
set_option maxHeartbeats 8000000 in
set_option maxRecDepth 100000 in
theorem impl_NextBlocks.calls (k:Nat) (A0:Option Addr) (c0:Nat) (l0:List (List Int)) (P1_:Nat→Prop) (A1:Option Addr) (c1:Nat) (l1:List Int) (r1:List Int) (r2:Bool) (w:World) (hr0:Kd.C (Kd.slice 3 (Kd.int .i64)) w A0 l0.length l0) (hc0:l0.length≤c0) (hs1:Kd.V (Kd.int .i64) 3 w w.heap.size (fun k_=>P1_ k_) (.slice A1 l1.length c1) l1) (h:impl_NextBlocks.f k l0 l1=some (r1,r2)) :
  Calls Try.prog 36 #[.slice A0 l0.length c0,.slice A1 l1.length c1] w fun e w'=>∃ v0_:Value,e=.returned (.tuple #[v0_,.bool r2])∧Kd.R (Kd.int .i64) 3 w' w.heap.size (fun k_=>(w.heap.size≤k_)) v0_ r1∧Below w.heap.size w w':=by
 have HR0:=aM7 hr0;have HC0:=aM7 hc0;clear hr0 hc0;have HO1:=aM7 (show Kd.V (Kd.int .i64) 3 w w.heap.size (fun k_=>(P1_ k_ ∨ w.heap.size≤k_)) (.slice A1 l1.length c1) l1 from Kd.V_mono hs1 (fun k_ hk=>.inl hk));have HB:=aM7 (Below.refl w.heap.size w);have H:((impl_arePits.f k l0 (([l1]:List (List Int)))).bind fun t543=>(if t543=true then ((impl_markOf.f k (l0.length:Int) l1).bind fun t544=>(impl_NextBlocks.l0 k l0 t544 (([]:List Int)) (l0.length:Int) 0)) else (some (([]:List Int),false))))=some (r1,r2):=h;clear h;obtain ⟨y540,hy540⟩:∃ y_:List (List Int),y_=(([l1]:List (List Int))):=⟨_,rfl⟩
 replace H:((impl_arePits.f k l0 y540).bind fun t543=>(if t543=true then ((impl_markOf.f k (l0.length:Int) l1).bind fun t544=>(impl_NextBlocks.l0 k l0 t544 (([]:List Int)) (l0.length:Int) 0)) else (some (([]:List Int),false))))=some (r1,r2):=by first|(rw [hy540];with_reducible exact H)|(have H2_:=(Option.bind_some _ _).symm.trans H;rw [hy540];with_reducible exact H2_)|(have H2_:=(Option.bind_some _ _).symm.trans H;with_reducible exact H2_)|with_reducible exact H|(rw [hy540];exact H)|exact H
 have Ny540:=aM7 hy540;clear hy540;replace H:=bI7.mp H;obtain ⟨t543,A30,H⟩:=H;(try dsimp only at H);have A3:=aM7 A30;clear A30
 by_cases c4:t543=true
 ·subst c4
  rw [if_pos rfl] at H;(try dsimp only at H);replace H:=bI7.mp H;obtain ⟨t544,A50,H⟩:=H;(try dsimp only at H);have A5:=aM7 A50;clear A50;obtain ⟨y547,hy547⟩:∃ y_:List Int,y_=(([]:List Int)):=⟨_,rfl⟩
  replace H:(impl_NextBlocks.l0 k l0 t544 y547 (l0.length:Int) 0)=some (r1,r2):=by first|(rw [hy547];with_reducible exact H)|(have H2_:=(Option.bind_some _ _).symm.trans H;rw [hy547];with_reducible exact H2_)|(have H2_:=(Option.bind_some _ _).symm.trans H;with_reducible exact H2_)|with_reducible exact H|(rw [hy547];exact H)|exact H
  have Ny547:=aM7 hy547;clear hy547;have H':=aM7 H;clear H;go_enter Try.func36,Try.ntmps36
  go_wp2_with (first|((with_reducible refine gate_dst (N:=11) rfl ?_);refine Kd.N_lit (Kd.slice 3 (Kd.int .i64)) _ 33 ?hg (N':=11) ?hd (xs:=([l1]:List (List Int))) (inner:=[.slice A1 l1.length c1]) (ok:=(fun k_=>(P1_ k_ ∨ w.heap.size≤k_))) (okp:=(fun k_=>(P1_ k_ ∨ w.heap.size≤k_))) ?hr ?hp (fun _ hk=>hk) ((show ∀ k_,w.heap.size≤k_→(fun k_=>(P1_ k_ ∨ w.heap.size≤k_)) k_ from fun k_ hk=>(.inr (Nat.le_trans (bZ7 (zsx7_0)) hk))) _ (Nat.le_refl _)) (Below.refl _ _) (Nat.le_refl _) (by simp) ?_;(case hd=>rfl);(case hg=>rfl);(case hr=>exact zsx7_24);(case hp=>exact (Reps.one (show Kd.FK (Kd.slice 3 (Kd.int .i64)) _ _ l1 [.slice A1 l1.length c1] from (Kd.FK_slice_mk (Kd.V_reads' (Kd.V_mono (ok':=(fun k_=>(P1_ k_ ∨ w.heap.size≤k_))) (HO1.out) (fun k_ hk=>hk))).2.1 (Kd.V_F (Kd.V_mono (ok':=(fun k_=>(P1_ k_ ∨ w.heap.size≤k_))) (HO1.out) (fun k_ hk=>hk))))) (Reps.none _ _)));intro v541 w6 ho7 hb hg_ hnew_;clear hg_ hnew_;(first|rw [← Ny540.out] at ho7|(simp only [Int.reduceToNat] at ho7;rw [← Ny540.out] at ho7));have n0_:=aM7 (Kd.V_elder' (zsx7_1) (Kd.N_base ho7) hb);have n1_:=aM7 (Kd.N_lower ho7 (bZ7 (zsx7_0)));have n2_:=aM7 (below_step (zsx7_0) hb);clear HO1 HB;have HO1:=n0_;have HO542:=n1_;have HB:=n2_;clear n0_ n1_ n2_ hb ho7;obtain ⟨Ao8,co8,eo8⟩:=Kd.N_slice HO542.out;subst eo8)|((with_reducible refine gate_callee (f:=80) rfl ?_);refine goesL_ (some 12) rfl rfl Try.func80 (by kernel_rfl) rfl #[.slice A0 l0.length c0,.slice Ao8 y540.length co8] rfl (zsx7_2) ?_;(with_reducible refine (impl_arePits.calls k _ _ l0 _ _ y540 true _ ?side1 ?side2 ?side3 ?side4 A3.out).mono ?_);(case side1=>exact zsx7_25);(case side2=>exact HC0.out);(case side3=>exact zsx7_26);(case side4=>exact (Kd.N_reads' HO542.out).2.1);rintro e w9 ⟨rfl,hb⟩;refine ⟨_,rfl,?_⟩;have n0_:=aM7 (Kd.V_below (zsx7_1) hb);have n1_:=aM7 (Kd.N_below (zsx7_3) hb);have n2_:=aM7 (below_step (zsx7_0) hb);clear HO1 HO542 HB;have HO1:=n0_;have HO542:=n1_;have HB:=n2_;clear n0_ n1_ n2_;(try clear hb);(try clear hb2);(try clear hk);(try clear hi))|((with_reducible refine gate_callee (f:=81) rfl ?_);refine goesL_ (some 17) rfl rfl Try.func81 (by kernel_rfl) rfl #[.int .i64 (l0.length:Int),.slice A1 l1.length c1] rfl (zsx7_2) ?_;(with_reducible refine (impl_markOf.calls k (l0.length:Int) _ _ l1 t544 _ ?side1 ?side2 A5.out).mono ?_);(case side1=>exact zsx7_27);(case side2=>exact (Kd.V_reads' HO1.out).2.1);rintro e w10 ⟨v545,rfl,ho0,hb⟩;refine ⟨_,rfl,?_⟩;have n0_:=aM7 (Kd.V_elder' (zsx7_1) (Kd.R_base ho0) hb);have n1_:=aM7 (Kd.N_elder' (zsx7_3) (Kd.R_base ho0) hb);have n2_:=aM7 (Kd.R_lower (Kd.R_newM (M:=fun k_=>(w.heap.size≤k_)) ho0 (bZ7 (zsx7_0)) (fun k_ h_=>h_)) (bZ7 (zsx7_0)));have n3_:=aM7 (below_step (zsx7_0) hb);clear HO1 HO542 HB;have HO1:=n0_;have HO542:=n1_;have HO546:=n2_;have HB:=n3_;clear n0_ n1_ n2_ n3_;(try clear hb);(try clear hb2);(try clear hk);(try clear hi);(try clear ho0))|((with_reducible refine gate_dst (N:=18) rfl ?_);refine Kd.R_lit (Kd.int .i64) _ 3 ?hg (N:=18) ?hd (xs:=([]:List Int)) (inner:=[]) (ok:=fun _=>True) (okp:=fun _=>True) ?hr ?hp (fun _ hk=>hk) trivial (Below.refl _ _) (Nat.le_refl _) (by simp) ?_;(case hd=>rfl);(case hg=>rfl);(case hr=>exact zsx7_24);(case hp=>exact (Reps.none _ _));intro v548 w11 ho12 hb hg_ hnew_;clear hg_ hnew_;(first|rw [← Ny547.out] at ho12|(simp only [Int.reduceToNat] at ho12;rw [← Ny547.out] at ho12));have n0_:=aM7 (Kd.V_elder' (zsx7_1) (Kd.R_base ho12) hb);have n1_:=aM7 (Kd.N_elder' (zsx7_3) (Kd.R_base ho12) hb);have n2_:=aM7 (Kd.R_below (by (with_reducible repeat (first|apply Kd.R_alloc|apply Kd.R_drewN|apply Kd.R_drew));exact HO546.out) hb);have n3_:=aM7 (Kd.R_lower (Kd.R_newM (M:=fun k_=>(w.heap.size≤k_)) ho12 (bZ7 (zsx7_0)) (fun k_ h_=>h_)) (bZ7 (zsx7_0)));have n4_:=aM7 (below_step (zsx7_0) hb);clear HO1 HO542 HO546 HB;have HO1:=n0_;have HO542:=n1_;have HO546:=n2_;have HO549:=n3_;have HB:=n4_;clear n0_ n1_ n2_ n3_ n4_ hb ho12))
  go_loopg [7,21] k (fun kq v7 v21 w'=>∃ (x7_1:List Int) (x21_1:Int),v21=.int .i64 x21_1∧Aside0 (impl_NextBlocks.l0 kq l0 t544 x7_1 (l0.length:Int) x21_1=some (r1,r2))∧Aside0 (kq≤k)∧Aside0 (Kd.R Kd.bool 4 w' w.heap.size (fun k_=>(w.heap.size≤k_)) v545 t544)∧Aside0 (Kd.R (Kd.int .i64) 3 w' w.heap.size (fun k_=>(w.heap.size≤k_)) v7 x7_1)∧Aside0 (Below w.heap.size w w'))
  case atStart=>exact ⟨(y547),(0),(zsx7_4),H',⟨Nat.le_refl _⟩,⟨by (with_reducible repeat (first|apply Kd.R_alloc|apply Kd.R_drewN|apply Kd.R_drew));exact Kd.R_mono HO546.out (fun _ hk=>hk.1)⟩,⟨by (with_reducible repeat (first|apply Kd.R_alloc|apply Kd.R_drewN|apply Kd.R_drew));exact Kd.R_mono HO549.out (fun _ hk=>hk.1)⟩,⟨zsx7_0⟩⟩
  case round =>
   clear H';(try clear c1);(try clear p2);(try clear c3);(try clear c4);(try clear c8);obtain ⟨x7_1,x21_1,rfl,HA,HK1,HO_6,HO_7,HB⟩:=hrel
   cases gk with
   | zero=>exact absurd HA.out (by simp [impl_NextBlocks.l0])
   | succ k1 =>
    have H:=HA.out;clear HA;simp only [impl_NextBlocks.l0] at H
    by_cases c13:x21_1 < (l0.length:Int)
    ·rw [if_pos c13] at H
     have c13b0:decide (x21_1 < (l0.length:Int))=true:=dT7 c13;clear c13
     by_cases c14:0≤x21_1
     ·rw [if_pos c14] at H
      have c14b0:decide (0≤x21_1)=true:=dT7 c14;clear c14
      by_cases c15:x21_1 < (t544.length:Int)
      ·rw [if_pos c15] at H
       have c15b0:decide (x21_1 < (t544.length:Int))=true:=dT7 c15;clear c15;obtain ⟨bq16,hbq16⟩:∃ b_:Bool,b_=(rdOf false t544 x21_1):=⟨_,rfl⟩
       replace H:(if bq16=true then (impl_NextBlocks.l0 k1 l0 t544 x7_1 (l0.length:Int) (wrap64 (x21_1 + 1))) else (if x21_1 < (l0.length:Int) then ((impl_allIn.f k1 t544 (rd_L1 l0 x21_1)).bind fun t552=>(if t552=true then (if x7_1.length < 17592186044416 then (impl_NextBlocks.l0 k1 l0 t544 (x7_1 ++ [x21_1]) (l0.length:Int) (wrap64 (x21_1 + 1))) else (none)) else (impl_NextBlocks.l0 k1 l0 t544 x7_1 (l0.length:Int) (wrap64 (x21_1 + 1))))) else (none)))=some (r1,r2):=by rw [← hbq16] at H;exact H
       have Nbq16:=aM7 hbq16;clear hbq16
       by_cases c17:bq16=true
       ·subst c17
        rw [if_pos rfl] at H;(try dsimp only at H);have H':=aM7 H;clear H;obtain ⟨Ao18,co18,eo18⟩:=Kd.R_slice HO_6.out;subst eo18;have p550:0≤(x21_1:Int):=oD7 (zsx7_5);have q550:x21_1 < (t544.length:Int):=oD7 (zsx7_5);obtain ⟨ad550,e550,hx550_0⟩:=Kd.at_bool (Kd.R_reads' HO_6.out).2.2 x21_1 p550 q550;(try rw [← Nbq16.out] at hx550_0)
        cases e550
        replace p550:=eq_true p550;replace q550:=eq_true q550
        go_wp2
        go_roundg k1
        case measure=>have:=HK1.out;omega
        case rel=>exact ⟨(x7_1),(wrap64 (x21_1 + 1)),(zsx7_4),H',⟨by have:=HK1.out;omega⟩,⟨zsx7_6⟩,⟨zsx7_7⟩,⟨zsx7_0⟩⟩
       ·replace c17:=Bool.eq_false_iff.mpr c17
        subst c17;rw [if_neg (show ¬ (false=true) by decide)] at H;(try dsimp only at H)
        by_cases c19:x21_1 < (l0.length:Int)
        ·rw [if_pos c19] at H
         have c19b0:decide (x21_1 < (l0.length:Int))=true:=dT7 c19;clear c19;replace H:=bI7.mp H;obtain ⟨t552,A200,H⟩:=H;(try dsimp only at H);have A20:=aM7 A200;clear A200
         by_cases c21:t552=true
         ·subst c21
          rw [if_pos rfl] at H;(try dsimp only at H)
          by_cases c22:x7_1.length < 17592186044416
          ·rw [if_pos c22] at H
           have LMc22:=aM7 c22;clear c22;obtain ⟨y553,hy553⟩:∃ y_:List Int,y_=(x7_1 ++ [x21_1]):=⟨_,rfl⟩
           replace H:(impl_NextBlocks.l0 k1 l0 t544 y553 (l0.length:Int) (wrap64 (x21_1 + 1)))=some (r1,r2):=by first|(rw [hy553];with_reducible exact H)|(have H2_:=(Option.bind_some _ _).symm.trans H;rw [hy553];with_reducible exact H2_)|(have H2_:=(Option.bind_some _ _).symm.trans H;with_reducible exact H2_)|with_reducible exact H|(rw [hy553];exact H)|exact H
           have Ny553:=aM7 hy553;clear hy553;have H':=aM7 H;clear H;obtain ⟨Ao23,co23,eo23⟩:=Kd.R_slice HO_6.out;subst eo23;have p550:0≤(x21_1:Int):=oD7 (zsx7_5);have q550:x21_1 < (t544.length:Int):=oD7 (zsx7_5);obtain ⟨ad550,e550,hx550_0⟩:=Kd.at_bool (Kd.R_reads' HO_6.out).2.2 x21_1 p550 q550;(try rw [← Nbq16.out] at hx550_0)
           cases e550
           replace p550:=eq_true p550;replace q550:=eq_true q550;have p551:0≤(x21_1:Int):=oD7 (zsx7_5);have q551:x21_1 < (l0.length:Int):=oD7 (zsx7_5);obtain ⟨ad551,A551_0,c551_0,e551,hx551_0,hl551_0,hi551_0⟩:=at_L1 HR0.out x21_1 p551 q551
           cases e551
           replace hx551_0:=(HB.out.cell (bL7 w _ hx551_0)).trans hx551_0;have HR551_0:=aM7 hi551_0;have HC551_0:=aM7 hl551_0;clear hi551_0 hl551_0;replace p551:=eq_true p551;replace q551:=eq_true q551
           go_wp2_with (first|(go_at_call 50;(with_reducible refine (impl_allIn.calls k1 _ _ t544 _ _ (rd_L1 l0 x21_1) true _ ?side1 ?side2 ?side3 ?side4 A20.out).mono ?_);(case side1=>exact zsx7_28);(case side2=>exact (Kd.R_reads' HO_6.out).2.1);(case side3=>exact zsx7_29);(case side4=>exact HC551_0.out);rintro e w' ⟨rfl,⟨nd,rfl⟩⟩)|((with_reducible refine gate_builtin (b:=.append) (xs:=#[.tmp 37,.tmp 39]) rfl ?_);at_builtin;refine Kd.R_append (Kd.int .i64) (w0:=w) w.heap.size rfl (.tmp 37) (.tmp 39) 33 3 (.int .i64 0) 8 rfl Try.underlying33 info3 rfl (by decide) (by omega) u7 x7_1 x21_1 [.int .i64 x21_1] (fun k_=>(w.heap.size≤k_)) (fun _=>False) rfl rfl ?aP (fun _ hk=>hk.elim) ?aF ?aO ?aB ?aS ?aL ?_;(case aP=>exact rfl);(case aB=>exact (zsx7_0));(case aF=>exact (fun k_ hk=>(Nat.le_trans (bZ7 (zsx7_0)) hk)));(case aO=>exact (zsx7_7));(case aS=>exact (bZ7 (zsx7_0)));(case aL=>have:=LMc22.out;omega);intro v554 w24 ho hb hg hat;rw [← Ny553.out] at ho;have n0_:=aM7 (Kd.R_over' (zsx7_6) (Kd.R_typed (zsx7_7)) (by decide) hg);have n1_:=aM7 (hb);have n2_:=aM7 (ho);clear HO_6 HB HO_7;have HO_6:=n0_;have HB:=n1_;have HO555:=n2_;clear n0_ n1_ n2_ ho hb hg hat))
           go_roundg k1
           case measure=>have:=HK1.out;omega
           case rel=>exact ⟨(y553),(wrap64 (x21_1 + 1)),(zsx7_4),H',⟨by have:=HK1.out;omega⟩,⟨zsx7_6⟩,⟨by (with_reducible repeat (first|apply Kd.R_alloc|apply Kd.R_drewN|apply Kd.R_drew));exact HO555.out⟩,⟨zsx7_0⟩⟩
          ·rw [if_neg c22] at H
           exact absurd H (by simp)
         ·replace c21:=Bool.eq_false_iff.mpr c21
          subst c21;rw [if_neg (show ¬ (false=true) by decide)] at H;(try dsimp only at H);have H':=aM7 H;clear H;obtain ⟨Ao25,co25,eo25⟩:=Kd.R_slice HO_6.out;subst eo25;have p550:0≤(x21_1:Int):=oD7 (zsx7_5);have q550:x21_1 < (t544.length:Int):=oD7 (zsx7_5);obtain ⟨ad550,e550,hx550_0⟩:=Kd.at_bool (Kd.R_reads' HO_6.out).2.2 x21_1 p550 q550;(try rw [← Nbq16.out] at hx550_0)
          cases e550
          replace p550:=eq_true p550;replace q550:=eq_true q550;have p551:0≤(x21_1:Int):=oD7 (zsx7_5);have q551:x21_1 < (l0.length:Int):=oD7 (zsx7_5);obtain ⟨ad551,A551_0,c551_0,e551,hx551_0,hl551_0,hi551_0⟩:=at_L1 HR0.out x21_1 p551 q551
          cases e551
          replace hx551_0:=(HB.out.cell (bL7 w _ hx551_0)).trans hx551_0;have HR551_0:=aM7 hi551_0;have HC551_0:=aM7 hl551_0;clear hi551_0 hl551_0;replace p551:=eq_true p551;replace q551:=eq_true q551
          go_wp2_with (first|(go_at_call 50;(with_reducible refine (impl_allIn.calls k1 _ _ t544 _ _ (rd_L1 l0 x21_1) false _ ?side1 ?side2 ?side3 ?side4 A20.out).mono ?_);(case side1=>exact zsx7_28);(case side2=>exact (Kd.R_reads' HO_6.out).2.1);(case side3=>exact zsx7_29);(case side4=>exact HC551_0.out);rintro e w' ⟨rfl,⟨nd,rfl⟩⟩))
          go_roundg k1
          case measure=>have:=HK1.out;omega
          case rel=>exact ⟨(x7_1),(wrap64 (x21_1 + 1)),(zsx7_4),H',⟨by have:=HK1.out;omega⟩,⟨zsx7_6⟩,⟨zsx7_7⟩,⟨zsx7_0⟩⟩
        ·rw [if_neg c19] at H
         exact absurd H (by simp)
      ·rw [if_neg c15] at H
       exact absurd H (by simp)
     ·rw [if_neg c14] at H
      exact absurd H (by simp)
    ·rw [if_neg c13] at H
     have c13b0:decide (x21_1 < (l0.length:Int))=false:=decide_eq_false c13;clear c13;simp only [Option.some.injEq,Prod.mk.injEq] at H;obtain ⟨rfl,rfl⟩:=H
     go_wp2
     go_ret2
     exact ⟨_,zsx7_8,zsx7_7,zsx7_0⟩
 ·replace c4:=Bool.eq_false_iff.mpr c4
  subst c4;rw [if_neg (show ¬ (false=true) by decide)] at H;(try dsimp only at H);simp only [Option.some.injEq,Prod.mk.injEq] at H;obtain ⟨rfl,rfl⟩:=H;go_enter Try.func36,Try.ntmps36
  go_wp2_with (first|((with_reducible refine gate_dst (N:=11) rfl ?_);refine Kd.N_lit (Kd.slice 3 (Kd.int .i64)) _ 33 ?hg (N':=11) ?hd (xs:=([l1]:List (List Int))) (inner:=[.slice A1 l1.length c1]) (ok:=(fun k_=>(P1_ k_ ∨ w.heap.size≤k_))) (okp:=(fun k_=>(P1_ k_ ∨ w.heap.size≤k_))) ?hr ?hp (fun _ hk=>hk) ((show ∀ k_,w.heap.size≤k_→(fun k_=>(P1_ k_ ∨ w.heap.size≤k_)) k_ from fun k_ hk=>(.inr (Nat.le_trans (bZ7 (zsx7_0)) hk))) _ (Nat.le_refl _)) (Below.refl _ _) (Nat.le_refl _) (by simp) ?_;(case hd=>rfl);(case hg=>rfl);(case hr=>exact zsx7_24);(case hp=>exact (Reps.one (show Kd.FK (Kd.slice 3 (Kd.int .i64)) _ _ l1 [.slice A1 l1.length c1] from (Kd.FK_slice_mk (Kd.V_reads' (Kd.V_mono (ok':=(fun k_=>(P1_ k_ ∨ w.heap.size≤k_))) (HO1.out) (fun k_ hk=>hk))).2.1 (Kd.V_F (Kd.V_mono (ok':=(fun k_=>(P1_ k_ ∨ w.heap.size≤k_))) (HO1.out) (fun k_ hk=>hk))))) (Reps.none _ _)));intro v541 w26 ho27 hb hg_ hnew_;clear hg_ hnew_;(first|rw [← Ny540.out] at ho27|(simp only [Int.reduceToNat] at ho27;rw [← Ny540.out] at ho27));have n0_:=aM7 (Kd.V_elder' (zsx7_1) (Kd.N_base ho27) hb);have n1_:=aM7 (Kd.N_lower ho27 (bZ7 (zsx7_0)));have n2_:=aM7 (below_step (zsx7_0) hb);clear HO1 HB;have HO1:=n0_;have HO542:=n1_;have HB:=n2_;clear n0_ n1_ n2_ hb ho27;obtain ⟨Ao28,co28,eo28⟩:=Kd.N_slice HO542.out;subst eo28)|((with_reducible refine gate_callee (f:=80) rfl ?_);refine goesL_ (some 12) rfl rfl Try.func80 (by kernel_rfl) rfl #[.slice A0 l0.length c0,.slice Ao28 y540.length co28] rfl (zsx7_2) ?_;(with_reducible refine (impl_arePits.calls k _ _ l0 _ _ y540 false _ ?side1 ?side2 ?side3 ?side4 A3.out).mono ?_);(case side1=>exact zsx7_25);(case side2=>exact HC0.out);(case side3=>exact zsx7_26);(case side4=>exact (Kd.N_reads' HO542.out).2.1);rintro e w29 ⟨rfl,hb⟩;refine ⟨_,rfl,?_⟩;have n0_:=aM7 (Kd.V_below (zsx7_1) hb);have n1_:=aM7 (Kd.N_below (zsx7_3) hb);have n2_:=aM7 (below_step (zsx7_0) hb);clear HO1 HO542 HB;have HO1:=n0_;have HO542:=n1_;have HB:=n2_;clear n0_ n1_ n2_;(try clear hb);(try clear hb2);(try clear hk);(try clear hi)))
  go_ret2
  exact ⟨_,zsx7_8,zsx7_9,zsx7_0⟩
def spec_clGood.f (k:Nat) (l0:List (List Int)) (l1:List Int):Option (Bool):=(spec_clBlocks.f k l0 l1).bind fun t556=>(if t556=true then ((spec_clIs.f k l0 l1).bind fun t557=>(some t557)) else (some false))
set_option maxHeartbeats 8000000 in
set_option maxRecDepth 100000 in
theorem spec_clGood.calls (k:Nat) (A0:Option Addr) (c0:Nat) (l0:List (List Int)) (A1:Option Addr) (c1:Nat) (l1:List Int) (r:Bool) (w:World) (hr0:Kd.C (Kd.slice 3 (Kd.int .i64)) w A0 l0.length l0) (hc0:l0.length≤c0) (hr1:Kd.C (Kd.int .i64) w A1 l1.length l1) (hc1:l1.length≤c1) (h:spec_clGood.f k l0 l1=some r) :
  Calls Try.prog 82 #[.slice A0 l0.length c0,.slice A1 l1.length c1] w fun e w'=>e=.returned (.bool r)∧Below w.heap.size w w':=by
 have HR0:=aM7 hr0;have HC0:=aM7 hc0;clear hr0 hc0;have HR1:=aM7 hr1;have HC1:=aM7 hc1;clear hr1 hc1;have HB:=aM7 (Below.refl w.heap.size w);have H:((spec_clBlocks.f k l0 l1).bind fun t556=>(if t556=true then ((spec_clIs.f k l0 l1).bind fun t557=>(some t557)) else (some false)))=some r:=h;clear h;replace H:=bI7.mp H;obtain ⟨t556,A30,H⟩:=H;(try dsimp only at H);have A3:=aM7 A30;clear A30
 by_cases c4:t556=true
 ·subst c4
  rw [if_pos rfl] at H;(try dsimp only at H);replace H:=bI7.mp H;obtain ⟨t557,A50,H⟩:=H;(try dsimp only at H);have A5:=aM7 A50;clear A50;obtain rfl:=Option.some.inj H;go_enter Try.func82,Try.ntmps82
  go_wp2_with (first|((with_reducible refine gate_callee (f:=74) rfl ?_);refine goesL_ (some 7) rfl rfl Try.func74 (by kernel_rfl) rfl #[.slice A0 l0.length c0,.slice A1 l1.length c1] rfl (zsx7_2) ?_;(with_reducible refine (spec_clBlocks.calls k _ _ l0 _ _ l1 true _ ?side1 ?side2 ?side3 ?side4 A3.out).mono ?_);(case side1=>exact zsx7_30);(case side2=>exact HC0.out);(case side3=>exact zsx7_31);(case side4=>exact HC1.out);rintro e w' ⟨rfl,⟨nd,rfl⟩⟩;refine ⟨_,rfl,?_⟩)|(go_at_call 78;(with_reducible refine (spec_clIs.calls k _ _ l0 _ _ l1 t557 _ ?side1 ?side2 ?side3 ?side4 A5.out).mono ?_);(case side1=>exact zsx7_30);(case side2=>exact HC0.out);(case side3=>exact zsx7_31);(case side4=>exact HC1.out);rintro e w6 ⟨rfl,hb⟩;have n0_:=aM7 (below_step (zsx7_0) hb);clear HB;have HB:=n0_;clear n0_;(try clear hb);(try clear hb2);(try clear hk);(try clear hi)))
  go_ret
  exact ⟨zsx7_8,zsx7_0⟩
 ·replace c4:=Bool.eq_false_iff.mpr c4
  subst c4;rw [if_neg (show ¬ (false=true) by decide)] at H;(try dsimp only at H);obtain rfl:=Option.some.inj H;go_enter Try.func82,Try.ntmps82
  go_wp2_with (first|((with_reducible refine gate_callee (f:=74) rfl ?_);refine goesL_ (some 7) rfl rfl Try.func74 (by kernel_rfl) rfl #[.slice A0 l0.length c0,.slice A1 l1.length c1] rfl (zsx7_2) ?_;(with_reducible refine (spec_clBlocks.calls k _ _ l0 _ _ l1 false _ ?side1 ?side2 ?side3 ?side4 A3.out).mono ?_);(case side1=>exact zsx7_30);(case side2=>exact HC0.out);(case side3=>exact zsx7_31);(case side4=>exact HC1.out);rintro e w' ⟨rfl,⟨nd,rfl⟩⟩;refine ⟨_,rfl,?_⟩))
  go_ret
  exact ⟨zsx7_8,zsx7_0⟩
mutual
def spec_clNext.l0:Nat→List Bool→List Int→List (List Int)→Int→Int→Option (List Int)
 | 0,_,_,_,_,_=>none
 | k + 1,x5,x6,x16,x17,x18=>if x18 < x17 then (if 0≤x18 then (if x18 < (x16.length:Int) then (if x18 < (x5.length:Int) then (spec_clNext.l1 k x5 x6 x18 (!(rdOf false x5 x18)) x16 x17 x18 (rd_L1 x16 x18) ((rd_L1 x16 x18).length:Int) 0) else (none)) else (none)) else (none)) else (some x6)
def spec_clNext.l1:Nat→List Bool→List Int→Int→Bool→List (List Int)→Int→Int→List Int→Int→Int→Option (List Int)
 | 0,_,_,_,_,_,_,_,_,_,_=>none
 | k + 1,x5,x6,x7,x9,x16,x17,x18,x28,x29,x30=>if x30 < x29 then (if 0≤x30 then (if x30 < (x28.length:Int) then (if x9=true then (if 0≤(rd x28 x30) then (if (rd x28 x30) < (x5.length:Int) then (spec_clNext.l1 k x5 x6 x7 (rdOf false x5 (rd x28 x30)) x16 x17 x18 x28 x29 (wrap64 (x30 + 1))) else (none)) else (none)) else (spec_clNext.l1 k x5 x6 x7 false x16 x17 x18 x28 x29 (wrap64 (x30 + 1)))) else (none)) else (none)) else (if x9=true then (if x6.length < 17592186044416 then (spec_clNext.l0 k x5 (x6 ++ [x7]) x16 x17 (wrap64 (x18 + 1))) else (none)) else (spec_clNext.l0 k x5 x6 x16 x17 (wrap64 (x18 + 1))))
end
def spec_clNext.f (k:Nat) (l0:List (List Int)) (l1:List Int):Option (List Int):=(spec_clMarks.f k (l0.length:Int) l1).bind fun t558=>(spec_clNext.l0 k t558 ([]:List Int) l0 (l0.length:Int) 0)
set_option maxHeartbeats 8000000 in
set_option maxRecDepth 100000 in
theorem spec_clNext.calls (k:Nat) (A0:Option Addr) (c0:Nat) (l0:List (List Int)) (A1:Option Addr) (c1:Nat) (l1:List Int) (r:List Int) (w:World) (hr0:Kd.C (Kd.slice 3 (Kd.int .i64)) w A0 l0.length l0) (hc0:l0.length≤c0) (hr1:Kd.C (Kd.int .i64) w A1 l1.length l1) (hc1:l1.length≤c1) (h:spec_clNext.f k l0 l1=some r) :
  Calls Try.prog 83 #[.slice A0 l0.length c0,.slice A1 l1.length c1] w fun e w'=>∃ v0_:Value,e=.returned (v0_)∧Kd.R (Kd.int .i64) 3 w' w.heap.size (fun _=>True) v0_ r∧Below w.heap.size w w':=by
 have HR0:=aM7 hr0;have HC0:=aM7 hc0;clear hr0 hc0;have HR1:=aM7 hr1;have HC1:=aM7 hc1;clear hr1 hc1;have HB:=aM7 (Below.refl w.heap.size w);have H:((spec_clMarks.f k (l0.length:Int) l1).bind fun t558=>(spec_clNext.l0 k t558 ([]:List Int) l0 (l0.length:Int) 0))=some r:=h;clear h;replace H:=bI7.mp H;obtain ⟨t558,A30,H⟩:=H;(try dsimp only at H);have A3:=aM7 A30;clear A30;have H':=aM7 H;clear H;go_enter Try.func83,Try.ntmps83
 go_wp2_with (first|((with_reducible refine gate_callee (f:=59) rfl ?_);refine goesL_ (some 15) rfl rfl Try.func59 (by kernel_rfl) rfl #[.int .i64 (l0.length:Int),.slice A1 l1.length c1] rfl (zsx7_2) ?_;(with_reducible refine (spec_clMarks.calls k (l0.length:Int) _ _ l1 t558 _ ?side1 ?side2 A3.out).mono ?_);(case side1=>exact zsx7_31);(case side2=>exact HC1.out);rintro e w4 ⟨v559,rfl,ho0,hb⟩;refine ⟨_,rfl,?_⟩;have n0_:=aM7 (Kd.R_lower ho0 (bZ7 (zsx7_0)));have n1_:=aM7 (below_step (zsx7_0) hb);clear HB;have HO560:=n0_;have HB:=n1_;clear n0_ n1_;(try clear hb);(try clear hb2);(try clear hk);(try clear hi);(try clear ho0)))
 go_loopg [6,18] k (fun kq v6 v18 w'=>∃ (x6_1:List Int) (x18_1:Int),v18=.int .i64 x18_1∧Aside0 (spec_clNext.l0 kq t558 x6_1 l0 (l0.length:Int) x18_1=some r)∧Aside0 (kq≤k)∧Aside0 (Kd.R Kd.bool 4 w' w.heap.size (fun _=>True) v559 t558)∧Aside0 (Kd.R (Kd.int .i64) 3 w' w.heap.size (fun _=>True) v6 x6_1)∧Aside0 (Below w.heap.size w w'))
 case atStart=>exact ⟨(([]:List Int)),(0),(zsx7_4),H',⟨Nat.le_refl _⟩,⟨by (with_reducible repeat (first|apply Kd.R_alloc|apply Kd.R_drewN|apply Kd.R_drew));exact HO560.out⟩,⟨zsx7_9⟩,⟨zsx7_0⟩⟩
 case round =>
  clear H';(try clear c1);(try clear p2);obtain ⟨x6_1,x18_1,rfl,HA,HK1,HO_5,HO_6,HB⟩:=hrel
  cases gk with
  | zero=>exact absurd HA.out (by simp [spec_clNext.l0])
  | succ k1 =>
   have H:=HA.out;clear HA;simp only [spec_clNext.l0] at H
   by_cases c5:x18_1 < (l0.length:Int)
   ·rw [if_pos c5] at H
    have c5b0:decide (x18_1 < (l0.length:Int))=true:=dT7 c5;clear c5
    by_cases c6:0≤x18_1
    ·rw [if_pos c6] at H
     have c6b0:decide (0≤x18_1)=true:=dT7 c6;clear c6
     by_cases c7:x18_1 < (l0.length:Int)
     ·rw [if_pos c7] at H
      have c7b0:decide (x18_1 < (l0.length:Int))=true:=dT7 c7;clear c7
      by_cases c8:x18_1 < (t558.length:Int)
      ·rw [if_pos c8] at H
       have c8b0:decide (x18_1 < (t558.length:Int))=true:=dT7 c8;clear c8;have H':=aM7 H;clear H;have p561:0≤(x18_1:Int):=oD7 (zsx7_5);have q561:x18_1 < (l0.length:Int):=oD7 (zsx7_5);obtain ⟨ad561,A561_0,c561_0,e561,hx561_0,hl561_0,hi561_0⟩:=at_L1 HR0.out x18_1 p561 q561
       cases e561
       replace hx561_0:=(HB.out.cell (bL7 w _ hx561_0)).trans hx561_0;have HR561_0:=aM7 hi561_0;have HC561_0:=aM7 hl561_0;clear hi561_0 hl561_0;replace p561:=eq_true p561;replace q561:=eq_true q561;obtain ⟨Ao9,co9,eo9⟩:=Kd.R_slice HO_5.out;subst eo9;have p562:0≤(x18_1:Int):=oD7 (zsx7_5);have q562:x18_1 < (t558.length:Int):=oD7 (zsx7_5);obtain ⟨ad562,e562,hx562_0⟩:=Kd.at_bool (Kd.R_reads' HO_5.out).2.2 x18_1 p562 q562
       cases e562
       replace p562:=eq_true p562;replace q562:=eq_true q562
       go_wp2
       go_loopg [9,30] k1 (fun kq v9 v30 w'=>∃ (x9_2:Bool) (x30_2:Int),v9=.bool x9_2∧v30=.int .i64 x30_2∧Aside0 (spec_clNext.l1 kq t558 x6_1 x18_1 x9_2 l0 (l0.length:Int) x18_1 (rd_L1 l0 x18_1) ((rd_L1 l0 x18_1).length:Int) x30_2=some r)∧Aside0 (kq≤k1)∧Aside0 (Kd.R Kd.bool 4 w' w.heap.size (fun _=>True) (.slice (some ad562) t558.length co9) t558)∧Aside0 (Kd.R (Kd.int .i64) 3 w' w.heap.size (fun _=>True) u6 x6_1)∧Aside0 (Below w.heap.size w w'))
       case atStart=>exact ⟨(!(rdOf false t558 x18_1)),(0),(zsx7_4),(zsx7_4),H',⟨Nat.le_refl _⟩,⟨zsx7_10⟩,⟨zsx7_6⟩,⟨zsx7_0⟩⟩
       case round =>
        clear H';(try clear c1);(try clear p2);(try clear c5);(try clear c5b0);(try clear p5);(try clear q5);(try clear hx5);(try clear c6);(try clear c6b0);(try clear c7);(try clear c7b0);(try clear c8);(try clear c8b0);(try clear hx561_0);(try clear hx562_0);(try clear p2);(try clear p561);(try clear p562);(try clear q561);(try clear q562);obtain ⟨x9_2,x30_2,rfl,rfl,HA,HK2,HO_5,HO_6,HB⟩:=hrel
        cases gk with
        | zero=>exact absurd HA.out (by simp [spec_clNext.l1])
        | succ k2 =>
         have H:=HA.out;clear HA;simp only [spec_clNext.l1] at H
         by_cases c10:x30_2 < ((rd_L1 l0 x18_1).length:Int)
         ·rw [if_pos c10] at H
          have c10b0:decide (x30_2 < ((rd_L1 l0 x18_1).length:Int))=true:=dT7 c10;clear c10
          by_cases c11:0≤x30_2
          ·rw [if_pos c11] at H
           have c11b0:decide (0≤x30_2)=true:=dT7 c11;clear c11
           by_cases c12:x30_2 < ((rd_L1 l0 x18_1).length:Int)
           ·rw [if_pos c12] at H
            have c12b0:decide (x30_2 < ((rd_L1 l0 x18_1).length:Int))=true:=dT7 c12;clear c12
            by_cases c13:x9_2=true
            ·subst c13
             rw [if_pos rfl] at H;(try dsimp only at H)
             by_cases c14:0≤(rd (rd_L1 l0 x18_1) x30_2)
             ·rw [if_pos c14] at H
              have c14b0:decide (0≤(rd (rd_L1 l0 x18_1) x30_2))=true:=dT7 c14;clear c14
              by_cases c15:(rd (rd_L1 l0 x18_1) x30_2) < (t558.length:Int)
              ·rw [if_pos c15] at H
               have c15b0:decide ((rd (rd_L1 l0 x18_1) x30_2) < (t558.length:Int))=true:=dT7 c15;clear c15;have H':=aM7 H;clear H;have p563:0≤(x30_2:Int):=oD7 (zsx7_5);have q563:x30_2 < ((rd_L1 l0 x18_1).length:Int):=oD7 (zsx7_5);obtain ⟨ad563,e563,hx563_0⟩:=Kd.at_int HR561_0.out x30_2 p563 q563
               cases e563
               replace hx563_0:=(HB.out.cell (bL7 w _ hx563_0)).trans hx563_0;replace p563:=eq_true p563;replace q563:=eq_true q563;have p564:0≤((rd (rd_L1 l0 x18_1) x30_2):Int):=oD7 (zsx7_5);have q564:(rd (rd_L1 l0 x18_1) x30_2) < (t558.length:Int):=oD7 (zsx7_5);obtain ⟨ad564,e564,hx564_0⟩:=Kd.at_bool (Kd.R_reads' HO_5.out).2.2 (rd (rd_L1 l0 x18_1) x30_2) p564 q564;obtain rfl:ad562=ad564:=(by injection e564);replace p564:=eq_true p564;replace q564:=eq_true q564
               go_wp2
               go_roundg k2
               case measure=>have:=HK1.out;have:=HK2.out;omega
               case rel=>exact ⟨(rdOf false t558 (rd (rd_L1 l0 x18_1) x30_2)),(wrap64 (x30_2 + 1)),(zsx7_4),(zsx7_4),H',⟨zsx7_11⟩,⟨zsx7_10⟩,⟨zsx7_6⟩,⟨zsx7_0⟩⟩
              ·rw [if_neg c15] at H
               exact absurd H (by simp)
             ·rw [if_neg c14] at H
              exact absurd H (by simp)
            ·replace c13:=Bool.eq_false_iff.mpr c13
             subst c13;rw [if_neg (show ¬ (false=true) by decide)] at H;(try dsimp only at H);have H':=aM7 H;clear H;have p563:0≤(x30_2:Int):=oD7 (zsx7_5);have q563:x30_2 < ((rd_L1 l0 x18_1).length:Int):=oD7 (zsx7_5);obtain ⟨ad563,e563,hx563_0⟩:=Kd.at_int HR561_0.out x30_2 p563 q563
             cases e563
             replace hx563_0:=(HB.out.cell (bL7 w _ hx563_0)).trans hx563_0;replace p563:=eq_true p563;replace q563:=eq_true q563
             go_wp2
             go_roundg k2
             case measure=>have:=HK1.out;have:=HK2.out;omega
             case rel=>exact ⟨(false),(wrap64 (x30_2 + 1)),(zsx7_4),(zsx7_4),H',⟨zsx7_11⟩,⟨zsx7_10⟩,⟨zsx7_6⟩,⟨zsx7_0⟩⟩
           ·rw [if_neg c12] at H
            exact absurd H (by simp)
          ·rw [if_neg c11] at H
           exact absurd H (by simp)
         ·rw [if_neg c10] at H
          have c10b0:decide (x30_2 < ((rd_L1 l0 x18_1).length:Int))=false:=decide_eq_false c10;clear c10
          by_cases c16:x9_2=true
          ·subst c16
           rw [if_pos rfl] at H;(try dsimp only at H)
           by_cases c17:x6_1.length < 17592186044416
           ·rw [if_pos c17] at H
            have LMc17:=aM7 c17;clear c17;obtain ⟨y565,hy565⟩:∃ y_:List Int,y_=(x6_1 ++ [x18_1]):=⟨_,rfl⟩
            replace H:(spec_clNext.l0 k2 t558 y565 l0 (l0.length:Int) (wrap64 (x18_1 + 1)))=some r:=by first|(rw [hy565];with_reducible exact H)|(have H2_:=(Option.bind_some _ _).symm.trans H;rw [hy565];with_reducible exact H2_)|(have H2_:=(Option.bind_some _ _).symm.trans H;with_reducible exact H2_)|with_reducible exact H|(rw [hy565];exact H)|exact H
            have Ny565:=aM7 hy565;clear hy565;have H':=aM7 H;clear H
            go_wp2_with (first|((with_reducible refine gate_builtin (b:=.append) (xs:=#[.tmp 43,.tmp 45]) rfl ?_);at_builtin;refine Kd.R_append (Kd.int .i64) (w0:=w) w.heap.size rfl (.tmp 43) (.tmp 45) 33 3 (.int .i64 0) 8 rfl Try.underlying33 info3 rfl (by decide) (by omega) u6 x6_1 x18_1 [.int .i64 x18_1] (fun _=>True) (fun _=>False) rfl rfl ?aP (fun _ hk=>hk.elim) ?aF ?aO ?aB ?aS ?aL ?_;(case aP=>exact rfl);(case aB=>exact (zsx7_0));(case aF=>exact (fun _ _=>trivial));(case aO=>exact (zsx7_6));(case aS=>exact (bZ7 (zsx7_0)));(case aL=>have:=LMc17.out;omega);intro v566 w18 ho hb hg hat;rw [← Ny565.out] at ho;have n0_:=aM7 (Kd.R_over' (zsx7_10) (Kd.R_typed (zsx7_6)) (by decide) hg);have n1_:=aM7 (hb);have n2_:=aM7 (ho);clear HO_5 HB HO_6;have HO_5:=n0_;have HB:=n1_;have HO567:=n2_;clear n0_ n1_ n2_ ho hb hg hat))
            go_roundg k2
            case measure=>have:=HK1.out;have:=HK2.out;omega
            case rel=>exact ⟨(y565),(wrap64 (x18_1 + 1)),(zsx7_4),H',⟨zsx7_11⟩,⟨zsx7_10⟩,⟨by (with_reducible repeat (first|apply Kd.R_alloc|apply Kd.R_drewN|apply Kd.R_drew));exact HO567.out⟩,⟨zsx7_0⟩⟩
           ·rw [if_neg c17] at H
            exact absurd H (by simp)
          ·replace c16:=Bool.eq_false_iff.mpr c16
           subst c16;rw [if_neg (show ¬ (false=true) by decide)] at H;(try dsimp only at H);have H':=aM7 H;clear H
           go_wp2
           go_roundg k2
           case measure=>have:=HK1.out;have:=HK2.out;omega
           case rel=>exact ⟨(x6_1),(wrap64 (x18_1 + 1)),(zsx7_4),H',⟨zsx7_11⟩,⟨zsx7_10⟩,⟨zsx7_6⟩,⟨zsx7_0⟩⟩
      ·rw [if_neg c8] at H
       exact absurd H (by simp)
     ·rw [if_neg c7] at H
      exact absurd H (by simp)
    ·rw [if_neg c6] at H
     exact absurd H (by simp)
   ·rw [if_neg c5] at H
    have c5b0:decide (x18_1 < (l0.length:Int))=false:=decide_eq_false c5;clear c5;obtain rfl:=Option.some.inj H
    go_wp2
    go_ret
    exact ⟨_,zsx7_8,zsx7_6,zsx7_0⟩
def spec_NextBlocks.f (k:Nat) (l0:List (List Int)) (l1:List Int):Option (List Int × Bool):=(spec_clGood.f k l0 l1).bind fun t568=>(if t568=true then ((spec_clNext.f k l0 l1).bind fun t569=>(some (t569,true))) else (some (([]:List Int),false)))
set_option maxHeartbeats 8000000 in
set_option maxRecDepth 100000 in
theorem spec_NextBlocks.calls (k:Nat) (A0:Option Addr) (c0:Nat) (l0:List (List Int)) (A1:Option Addr) (c1:Nat) (l1:List Int) (r1:List Int) (r2:Bool) (w:World) (hr0:Kd.C (Kd.slice 3 (Kd.int .i64)) w A0 l0.length l0) (hc0:l0.length≤c0) (hr1:Kd.C (Kd.int .i64) w A1 l1.length l1) (hc1:l1.length≤c1) (h:spec_NextBlocks.f k l0 l1=some (r1,r2)) :
  Calls Try.prog 37 #[.slice A0 l0.length c0,.slice A1 l1.length c1] w fun e w'=>∃ v0_:Value,e=.returned (.tuple #[v0_,.bool r2])∧Kd.R (Kd.int .i64) 3 w' w.heap.size (fun _=>True) v0_ r1∧Below w.heap.size w w':=by
 have HR0:=aM7 hr0;have HC0:=aM7 hc0;clear hr0 hc0;have HR1:=aM7 hr1;have HC1:=aM7 hc1;clear hr1 hc1;have HB:=aM7 (Below.refl w.heap.size w);have H:((spec_clGood.f k l0 l1).bind fun t568=>(if t568=true then ((spec_clNext.f k l0 l1).bind fun t569=>(some (t569,true))) else (some (([]:List Int),false))))=some (r1,r2):=h;clear h;replace H:=bI7.mp H;obtain ⟨t568,A30,H⟩:=H;(try dsimp only at H);have A3:=aM7 A30;clear A30
 by_cases c4:t568=true
 ·subst c4
  rw [if_pos rfl] at H;(try dsimp only at H);replace H:=bI7.mp H;obtain ⟨t569,A50,H⟩:=H;(try dsimp only at H);have A5:=aM7 A50;clear A50;simp only [Option.some.injEq,Prod.mk.injEq] at H;obtain ⟨rfl,rfl⟩:=H;go_enter Try.func37,Try.ntmps37
  go_wp2_with (first|((with_reducible refine gate_callee (f:=82) rfl ?_);refine goesL_ (some 8) rfl rfl Try.func82 (by kernel_rfl) rfl #[.slice A0 l0.length c0,.slice A1 l1.length c1] rfl (zsx7_2) ?_;(with_reducible refine (spec_clGood.calls k _ _ l0 _ _ l1 true _ ?side1 ?side2 ?side3 ?side4 A3.out).mono ?_);(case side1=>exact zsx7_30);(case side2=>exact HC0.out);(case side3=>exact zsx7_31);(case side4=>exact HC1.out);rintro e w6 ⟨rfl,hb⟩;refine ⟨_,rfl,?_⟩;have n0_:=aM7 (below_step (zsx7_0) hb);clear HB;have HB:=n0_;clear n0_;(try clear hb);(try clear hb2);(try clear hk);(try clear hi))|((with_reducible refine gate_callee (f:=83) rfl ?_);refine goesL_ (some 12) rfl rfl Try.func83 (by kernel_rfl) rfl #[.slice A0 l0.length c0,.slice A1 l1.length c1] rfl (zsx7_2) ?_;(with_reducible refine (spec_clNext.calls k _ _ l0 _ _ l1 t569 _ ?side1 ?side2 ?side3 ?side4 A5.out).mono ?_);(case side1=>exact zsx7_25);(case side2=>exact HC0.out);(case side3=>exact zsx7_32);(case side4=>exact HC1.out);rintro e w7 ⟨v570,rfl,ho0,hb⟩;refine ⟨_,rfl,?_⟩;have n0_:=aM7 (Kd.R_lower ho0 (bZ7 (zsx7_0)));have n1_:=aM7 (below_step (zsx7_0) hb);clear HB;have HO571:=n0_;have HB:=n1_;clear n0_ n1_;(try clear hb);(try clear hb2);(try clear hk);(try clear hi);(try clear ho0)))
  go_ret2
  exact ⟨_,zsx7_8,by (with_reducible repeat (first|apply Kd.R_alloc|apply Kd.R_drewN|apply Kd.R_drew));exact HO571.out,zsx7_0⟩
 ·replace c4:=Bool.eq_false_iff.mpr c4
  subst c4;rw [if_neg (show ¬ (false=true) by decide)] at H;(try dsimp only at H);simp only [Option.some.injEq,Prod.mk.injEq] at H;obtain ⟨rfl,rfl⟩:=H;go_enter Try.func37,Try.ntmps37
  go_wp2_with (first|((with_reducible refine gate_callee (f:=82) rfl ?_);refine goesL_ (some 8) rfl rfl Try.func82 (by kernel_rfl) rfl #[.slice A0 l0.length c0,.slice A1 l1.length c1] rfl (zsx7_2) ?_;(with_reducible refine (spec_clGood.calls k _ _ l0 _ _ l1 false _ ?side1 ?side2 ?side3 ?side4 A3.out).mono ?_);(case side1=>exact zsx7_30);(case side2=>exact HC0.out);(case side3=>exact zsx7_31);(case side4=>exact HC1.out);rintro e w8 ⟨rfl,hb⟩;refine ⟨_,rfl,?_⟩;have n0_:=aM7 (below_step (zsx7_0) hb);clear HB;have HB:=n0_;clear n0_;(try clear hb);(try clear hb2);(try clear hk);(try clear hi)))
  go_ret2
  exact ⟨_,zsx7_8,zsx7_9,zsx7_0⟩
mutual
def impl_LastBlocks.l0:Nat→List (List Int)→List Int→List Bool→List Int→Int→Int→Option (List Int × Bool)
 | 0,_,_,_,_,_,_=>none
 | k + 1,x0,x1,x6,x22,x23,x24=>if x24 < x23 then (if 0≤x24 then (if x24 < (x22.length:Int) then (if 0≤(rd x22 x24) then (if (rd x22 x24) < (x0.length:Int) then (impl_LastBlocks.l1 k x0 x1 x6 x22 x23 x24 (rd_L1 x0 (rd x22 x24)) ((rd_L1 x0 (rd x22 x24)).length:Int) 0) else (none)) else (none)) else (none)) else (none)) else (impl_LastBlocks.l2 k x6 (([]:List Int)) x1 (x1.length:Int) 0)
def impl_LastBlocks.l1:Nat→List (List Int)→List Int→List Bool→List Int→Int→Int→List Int→Int→Int→Option (List Int × Bool)
 | 0,_,_,_,_,_,_,_,_,_=>none
 | k + 1,x0,x1,x6,x22,x23,x24,x31,x32,x33=>if x33 < x32 then (if 0≤x33 then (if x33 < (x31.length:Int) then (if 0≤(rd x31 x33) then (if (rd x31 x33) < (x6.length:Int) then (impl_LastBlocks.l1 k x0 x1 (x6.set ((rd x31 x33):Int).toNat true) x22 x23 x24 x31 x32 (wrap64 (x33 + 1))) else (none)) else (none)) else (none)) else (none)) else (impl_LastBlocks.l0 k x0 x1 x6 x22 x23 (wrap64 (x24 + 1)))
def impl_LastBlocks.l2:Nat→List Bool→List Int→List Int→Int→Int→Option (List Int × Bool)
 | 0,_,_,_,_,_=>none
 | k + 1,x6,x11,x43,x44,x45=>if x45 < x44 then (if 0≤x45 then (if x45 < (x43.length:Int) then (if 0≤(rd x43 x45) then (if (rd x43 x45) < (x6.length:Int) then (if (rdOf false x6 (rd x43 x45)=true) then (impl_LastBlocks.l2 k x6 x11 x43 x44 (wrap64 (x45 + 1))) else (if x11.length < 17592186044416 then (impl_LastBlocks.l2 k x6 (x11 ++ [rd x43 x45]) x43 x44 (wrap64 (x45 + 1))) else (none))) else (none)) else (none)) else (none)) else (none)) else (some (x11,true))
end
def impl_LastBlocks.f (k:Nat) (l0:List (List Int)) (l1:List Int):Option (List Int × Bool):=(impl_arePits.f k l0 (([l1]:List (List Int)))).bind fun t575=>(if t575=true then (if 0≤(l0.length:Int) then (if ((l0.length:Int):Int).toNat≤281474976710656 then (impl_LastBlocks.l0 k l0 l1 (List.replicate ((l0.length:Int):Int).toNat false) l1 (l1.length:Int) 0) else (none)) else (none)) else (some (([]:List Int),false)))
set_option maxHeartbeats 8000000 in
set_option maxRecDepth 100000 in
theorem impl_LastBlocks.calls (k:Nat) (A0:Option Addr) (c0:Nat) (l0:List (List Int)) (P1_:Nat→Prop) (A1:Option Addr) (c1:Nat) (l1:List Int) (r1:List Int) (r2:Bool) (w:World) (hr0:Kd.C (Kd.slice 3 (Kd.int .i64)) w A0 l0.length l0) (hc0:l0.length≤c0) (hs1:Kd.V (Kd.int .i64) 3 w w.heap.size (fun k_=>P1_ k_) (.slice A1 l1.length c1) l1) (h:impl_LastBlocks.f k l0 l1=some (r1,r2)) :
  Calls Try.prog 38 #[.slice A0 l0.length c0,.slice A1 l1.length c1] w fun e w'=>∃ v0_:Value,e=.returned (.tuple #[v0_,.bool r2])∧Kd.R (Kd.int .i64) 3 w' w.heap.size (fun k_=>(w.heap.size≤k_)) v0_ r1∧Below w.heap.size w w':=by
 have HR0:=aM7 hr0;have HC0:=aM7 hc0;clear hr0 hc0;have HO1:=aM7 (show Kd.V (Kd.int .i64) 3 w w.heap.size (fun k_=>(P1_ k_ ∨ w.heap.size≤k_)) (.slice A1 l1.length c1) l1 from Kd.V_mono hs1 (fun k_ hk=>.inl hk));have HB:=aM7 (Below.refl w.heap.size w);have H:((impl_arePits.f k l0 (([l1]:List (List Int)))).bind fun t575=>(if t575=true then (if 0≤(l0.length:Int) then (if ((l0.length:Int):Int).toNat≤281474976710656 then (impl_LastBlocks.l0 k l0 l1 (List.replicate ((l0.length:Int):Int).toNat false) l1 (l1.length:Int) 0) else (none)) else (none)) else (some (([]:List Int),false))))=some (r1,r2):=h;clear h;obtain ⟨y572,hy572⟩:∃ y_:List (List Int),y_=(([l1]:List (List Int))):=⟨_,rfl⟩
 replace H:((impl_arePits.f k l0 y572).bind fun t575=>(if t575=true then (if 0≤(l0.length:Int) then (if ((l0.length:Int):Int).toNat≤281474976710656 then (impl_LastBlocks.l0 k l0 l1 (List.replicate ((l0.length:Int):Int).toNat false) l1 (l1.length:Int) 0) else (none)) else (none)) else (some (([]:List Int),false))))=some (r1,r2):=by first|(rw [hy572];with_reducible exact H)|(have H2_:=(Option.bind_some _ _).symm.trans H;rw [hy572];with_reducible exact H2_)|(have H2_:=(Option.bind_some _ _).symm.trans H;with_reducible exact H2_)|with_reducible exact H|(rw [hy572];exact H)|exact H
 have Ny572:=aM7 hy572;clear hy572;replace H:=bI7.mp H;obtain ⟨t575,A30,H⟩:=H;(try dsimp only at H);have A3:=aM7 A30;clear A30
 by_cases c4:t575=true
 ·subst c4
  rw [if_pos rfl] at H;(try dsimp only at H)
  by_cases c5:0≤(l0.length:Int)
  ·rw [if_pos c5] at H
   have c5b0:=eq_true c5;have c5b1:decide (0≤(l0.length:Int))=true:=dT7 c5;clear c5
   by_cases c6:((l0.length:Int):Int).toNat≤281474976710656
   ·rw [if_pos c6] at H
    have c6b0:=eq_true c6;have c6b1:decide (((l0.length:Int):Int).toNat≤281474976710656)=true:=dT7 c6;clear c6;obtain ⟨y576,hy576⟩:∃ y_:List Bool,y_=(List.replicate ((l0.length:Int):Int).toNat false):=⟨_,rfl⟩
    replace H:(impl_LastBlocks.l0 k l0 l1 y576 l1 (l1.length:Int) 0)=some (r1,r2):=by first|(rw [hy576];with_reducible exact H)|(have H2_:=(Option.bind_some _ _).symm.trans H;rw [hy576];with_reducible exact H2_)|(have H2_:=(Option.bind_some _ _).symm.trans H;with_reducible exact H2_)|with_reducible exact H|(rw [hy576];exact H)|exact H
    have Ny576:=aM7 hy576;clear hy576;have H':=aM7 H;clear H;go_enter Try.func38,Try.ntmps38
    go_wp2_with (first|((with_reducible refine gate_dst (N:=16) rfl ?_);refine Kd.N_lit (Kd.slice 3 (Kd.int .i64)) _ 33 ?hg (N':=16) ?hd (xs:=([l1]:List (List Int))) (inner:=[.slice A1 l1.length c1]) (ok:=(fun k_=>(P1_ k_ ∨ w.heap.size≤k_))) (okp:=(fun k_=>(P1_ k_ ∨ w.heap.size≤k_))) ?hr ?hp (fun _ hk=>hk) ((show ∀ k_,w.heap.size≤k_→(fun k_=>(P1_ k_ ∨ w.heap.size≤k_)) k_ from fun k_ hk=>(.inr (Nat.le_trans (bZ7 (zsx7_0)) hk))) _ (Nat.le_refl _)) (Below.refl _ _) (Nat.le_refl _) (by simp) ?_;(case hd=>rfl);(case hg=>rfl);(case hr=>exact zsx7_24);(case hp=>exact (Reps.one (show Kd.FK (Kd.slice 3 (Kd.int .i64)) _ _ l1 [.slice A1 l1.length c1] from (Kd.FK_slice_mk (Kd.V_reads' (Kd.V_mono (ok':=(fun k_=>(P1_ k_ ∨ w.heap.size≤k_))) (HO1.out) (fun k_ hk=>hk))).2.1 (Kd.V_F (Kd.V_mono (ok':=(fun k_=>(P1_ k_ ∨ w.heap.size≤k_))) (HO1.out) (fun k_ hk=>hk))))) (Reps.none _ _)));intro v573 w7 ho8 hb hg_ hnew_;clear hg_ hnew_;(first|rw [← Ny572.out] at ho8|(simp only [Int.reduceToNat] at ho8;rw [← Ny572.out] at ho8));have n0_:=aM7 (Kd.V_elder' (zsx7_1) (Kd.N_base ho8) hb);have n1_:=aM7 (Kd.N_lower ho8 (bZ7 (zsx7_0)));have n2_:=aM7 (below_step (zsx7_0) hb);clear HO1 HB;have HO1:=n0_;have HO574:=n1_;have HB:=n2_;clear n0_ n1_ n2_ hb ho8;obtain ⟨Ao9,co9,eo9⟩:=Kd.N_slice HO574.out;subst eo9)|((with_reducible refine gate_callee (f:=80) rfl ?_);refine goesL_ (some 17) rfl rfl Try.func80 (by kernel_rfl) rfl #[.slice A0 l0.length c0,.slice Ao9 y572.length co9] rfl (zsx7_2) ?_;(with_reducible refine (impl_arePits.calls k _ _ l0 _ _ y572 true _ ?side1 ?side2 ?side3 ?side4 A3.out).mono ?_);(case side1=>exact zsx7_25);(case side2=>exact HC0.out);(case side3=>exact zsx7_33);(case side4=>exact (Kd.N_reads' HO574.out).2.1);rintro e w10 ⟨rfl,hb⟩;refine ⟨_,rfl,?_⟩;have n0_:=aM7 (Kd.V_below (zsx7_1) hb);have n1_:=aM7 (Kd.N_below (zsx7_12) hb);have n2_:=aM7 (below_step (zsx7_0) hb);clear HO1 HO574 HB;have HO1:=n0_;have HO574:=n1_;have HB:=n2_;clear n0_ n1_ n2_;(try clear hb);(try clear hb2);(try clear hk);(try clear hi))|((with_reducible refine gate_dst (N:=21) rfl ?_);refine Kd.R_make Kd.bool _ 4 rfl (N:=21) rfl 55 _ _ rfl (l0.length:Int) rfl rfl Try.underlying55 (.bool false) 1 info4 rfl (by decide) (by omega) false (ok:=fun _=>True) (okp:=fun _=>True) rfl (fun _ hk=>hk) trivial (oD7 (zsx7_5)) (Nat.le_trans (Nat.mul_le_mul_right _ (oD7 (zsx7_5):(l0.length:Int).toNat≤281474976710656)) (by omega)) (Below.refl _ _) (Nat.le_refl _) ?_;intro v577 w11 ho12 hb hg_ hnew_;clear hg_ hnew_;(first|rw [← Ny576.out] at ho12|(simp only [Int.reduceToNat] at ho12;rw [← Ny576.out] at ho12));have n0_:=aM7 (Kd.V_elder' (zsx7_1) (Kd.R_base ho12) hb);have n1_:=aM7 (Kd.N_elder' (zsx7_12) (Kd.R_base ho12) hb);have n2_:=aM7 (Kd.R_lower (Kd.R_newM (M:=fun k_=>(w.heap.size≤k_)) ho12 (bZ7 (zsx7_0)) (fun k_ h_=>h_)) (bZ7 (zsx7_0)));have n3_:=aM7 (below_step (zsx7_0) hb);clear HO1 HO574 HB;have HO1:=n0_;have HO574:=n1_;have HO578:=n2_;have HB:=n3_;clear n0_ n1_ n2_ n3_ hb ho12))
    go_loopg [24] k (fun kq v24 w'=>∃ (x6_1:List Bool) (x24_1:Int),v24=.int .i64 x24_1∧Aside0 (impl_LastBlocks.l0 kq l0 l1 x6_1 l1 (l1.length:Int) x24_1=some (r1,r2))∧Aside0 (kq≤k)∧Aside0 (Kd.V (Kd.int .i64) 3 w' w.heap.size (fun k_=>(P1_ k_ ∨ w.heap.size≤k_)∧some k_≠(v577:Value).ownBlock) (.slice A1 l1.length c1) l1)∧Aside0 (Kd.R Kd.bool 4 w' w.heap.size (fun k_=>(w.heap.size≤k_)) v577 x6_1)∧Aside0 (Kd.V (Kd.int .i64) 3 w' w.heap.size (fun k_=>(P1_ k_ ∨ w.heap.size≤k_)∧some k_≠(v577:Value).ownBlock) (.slice A1 l1.length c1) l1)∧Aside0 (Below w.heap.size w w'))
    case atStart=>exact ⟨(y576),(0),(zsx7_4),H',⟨Nat.le_refl _⟩,⟨zsx7_13⟩,⟨by (with_reducible repeat (first|apply Kd.R_alloc|apply Kd.R_drewN|apply Kd.R_drew));exact Kd.R_mono HO578.out (fun _ hk=>hk.1)⟩,⟨zsx7_13⟩,⟨zsx7_0⟩⟩
    case round =>
     clear H';(try clear c1);(try clear p2);(try clear c3);(try clear c4);(try clear c5);(try clear c5b0);(try clear c5b1);(try clear c6);(try clear c6b0);(try clear c6b1);(try clear c8);obtain ⟨x6_1,x24_1,rfl,HA,HK1,HO_1,HO_6,HO_22,HB⟩:=hrel
     cases gk with
     | zero=>exact absurd HA.out (by simp [impl_LastBlocks.l0])
     | succ k1 =>
      have H:=HA.out;clear HA;simp only [impl_LastBlocks.l0] at H
      by_cases c13:x24_1 < (l1.length:Int)
      ·rw [if_pos c13] at H
       have c13b0:decide (x24_1 < (l1.length:Int))=true:=dT7 c13;clear c13
       by_cases c14:0≤x24_1
       ·rw [if_pos c14] at H
        have c14b0:decide (0≤x24_1)=true:=dT7 c14;clear c14
        by_cases c15:x24_1 < (l1.length:Int)
        ·rw [if_pos c15] at H
         have c15b0:decide (x24_1 < (l1.length:Int))=true:=dT7 c15;clear c15
         by_cases c16:0≤(rd l1 x24_1)
         ·rw [if_pos c16] at H
          have c16b0:decide (0≤(rd l1 x24_1))=true:=dT7 c16;clear c16
          by_cases c17:(rd l1 x24_1) < (l0.length:Int)
          ·rw [if_pos c17] at H
           have c17b0:decide ((rd l1 x24_1) < (l0.length:Int))=true:=dT7 c17;clear c17;have H':=aM7 H;clear H;have p579:0≤(x24_1:Int):=oD7 (zsx7_5);have q579:x24_1 < (l1.length:Int):=oD7 (zsx7_5);obtain ⟨ad579,e579,hx579_0⟩:=Kd.at_int (Kd.V_reads' HO_22.out).2.2 x24_1 p579 q579
           cases e579
           replace p579:=eq_true p579;replace q579:=eq_true q579;have p580:0≤((rd l1 x24_1):Int):=oD7 (zsx7_5);have q580:(rd l1 x24_1) < (l0.length:Int):=oD7 (zsx7_5);obtain ⟨ad580,A580_0,c580_0,e580,hx580_0,hl580_0,hi580_0⟩:=at_L1 HR0.out (rd l1 x24_1) p580 q580
           cases e580
           replace hx580_0:=(HB.out.cell (bL7 w _ hx580_0)).trans hx580_0;have HR580_0:=aM7 hi580_0;have HC580_0:=aM7 hl580_0;clear hi580_0 hl580_0;replace p580:=eq_true p580;replace q580:=eq_true q580
           go_wp2
           go_loopg [33] k1 (fun kq v33 w'=>∃ (x6_2:List Bool) (x33_2:Int),v33=.int .i64 x33_2∧Aside0 (impl_LastBlocks.l1 kq l0 l1 x6_2 l1 (l1.length:Int) x24_1 (rd_L1 l0 (rd l1 x24_1)) ((rd_L1 l0 (rd l1 x24_1)).length:Int) x33_2=some (r1,r2))∧Aside0 (kq≤k1)∧Aside0 (Kd.V (Kd.int .i64) 3 w' w.heap.size (fun k_=>(P1_ k_ ∨ w.heap.size≤k_)∧some k_≠(v577:Value).ownBlock) (.slice (some ad579) l1.length c1) l1)∧Aside0 (Kd.R Kd.bool 4 w' w.heap.size (fun k_=>(w.heap.size≤k_)) v577 x6_2)∧Aside0 (Kd.V (Kd.int .i64) 3 w' w.heap.size (fun k_=>(P1_ k_ ∨ w.heap.size≤k_)∧some k_≠(v577:Value).ownBlock) (.slice (some ad579) l1.length c1) l1)∧Aside0 (Below w.heap.size w w'))
           case atStart=>exact ⟨(x6_1),(0),(zsx7_4),H',⟨Nat.le_refl _⟩,⟨zsx7_14⟩,⟨zsx7_6⟩,⟨zsx7_15⟩,⟨zsx7_0⟩⟩
           case round =>
            clear H';(try clear c1);(try clear p2);(try clear c3);(try clear c4);(try clear c5);(try clear c5b0);(try clear c5b1);(try clear p5);(try clear q5);(try clear hx5);(try clear c6);(try clear c6b0);(try clear c6b1);(try clear c8);(try clear c13);(try clear c13b0);(try clear c14);(try clear c14b0);(try clear c15);(try clear c15b0);(try clear c16);(try clear c16b0);(try clear c17);(try clear c17b0);(try clear hx579_0);(try clear hx580_0);(try clear p2);(try clear p579);(try clear p580);(try clear q579);(try clear q580);obtain ⟨x6_2,x33_2,rfl,HA,HK2,HO_1,HO_6,HO_22,HB⟩:=hrel
            cases gk with
            | zero=>exact absurd HA.out (by simp [impl_LastBlocks.l1])
            | succ k2 =>
             have H:=HA.out;clear HA;simp only [impl_LastBlocks.l1] at H
             by_cases c18:x33_2 < ((rd_L1 l0 (rd l1 x24_1)).length:Int)
             ·rw [if_pos c18] at H
              have c18b0:decide (x33_2 < ((rd_L1 l0 (rd l1 x24_1)).length:Int))=true:=dT7 c18;clear c18
              by_cases c19:0≤x33_2
              ·rw [if_pos c19] at H
               have c19b0:decide (0≤x33_2)=true:=dT7 c19;clear c19
               by_cases c20:x33_2 < ((rd_L1 l0 (rd l1 x24_1)).length:Int)
               ·rw [if_pos c20] at H
                have c20b0:decide (x33_2 < ((rd_L1 l0 (rd l1 x24_1)).length:Int))=true:=dT7 c20;clear c20
                by_cases c21:0≤(rd (rd_L1 l0 (rd l1 x24_1)) x33_2)
                ·rw [if_pos c21] at H
                 have c21b0:decide (0≤(rd (rd_L1 l0 (rd l1 x24_1)) x33_2))=true:=dT7 c21;clear c21
                 by_cases c22:(rd (rd_L1 l0 (rd l1 x24_1)) x33_2) < (x6_2.length:Int)
                 ·rw [if_pos c22] at H
                  have c22b0:decide ((rd (rd_L1 l0 (rd l1 x24_1)) x33_2) < (x6_2.length:Int))=true:=dT7 c22;clear c22;obtain ⟨y582,hy582⟩:∃ y_:List Bool,y_=(x6_2.set ((rd (rd_L1 l0 (rd l1 x24_1)) x33_2):Int).toNat true):=⟨_,rfl⟩
                  replace H:(impl_LastBlocks.l1 k2 l0 l1 y582 l1 (l1.length:Int) x24_1 (rd_L1 l0 (rd l1 x24_1)) ((rd_L1 l0 (rd l1 x24_1)).length:Int) (wrap64 (x33_2 + 1)))=some (r1,r2):=by first|(rw [hy582];with_reducible exact H)|(have H2_:=(Option.bind_some _ _).symm.trans H;rw [hy582];with_reducible exact H2_)|(have H2_:=(Option.bind_some _ _).symm.trans H;with_reducible exact H2_)|with_reducible exact H|(rw [hy582];exact H)|exact H
                  have Ny582:=aM7 hy582;clear hy582;have H':=aM7 H;clear H;have p581:0≤(x33_2:Int):=oD7 (zsx7_5);have q581:x33_2 < ((rd_L1 l0 (rd l1 x24_1)).length:Int):=oD7 (zsx7_5);obtain ⟨ad581,e581,hx581_0⟩:=Kd.at_int HR580_0.out x33_2 p581 q581
                  cases e581
                  replace hx581_0:=(HB.out.cell (bL7 w _ hx581_0)).trans hx581_0;replace p581:=eq_true p581;replace q581:=eq_true q581;have p23:0≤((rd (rd_L1 l0 (rd l1 x24_1)) x33_2):Int):=oD7 (zsx7_5);have q23:((rd (rd_L1 l0 (rd l1 x24_1)) x33_2):Int) < ((x6_2.length:Int):Int):=oD7 (zsx7_5);obtain ⟨go23,co23,eo23,gb23,gl23,cl23,HG23⟩:=Kd.R_form HO_6.out (by omega)
                  (first|cases eo23|(injection eo23 with ea_ en_ ec_;(first|subst ea_|(injection ea_ with ea_;subst ea_));subst ec_;clear en_))
                  have GB23:=aM7 gb23;have GG23:=aM7 HG23;clear gb23 gl23 HG23;obtain ⟨hx23_0,hf23_0⟩:=Kd.R_celln false HO_6.out ((rd (rd_L1 l0 (rd l1 x24_1)) x33_2):Int) p23 q23;replace p23:=eq_true p23;replace q23:=eq_true q23;have HP24:=Kd.R_putg HO_6.out ((rd (rd_L1 l0 (rd l1 x24_1)) x33_2):Int) true
                  go_wp2_with (first|((with_reducible refine gate_store (t:=4) (p:=39) rfl ?_);refine store_event (t:=4) (p:=39) (v:=?vo_w25) (w1:=(wr.setCell ⟨go23,((rd (rd_L1 l0 (rd l1 x24_1)) x33_2):Int).toNat,none⟩ (.bool true))) ?hg ?ho ?hn ?hr ?_;(case ho=>rfl);(case hg=>rfl);(case hn=>rfl);(case hr=>exact zsx7_24);intro w25 hw;have hg:wr.grownBy w25 (some go23):=(by rw [hw];exact HP24.2);have hp_:Kd.R Kd.bool 4 w25 w.heap.size (fun k_=>(w.heap.size≤k_)) (.slice (some ⟨go23,0,none⟩) x6_2.length co23) y582:=(by rw [hw,Ny582.out];exact HP24.1);clear HP24;have n0_:=aM7 (Kd.V_afterv (v:=(.slice (some ⟨go23,0,none⟩) x6_2.length co23)) (v1:=(.slice (some ⟨go23,0,none⟩) x6_2.length co23)) (ok:=(fun k_=>(P1_ k_ ∨ w.heap.size≤k_))) (zsx7_14) hg (.inl rfl));have n1_:=aM7 (hp_);have n2_:=aM7 (Kd.V_afterv (v:=(.slice (some ⟨go23,0,none⟩) x6_2.length co23)) (v1:=(.slice (some ⟨go23,0,none⟩) x6_2.length co23)) (ok:=(fun k_=>(P1_ k_ ∨ w.heap.size≤k_))) (zsx7_15) hg (.inl rfl));have n3_:=aM7 ((by rw [hw];exact below_set (HB.out) GB23.out:Below w.heap.size w w25));clear HO_1 HO_6 HO_22 HB;have HO_1:=n0_;have HO_6:=n1_;have HO_22:=n2_;have HB:=n3_;clear n0_ n1_ n2_ n3_ hg hw hp_))
                  go_roundg k2
                  case measure=>have:=HK1.out;have:=HK2.out;omega
                  case rel=>exact ⟨(y582),(wrap64 (x33_2 + 1)),(zsx7_4),H',⟨zsx7_11⟩,⟨zsx7_14⟩,⟨zsx7_6⟩,⟨zsx7_15⟩,⟨zsx7_0⟩⟩
                 ·rw [if_neg c22] at H
                  exact absurd H (by simp)
                ·rw [if_neg c21] at H
                 exact absurd H (by simp)
               ·rw [if_neg c20] at H
                exact absurd H (by simp)
              ·rw [if_neg c19] at H
               exact absurd H (by simp)
             ·rw [if_neg c18] at H
              have c18b0:decide (x33_2 < ((rd_L1 l0 (rd l1 x24_1)).length:Int))=false:=decide_eq_false c18;clear c18;have H':=aM7 H;clear H
              go_wp2
              go_roundg k2
              case measure=>have:=HK1.out;have:=HK2.out;omega
              case rel=>exact ⟨(x6_2),(wrap64 (x24_1 + 1)),(zsx7_4),H',⟨zsx7_11⟩,⟨zsx7_14⟩,⟨zsx7_6⟩,⟨zsx7_15⟩,⟨zsx7_0⟩⟩
          ·rw [if_neg c17] at H
           exact absurd H (by simp)
         ·rw [if_neg c16] at H
          exact absurd H (by simp)
        ·rw [if_neg c15] at H
         exact absurd H (by simp)
       ·rw [if_neg c14] at H
        exact absurd H (by simp)
      ·rw [if_neg c13] at H
       have c13b0:decide (x24_1 < (l1.length:Int))=false:=decide_eq_false c13;clear c13;obtain ⟨y583,hy583⟩:∃ y_:List Int,y_=(([]:List Int)):=⟨_,rfl⟩
       replace H:(impl_LastBlocks.l2 k1 x6_1 y583 l1 (l1.length:Int) 0)=some (r1,r2):=by first|(rw [hy583];with_reducible exact H)|(have H2_:=(Option.bind_some _ _).symm.trans H;rw [hy583];with_reducible exact H2_)|(have H2_:=(Option.bind_some _ _).symm.trans H;with_reducible exact H2_)|with_reducible exact H|(rw [hy583];exact H)|exact H
       have Ny583:=aM7 hy583;clear hy583;have H':=aM7 H;clear H
       go_wp2_with (first|((with_reducible refine gate_dst (N:=42) rfl ?_);refine Kd.R_lit (Kd.int .i64) _ 3 ?hg (N:=42) ?hd (xs:=([]:List Int)) (inner:=[]) (ok:=fun _=>True) (okp:=fun _=>True) ?hr ?hp (fun _ hk=>hk) trivial (Below.refl _ _) (Nat.le_refl _) (by simp) ?_;(case hd=>rfl);(case hg=>rfl);(case hr=>exact zsx7_24);(case hp=>exact (Reps.none _ _));intro v584 w26 ho27 hb hg_ hnew_;clear hg_ hnew_;(first|rw [← Ny583.out] at ho27|(simp only [Int.reduceToNat] at ho27;rw [← Ny583.out] at ho27));have n0_:=aM7 (Kd.V_elder' (zsx7_14) (Kd.R_base ho27) hb);have n1_:=aM7 (Kd.R_below (zsx7_6) hb);have n2_:=aM7 (Kd.V_elder' (zsx7_15) (Kd.R_base ho27) hb);have n3_:=aM7 (Kd.R_lower (Kd.R_newM (M:=fun k_=>(w.heap.size≤k_)) ho27 (bZ7 (zsx7_0)) (fun k_ h_=>h_)) (bZ7 (zsx7_0)));have n4_:=aM7 (below_step (zsx7_0) hb);clear HO_1 HO_6 HO_22 HB;have HO_1:=n0_;have HO_6:=n1_;have HO_22:=n2_;have HO585:=n3_;have HB:=n4_;clear n0_ n1_ n2_ n3_ n4_ hb ho27))
       go_loopg [11,45] k1 (fun kq v11 v45 w'=>∃ (x11_2:List Int) (x45_2:Int),v45=.int .i64 x45_2∧Aside0 (impl_LastBlocks.l2 kq x6_1 x11_2 l1 (l1.length:Int) x45_2=some (r1,r2))∧Aside0 (kq≤k1)∧Aside0 (Kd.R Kd.bool 4 w' w.heap.size (fun k_=>(w.heap.size≤k_)) v577 x6_1)∧Aside0 (Kd.R (Kd.int .i64) 3 w' w.heap.size (fun k_=>(w.heap.size≤k_)) v11 x11_2)∧Aside0 (Kd.V (Kd.int .i64) 3 w' w.heap.size (fun k_=>(P1_ k_ ∨ w.heap.size≤k_)∧some k_≠(v577:Value).ownBlock∧some k_≠(v11:Value).ownBlock) (.slice A1 l1.length c1) l1)∧Aside0 (Below w.heap.size w w'))
       case atStart=>exact ⟨(y583),(0),(zsx7_4),H',⟨Nat.le_refl _⟩,⟨zsx7_6⟩,⟨by (with_reducible repeat (first|apply Kd.R_alloc|apply Kd.R_drewN|apply Kd.R_drew));exact Kd.R_mono HO585.out (fun _ hk=>hk.1)⟩,⟨by (with_reducible repeat (first|apply Kd.V_alloc|apply Kd.V_drewN|apply Kd.V_drew));exact Kd.V_mono HO_1.out (fun _ hk=>⟨hk.1.1,⟨hk.1.2,hk.2⟩⟩)⟩,⟨zsx7_0⟩⟩
       case round =>
        clear H';(try clear c1);(try clear c2);(try clear p2);(try clear q2);(try clear hx2);(try clear hf2);(try clear c3);(try clear c4);(try clear c5);(try clear c5b0);(try clear c5b1);(try clear p5);(try clear q5);(try clear hx5);(try clear c6);(try clear c6b0);(try clear c6b1);(try clear p6);(try clear c8);(try clear c13);(try clear c13b0);(try clear c14);(try clear c14b0);(try clear c15);(try clear c15b0);(try clear c16);(try clear c16b0);(try clear c17);(try clear c17b0);(try clear c18);(try clear c18b0);(try clear c19);(try clear c19b0);(try clear c20);(try clear c20b0);(try clear c21);(try clear c21b0);(try clear c22);(try clear c22b0);(try clear p23);(try clear q23);(try clear hx23);(try clear hf23);(try clear hx23_0);(try clear hx579_0);(try clear hx580_0);(try clear hx581_0);(try clear p2);(try clear p23);(try clear p5);(try clear p579);(try clear p580);(try clear p581);(try clear q23);(try clear q5);(try clear q579);(try clear q580);(try clear q581);obtain ⟨x11_2,x45_2,rfl,HA,HK2,HO_6,HO_11,HO_43,HB⟩:=hrel
        cases gk with
        | zero=>exact absurd HA.out (by simp [impl_LastBlocks.l2])
        | succ k2 =>
         have H:=HA.out;clear HA;simp only [impl_LastBlocks.l2] at H
         by_cases c28:x45_2 < (l1.length:Int)
         ·rw [if_pos c28] at H
          have c28b0:decide (x45_2 < (l1.length:Int))=true:=dT7 c28;clear c28
          by_cases c29:0≤x45_2
          ·rw [if_pos c29] at H
           have c29b0:decide (0≤x45_2)=true:=dT7 c29;clear c29
           by_cases c30:x45_2 < (l1.length:Int)
           ·rw [if_pos c30] at H
            have c30b0:decide (x45_2 < (l1.length:Int))=true:=dT7 c30;clear c30
            by_cases c31:0≤(rd l1 x45_2)
            ·rw [if_pos c31] at H
             have c31b0:decide (0≤(rd l1 x45_2))=true:=dT7 c31;clear c31
             by_cases c32:(rd l1 x45_2) < (x6_1.length:Int)
             ·rw [if_pos c32] at H
              have c32b0:decide ((rd l1 x45_2) < (x6_1.length:Int))=true:=dT7 c32;clear c32;obtain ⟨bq33,hbq33⟩:∃ b_:Bool,b_=(rdOf false x6_1 (rd l1 x45_2)):=⟨_,rfl⟩
              replace H:(if (bq33=true) then (impl_LastBlocks.l2 k2 x6_1 x11_2 l1 (l1.length:Int) (wrap64 (x45_2 + 1))) else (if x11_2.length < 17592186044416 then (impl_LastBlocks.l2 k2 x6_1 (x11_2 ++ [rd l1 x45_2]) l1 (l1.length:Int) (wrap64 (x45_2 + 1))) else (none)))=some (r1,r2):=by rw [← hbq33] at H;exact H
              have Nbq33:=aM7 hbq33;clear hbq33
              by_cases c34:(bq33=true)
              ·subst c34
               rw [if_pos rfl] at H;(try dsimp only at H);have H':=aM7 H;clear H;have p586:0≤(x45_2:Int):=oD7 (zsx7_5);have q586:x45_2 < (l1.length:Int):=oD7 (zsx7_5);obtain ⟨ad586,e586,hx586_0⟩:=Kd.at_int (Kd.V_reads' HO_43.out).2.2 x45_2 p586 q586
               cases e586
               replace p586:=eq_true p586;replace q586:=eq_true q586;obtain ⟨Ao35,co35,eo35⟩:=Kd.R_slice HO_6.out;subst eo35;have p587:0≤((rd l1 x45_2):Int):=oD7 (zsx7_5);have q587:(rd l1 x45_2) < (x6_1.length:Int):=oD7 (zsx7_5);obtain ⟨ad587,e587,hx587_0⟩:=Kd.at_bool (Kd.R_reads' HO_6.out).2.2 (rd l1 x45_2) p587 q587;(try rw [← Nbq33.out] at hx587_0)
               cases e587
               replace p587:=eq_true p587;replace q587:=eq_true q587
               go_wp2
               go_roundg k2
               case measure=>have:=HK1.out;have:=HK2.out;omega
               case rel=>exact ⟨(x11_2),(wrap64 (x45_2 + 1)),(zsx7_4),H',⟨zsx7_11⟩,⟨zsx7_6⟩,⟨zsx7_16⟩,⟨by (with_reducible repeat (first|apply Kd.V_alloc|apply Kd.V_drewN|apply Kd.V_drew));exact HO_43.out⟩,⟨zsx7_0⟩⟩
              ·replace c34:=Bool.eq_false_iff.mpr c34
               subst c34;rw [if_neg (show ¬ (false=true) by decide)] at H;(try dsimp only at H)
               by_cases c36:x11_2.length < 17592186044416
               ·rw [if_pos c36] at H
                have LMc36:=aM7 c36;clear c36;obtain ⟨y588,hy588⟩:∃ y_:List Int,y_=(x11_2 ++ [rd l1 x45_2]):=⟨_,rfl⟩
                replace H:(impl_LastBlocks.l2 k2 x6_1 y588 l1 (l1.length:Int) (wrap64 (x45_2 + 1)))=some (r1,r2):=by first|(rw [hy588];with_reducible exact H)|(have H2_:=(Option.bind_some _ _).symm.trans H;rw [hy588];with_reducible exact H2_)|(have H2_:=(Option.bind_some _ _).symm.trans H;with_reducible exact H2_)|with_reducible exact H|(rw [hy588];exact H)|exact H
                have Ny588:=aM7 hy588;clear hy588;have H':=aM7 H;clear H;have p586:0≤(x45_2:Int):=oD7 (zsx7_5);have q586:x45_2 < (l1.length:Int):=oD7 (zsx7_5);obtain ⟨ad586,e586,hx586_0⟩:=Kd.at_int (Kd.V_reads' HO_43.out).2.2 x45_2 p586 q586
                cases e586
                replace p586:=eq_true p586;replace q586:=eq_true q586;obtain ⟨Ao37,co37,eo37⟩:=Kd.R_slice HO_6.out;subst eo37;have p587:0≤((rd l1 x45_2):Int):=oD7 (zsx7_5);have q587:(rd l1 x45_2) < (x6_1.length:Int):=oD7 (zsx7_5);obtain ⟨ad587,e587,hx587_0⟩:=Kd.at_bool (Kd.R_reads' HO_6.out).2.2 (rd l1 x45_2) p587 q587;(try rw [← Nbq33.out] at hx587_0)
                cases e587
                replace p587:=eq_true p587;replace q587:=eq_true q587
                go_wp2_with (first|((with_reducible refine gate_builtin (b:=.append) (xs:=#[.tmp 54,.tmp 56]) rfl ?_);at_builtin;refine Kd.R_append (Kd.int .i64) (w0:=w) w.heap.size rfl (.tmp 54) (.tmp 56) 33 3 (.int .i64 0) 8 rfl Try.underlying33 info3 rfl (by decide) (by omega) u11 x11_2 (rd l1 x45_2) [.int .i64 (rd l1 x45_2)] (fun k_=>(w.heap.size≤k_)) (fun _=>False) rfl rfl ?aP (fun _ hk=>hk.elim) ?aF ?aO ?aB ?aS ?aL ?_;(case aP=>exact rfl);(case aB=>exact (zsx7_0));(case aF=>exact (fun k_ hk=>(Nat.le_trans (bZ7 (zsx7_0)) hk)));(case aO=>exact (zsx7_16));(case aS=>exact (bZ7 (zsx7_0)));(case aL=>have:=LMc36.out;omega);intro v589 w38 ho hb hg hat;rw [← Ny588.out] at ho;have n0_:=aM7 (Kd.R_over' (zsx7_6) (Kd.R_typed (zsx7_16)) (by decide) hg);have n1_:=aM7 (Kd.V_afterv (ok:=(fun k_=>(P1_ k_ ∨ w.heap.size≤k_)∧some k_≠(.slice (some ad587) x6_1.length co37:Value).ownBlock)) (by (with_reducible repeat (first|apply Kd.V_alloc|apply Kd.V_drewN|apply Kd.V_drew));exact Kd.V_mono HO_43.out (fun _ hk=>⟨⟨hk.1,hk.2.1⟩,hk.2.2⟩)) hg hat);have n2_:=aM7 (hb);have n3_:=aM7 (ho);clear HO_6 HO_43 HB HO_11;have HO_6:=n0_;have HO_43:=n1_;have HB:=n2_;have HO590:=n3_;clear n0_ n1_ n2_ n3_ ho hb hg hat))
                go_roundg k2
                case measure=>have:=HK1.out;have:=HK2.out;omega
                case rel=>exact ⟨(y588),(wrap64 (x45_2 + 1)),(zsx7_4),H',⟨zsx7_11⟩,⟨zsx7_6⟩,⟨by (with_reducible repeat (first|apply Kd.R_alloc|apply Kd.R_drewN|apply Kd.R_drew));exact HO590.out⟩,⟨by (with_reducible repeat (first|apply Kd.V_alloc|apply Kd.V_drewN|apply Kd.V_drew));exact Kd.V_mono HO_43.out (fun _ hk=>⟨hk.1.1,⟨hk.1.2,hk.2⟩⟩)⟩,⟨zsx7_0⟩⟩
               ·rw [if_neg c36] at H
                exact absurd H (by simp)
             ·rw [if_neg c32] at H
              exact absurd H (by simp)
            ·rw [if_neg c31] at H
             exact absurd H (by simp)
           ·rw [if_neg c30] at H
            exact absurd H (by simp)
          ·rw [if_neg c29] at H
           exact absurd H (by simp)
         ·rw [if_neg c28] at H
          have c28b0:decide (x45_2 < (l1.length:Int))=false:=decide_eq_false c28;clear c28;simp only [Option.some.injEq,Prod.mk.injEq] at H;obtain ⟨rfl,rfl⟩:=H
          go_wp2
          go_ret2
          exact ⟨_,zsx7_8,zsx7_16,zsx7_0⟩
   ·rw [if_neg c6] at H
    exact absurd H (by simp)
  ·rw [if_neg c5] at H
   exact absurd H (by simp)
 ·replace c4:=Bool.eq_false_iff.mpr c4
  subst c4;rw [if_neg (show ¬ (false=true) by decide)] at H;(try dsimp only at H);simp only [Option.some.injEq,Prod.mk.injEq] at H;obtain ⟨rfl,rfl⟩:=H;go_enter Try.func38,Try.ntmps38
  go_wp2_with (first|((with_reducible refine gate_dst (N:=16) rfl ?_);refine Kd.N_lit (Kd.slice 3 (Kd.int .i64)) _ 33 ?hg (N':=16) ?hd (xs:=([l1]:List (List Int))) (inner:=[.slice A1 l1.length c1]) (ok:=(fun k_=>(P1_ k_ ∨ w.heap.size≤k_))) (okp:=(fun k_=>(P1_ k_ ∨ w.heap.size≤k_))) ?hr ?hp (fun _ hk=>hk) ((show ∀ k_,w.heap.size≤k_→(fun k_=>(P1_ k_ ∨ w.heap.size≤k_)) k_ from fun k_ hk=>(.inr (Nat.le_trans (bZ7 (zsx7_0)) hk))) _ (Nat.le_refl _)) (Below.refl _ _) (Nat.le_refl _) (by simp) ?_;(case hd=>rfl);(case hg=>rfl);(case hr=>exact zsx7_24);(case hp=>exact (Reps.one (show Kd.FK (Kd.slice 3 (Kd.int .i64)) _ _ l1 [.slice A1 l1.length c1] from (Kd.FK_slice_mk (Kd.V_reads' (Kd.V_mono (ok':=(fun k_=>(P1_ k_ ∨ w.heap.size≤k_))) (HO1.out) (fun k_ hk=>hk))).2.1 (Kd.V_F (Kd.V_mono (ok':=(fun k_=>(P1_ k_ ∨ w.heap.size≤k_))) (HO1.out) (fun k_ hk=>hk))))) (Reps.none _ _)));intro v573 w39 ho40 hb hg_ hnew_;clear hg_ hnew_;(first|rw [← Ny572.out] at ho40|(simp only [Int.reduceToNat] at ho40;rw [← Ny572.out] at ho40));have n0_:=aM7 (Kd.V_elder' (zsx7_1) (Kd.N_base ho40) hb);have n1_:=aM7 (Kd.N_lower ho40 (bZ7 (zsx7_0)));have n2_:=aM7 (below_step (zsx7_0) hb);clear HO1 HB;have HO1:=n0_;have HO574:=n1_;have HB:=n2_;clear n0_ n1_ n2_ hb ho40;obtain ⟨Ao41,co41,eo41⟩:=Kd.N_slice HO574.out;subst eo41)|((with_reducible refine gate_callee (f:=80) rfl ?_);refine goesL_ (some 17) rfl rfl Try.func80 (by kernel_rfl) rfl #[.slice A0 l0.length c0,.slice Ao41 y572.length co41] rfl (zsx7_2) ?_;(with_reducible refine (impl_arePits.calls k _ _ l0 _ _ y572 false _ ?side1 ?side2 ?side3 ?side4 A3.out).mono ?_);(case side1=>exact zsx7_25);(case side2=>exact HC0.out);(case side3=>exact zsx7_33);(case side4=>exact (Kd.N_reads' HO574.out).2.1);rintro e w42 ⟨rfl,hb⟩;refine ⟨_,rfl,?_⟩;have n0_:=aM7 (Kd.V_below (zsx7_1) hb);have n1_:=aM7 (Kd.N_below (zsx7_12) hb);have n2_:=aM7 (below_step (zsx7_0) hb);clear HO1 HO574 HB;have HO1:=n0_;have HO574:=n1_;have HB:=n2_;clear n0_ n1_ n2_;(try clear hb);(try clear hb2);(try clear hk);(try clear hi)))
  go_ret2
  exact ⟨_,zsx7_8,zsx7_9,zsx7_0⟩
mutual
def spec_LastBlocks.l0:Nat→List (List Int)→List Bool→List Int→Int→Int→Option (List Int × Bool)
 | 0,_,_,_,_,_=>none
 | k + 1,x0,x6,x19,x20,x21=>if x21 < x20 then (if 0≤x21 then (if x21 < (x19.length:Int) then (if 0≤(rd x19 x21) then (if (rd x19 x21) < (x0.length:Int) then (spec_LastBlocks.l1 k x0 x6 x19 x20 x21 (rd_L1 x0 (rd x19 x21)) ((rd_L1 x0 (rd x19 x21)).length:Int) 0) else (none)) else (none)) else (none)) else (none)) else ((spec_clList.f k x6).bind fun t595=>(some (t595,true)))
def spec_LastBlocks.l1:Nat→List (List Int)→List Bool→List Int→Int→Int→List Int→Int→Int→Option (List Int × Bool)
 | 0,_,_,_,_,_,_,_,_=>none
 | k + 1,x0,x6,x19,x20,x21,x28,x29,x30=>if x30 < x29 then (if 0≤x30 then (if x30 < (x28.length:Int) then (if 0≤(rd x28 x30) then (if (rd x28 x30) < (x6.length:Int) then (spec_LastBlocks.l1 k x0 (x6.set ((rd x28 x30):Int).toNat false) x19 x20 x21 x28 x29 (wrap64 (x30 + 1))) else (none)) else (none)) else (none)) else (none)) else (spec_LastBlocks.l0 k x0 x6 x19 x20 (wrap64 (x21 + 1)))
end
def spec_LastBlocks.f (k:Nat) (l0:List (List Int)) (l1:List Int):Option (List Int × Bool):=(spec_clGood.f k l0 l1).bind fun t591=>(if t591=true then ((spec_clMarks.f k (l0.length:Int) l1).bind fun t592=>(spec_LastBlocks.l0 k l0 t592 l1 (l1.length:Int) 0)) else (some (([]:List Int),false)))
set_option maxHeartbeats 8000000 in
set_option maxRecDepth 100000 in
theorem spec_LastBlocks.calls (k:Nat) (A0:Option Addr) (c0:Nat) (l0:List (List Int)) (A1:Option Addr) (c1:Nat) (l1:List Int) (r1:List Int) (r2:Bool) (w:World) (hr0:Kd.C (Kd.slice 3 (Kd.int .i64)) w A0 l0.length l0) (hc0:l0.length≤c0) (hr1:Kd.C (Kd.int .i64) w A1 l1.length l1) (hc1:l1.length≤c1) (h:spec_LastBlocks.f k l0 l1=some (r1,r2)) :
  Calls Try.prog 39 #[.slice A0 l0.length c0,.slice A1 l1.length c1] w fun e w'=>∃ v0_:Value,e=.returned (.tuple #[v0_,.bool r2])∧Kd.R (Kd.int .i64) 3 w' w.heap.size (fun _=>True) v0_ r1∧Below w.heap.size w w':=by
 have HR0:=aM7 hr0;have HC0:=aM7 hc0;clear hr0 hc0;have HR1:=aM7 hr1;have HC1:=aM7 hc1;clear hr1 hc1;have HB:=aM7 (Below.refl w.heap.size w);have H:((spec_clGood.f k l0 l1).bind fun t591=>(if t591=true then ((spec_clMarks.f k (l0.length:Int) l1).bind fun t592=>(spec_LastBlocks.l0 k l0 t592 l1 (l1.length:Int) 0)) else (some (([]:List Int),false))))=some (r1,r2):=h;clear h;replace H:=bI7.mp H;obtain ⟨t591,A30,H⟩:=H;(try dsimp only at H);have A3:=aM7 A30;clear A30
 by_cases c4:t591=true
 ·subst c4
  rw [if_pos rfl] at H;(try dsimp only at H);replace H:=bI7.mp H;obtain ⟨t592,A50,H⟩:=H;(try dsimp only at H);have A5:=aM7 A50;clear A50;have H':=aM7 H;clear H;go_enter Try.func39,Try.ntmps39
  go_wp2_with (first|((with_reducible refine gate_callee (f:=82) rfl ?_);refine goesL_ (some 13) rfl rfl Try.func82 (by kernel_rfl) rfl #[.slice A0 l0.length c0,.slice A1 l1.length c1] rfl (zsx7_2) ?_;(with_reducible refine (spec_clGood.calls k _ _ l0 _ _ l1 true _ ?side1 ?side2 ?side3 ?side4 A3.out).mono ?_);(case side1=>exact zsx7_30);(case side2=>exact HC0.out);(case side3=>exact zsx7_31);(case side4=>exact HC1.out);rintro e w6 ⟨rfl,hb⟩;refine ⟨_,rfl,?_⟩;have n0_:=aM7 (below_step (zsx7_0) hb);clear HB;have HB:=n0_;clear n0_;(try clear hb);(try clear hb2);(try clear hk);(try clear hi))|((with_reducible refine gate_callee (f:=59) rfl ?_);refine goesL_ (some 18) rfl rfl Try.func59 (by kernel_rfl) rfl #[.int .i64 (l0.length:Int),.slice A1 l1.length c1] rfl (zsx7_2) ?_;(with_reducible refine (spec_clMarks.calls k (l0.length:Int) _ _ l1 t592 _ ?side1 ?side2 A5.out).mono ?_);(case side1=>exact zsx7_32);(case side2=>exact HC1.out);rintro e w7 ⟨v593,rfl,ho0,hb⟩;refine ⟨_,rfl,?_⟩;have n0_:=aM7 (Kd.R_lower ho0 (bZ7 (zsx7_0)));have n1_:=aM7 (below_step (zsx7_0) hb);clear HB;have HO594:=n0_;have HB:=n1_;clear n0_ n1_;(try clear hb);(try clear hb2);(try clear hk);(try clear hi);(try clear ho0)))
  go_loopg [21] k (fun kq v21 w'=>∃ (x6_1:List Bool) (x21_1:Int),v21=.int .i64 x21_1∧Aside0 (spec_LastBlocks.l0 kq l0 x6_1 l1 (l1.length:Int) x21_1=some (r1,r2))∧Aside0 (kq≤k)∧Aside0 (Kd.R Kd.bool 4 w' w.heap.size (fun _=>True) v593 x6_1)∧Aside0 (Below w.heap.size w w'))
  case atStart=>exact ⟨(t592),(0),(zsx7_4),H',⟨Nat.le_refl _⟩,⟨by (with_reducible repeat (first|apply Kd.R_alloc|apply Kd.R_drewN|apply Kd.R_drew));exact HO594.out⟩,⟨zsx7_0⟩⟩
  case round =>
   clear H';(try clear c1);(try clear p2);(try clear c3);(try clear c4);(try clear c5);obtain ⟨x6_1,x21_1,rfl,HA,HK1,HO_6,HB⟩:=hrel
   cases gk with
   | zero=>exact absurd HA.out (by simp [spec_LastBlocks.l0])
   | succ k1 =>
    have H:=HA.out;clear HA;simp only [spec_LastBlocks.l0] at H
    by_cases c8:x21_1 < (l1.length:Int)
    ·rw [if_pos c8] at H
     have c8b0:decide (x21_1 < (l1.length:Int))=true:=dT7 c8;clear c8
     by_cases c9:0≤x21_1
     ·rw [if_pos c9] at H
      have c9b0:decide (0≤x21_1)=true:=dT7 c9;clear c9
      by_cases c10:x21_1 < (l1.length:Int)
      ·rw [if_pos c10] at H
       have c10b0:decide (x21_1 < (l1.length:Int))=true:=dT7 c10;clear c10
       by_cases c11:0≤(rd l1 x21_1)
       ·rw [if_pos c11] at H
        have c11b0:decide (0≤(rd l1 x21_1))=true:=dT7 c11;clear c11
        by_cases c12:(rd l1 x21_1) < (l0.length:Int)
        ·rw [if_pos c12] at H
         have c12b0:decide ((rd l1 x21_1) < (l0.length:Int))=true:=dT7 c12;clear c12;have H':=aM7 H;clear H;have p598:0≤(x21_1:Int):=oD7 (zsx7_5);have q598:x21_1 < (l1.length:Int):=oD7 (zsx7_5);obtain ⟨ad598,e598,hx598_0⟩:=Kd.at_int HR1.out x21_1 p598 q598
         cases e598
         replace hx598_0:=(HB.out.cell (bL7 w _ hx598_0)).trans hx598_0;replace p598:=eq_true p598;replace q598:=eq_true q598;have p599:0≤((rd l1 x21_1):Int):=oD7 (zsx7_5);have q599:(rd l1 x21_1) < (l0.length:Int):=oD7 (zsx7_5);obtain ⟨ad599,A599_0,c599_0,e599,hx599_0,hl599_0,hi599_0⟩:=at_L1 HR0.out (rd l1 x21_1) p599 q599
         cases e599
         replace hx599_0:=(HB.out.cell (bL7 w _ hx599_0)).trans hx599_0;have HR599_0:=aM7 hi599_0;have HC599_0:=aM7 hl599_0;clear hi599_0 hl599_0;replace p599:=eq_true p599;replace q599:=eq_true q599
         go_wp2
         go_loopg [30] k1 (fun kq v30 w'=>∃ (x6_2:List Bool) (x30_2:Int),v30=.int .i64 x30_2∧Aside0 (spec_LastBlocks.l1 kq l0 x6_2 l1 (l1.length:Int) x21_1 (rd_L1 l0 (rd l1 x21_1)) ((rd_L1 l0 (rd l1 x21_1)).length:Int) x30_2=some (r1,r2))∧Aside0 (kq≤k1)∧Aside0 (Kd.R Kd.bool 4 w' w.heap.size (fun _=>True) v593 x6_2)∧Aside0 (Below w.heap.size w w'))
         case atStart=>exact ⟨(x6_1),(0),(zsx7_4),H',⟨Nat.le_refl _⟩,⟨zsx7_6⟩,⟨zsx7_0⟩⟩
         case round =>
          clear H';(try clear c1);(try clear p2);(try clear c3);(try clear c4);(try clear c5);(try clear p5);(try clear q5);(try clear hx5);(try clear c8);(try clear c8b0);(try clear c9);(try clear c9b0);(try clear c10);(try clear c10b0);(try clear c11);(try clear c11b0);(try clear c12);(try clear c12b0);(try clear hx598_0);(try clear hx599_0);(try clear p2);(try clear p598);(try clear p599);(try clear q598);(try clear q599);obtain ⟨x6_2,x30_2,rfl,HA,HK2,HO_6,HB⟩:=hrel
          cases gk with
          | zero=>exact absurd HA.out (by simp [spec_LastBlocks.l1])
          | succ k2 =>
           have H:=HA.out;clear HA;simp only [spec_LastBlocks.l1] at H
           by_cases c13:x30_2 < ((rd_L1 l0 (rd l1 x21_1)).length:Int)
           ·rw [if_pos c13] at H
            have c13b0:decide (x30_2 < ((rd_L1 l0 (rd l1 x21_1)).length:Int))=true:=dT7 c13;clear c13
            by_cases c14:0≤x30_2
            ·rw [if_pos c14] at H
             have c14b0:decide (0≤x30_2)=true:=dT7 c14;clear c14
             by_cases c15:x30_2 < ((rd_L1 l0 (rd l1 x21_1)).length:Int)
             ·rw [if_pos c15] at H
              have c15b0:decide (x30_2 < ((rd_L1 l0 (rd l1 x21_1)).length:Int))=true:=dT7 c15;clear c15
              by_cases c16:0≤(rd (rd_L1 l0 (rd l1 x21_1)) x30_2)
              ·rw [if_pos c16] at H
               have c16b0:decide (0≤(rd (rd_L1 l0 (rd l1 x21_1)) x30_2))=true:=dT7 c16;clear c16
               by_cases c17:(rd (rd_L1 l0 (rd l1 x21_1)) x30_2) < (x6_2.length:Int)
               ·rw [if_pos c17] at H
                have c17b0:decide ((rd (rd_L1 l0 (rd l1 x21_1)) x30_2) < (x6_2.length:Int))=true:=dT7 c17;clear c17;obtain ⟨y601,hy601⟩:∃ y_:List Bool,y_=(x6_2.set ((rd (rd_L1 l0 (rd l1 x21_1)) x30_2):Int).toNat false):=⟨_,rfl⟩
                replace H:(spec_LastBlocks.l1 k2 l0 y601 l1 (l1.length:Int) x21_1 (rd_L1 l0 (rd l1 x21_1)) ((rd_L1 l0 (rd l1 x21_1)).length:Int) (wrap64 (x30_2 + 1)))=some (r1,r2):=by first|(rw [hy601];with_reducible exact H)|(have H2_:=(Option.bind_some _ _).symm.trans H;rw [hy601];with_reducible exact H2_)|(have H2_:=(Option.bind_some _ _).symm.trans H;with_reducible exact H2_)|with_reducible exact H|(rw [hy601];exact H)|exact H
                have Ny601:=aM7 hy601;clear hy601;have H':=aM7 H;clear H;have p600:0≤(x30_2:Int):=oD7 (zsx7_5);have q600:x30_2 < ((rd_L1 l0 (rd l1 x21_1)).length:Int):=oD7 (zsx7_5);obtain ⟨ad600,e600,hx600_0⟩:=Kd.at_int HR599_0.out x30_2 p600 q600
                cases e600
                replace hx600_0:=(HB.out.cell (bL7 w _ hx600_0)).trans hx600_0;replace p600:=eq_true p600;replace q600:=eq_true q600;have p18:0≤((rd (rd_L1 l0 (rd l1 x21_1)) x30_2):Int):=oD7 (zsx7_5);have q18:((rd (rd_L1 l0 (rd l1 x21_1)) x30_2):Int) < ((x6_2.length:Int):Int):=oD7 (zsx7_5);obtain ⟨go18,co18,eo18,gb18,gl18,cl18,HG18⟩:=Kd.R_form HO_6.out (by omega)
                (first|cases eo18|(injection eo18 with ea_ en_ ec_;(first|subst ea_|(injection ea_ with ea_;subst ea_));subst ec_;clear en_))
                have GB18:=aM7 gb18;have GG18:=aM7 HG18;clear gb18 gl18 HG18;obtain ⟨hx18_0,hf18_0⟩:=Kd.R_celln false HO_6.out ((rd (rd_L1 l0 (rd l1 x21_1)) x30_2):Int) p18 q18;replace p18:=eq_true p18;replace q18:=eq_true q18;have HP19:=Kd.R_putg HO_6.out ((rd (rd_L1 l0 (rd l1 x21_1)) x30_2):Int) false
                go_wp2_with (first|((with_reducible refine gate_store (t:=4) (p:=36) rfl ?_);refine store_event (t:=4) (p:=36) (v:=?vo_w20) (w1:=(wr.setCell ⟨go18,((rd (rd_L1 l0 (rd l1 x21_1)) x30_2):Int).toNat,none⟩ (.bool false))) ?hg ?ho ?hn ?hr ?_;(case ho=>rfl);(case hg=>rfl);(case hn=>rfl);(case hr=>exact zsx7_24);intro w20 hw;have hg:wr.grownBy w20 (some go18):=(by rw [hw];exact HP19.2);have hp_:Kd.R Kd.bool 4 w20 w.heap.size (fun _=>True) (.slice (some ⟨go18,0,none⟩) x6_2.length co18) y601:=(by rw [hw,Ny601.out];exact HP19.1);clear HP19;have n0_:=aM7 (hp_);have n1_:=aM7 ((by rw [hw];exact below_set (HB.out) GB18.out:Below w.heap.size w w20));clear HO_6 HB;have HO_6:=n0_;have HB:=n1_;clear n0_ n1_ hg hw hp_))
                go_roundg k2
                case measure=>have:=HK1.out;have:=HK2.out;omega
                case rel=>exact ⟨(y601),(wrap64 (x30_2 + 1)),(zsx7_4),H',⟨zsx7_11⟩,⟨zsx7_6⟩,⟨zsx7_0⟩⟩
               ·rw [if_neg c17] at H
                exact absurd H (by simp)
              ·rw [if_neg c16] at H
               exact absurd H (by simp)
             ·rw [if_neg c15] at H
              exact absurd H (by simp)
            ·rw [if_neg c14] at H
             exact absurd H (by simp)
           ·rw [if_neg c13] at H
            have c13b0:decide (x30_2 < ((rd_L1 l0 (rd l1 x21_1)).length:Int))=false:=decide_eq_false c13;clear c13;have H':=aM7 H;clear H
            go_wp2
            go_roundg k2
            case measure=>have:=HK1.out;have:=HK2.out;omega
            case rel=>exact ⟨(x6_2),(wrap64 (x21_1 + 1)),(zsx7_4),H',⟨zsx7_11⟩,⟨zsx7_6⟩,⟨zsx7_0⟩⟩
        ·rw [if_neg c12] at H
         exact absurd H (by simp)
       ·rw [if_neg c11] at H
        exact absurd H (by simp)
      ·rw [if_neg c10] at H
       exact absurd H (by simp)
     ·rw [if_neg c9] at H
      exact absurd H (by simp)
    ·rw [if_neg c8] at H
     have c8b0:decide (x21_1 < (l1.length:Int))=false:=decide_eq_false c8;clear c8;replace H:=bI7.mp H;obtain ⟨t595,A210,H⟩:=H;(try dsimp only at H);have A21:=aM7 A210;clear A210;simp only [Option.some.injEq,Prod.mk.injEq] at H;obtain ⟨rfl,rfl⟩:=H;obtain ⟨Ao22,co22,eo22⟩:=Kd.R_slice HO_6.out;subst eo22
     go_wp2_with (first|((with_reducible refine gate_callee (f:=60) rfl ?_);refine goesL_ (some 40) rfl rfl Try.func60 (by kernel_rfl) rfl #[.slice Ao22 x6_1.length co22] rfl (zsx7_2) ?_;(with_reducible refine (spec_clList.calls k1 _ _ x6_1 t595 _ ?side1 ?side2 A21.out).mono ?_);(case side1=>exact zsx7_28);(case side2=>exact (Kd.R_reads' HO_6.out).2.1);rintro e w23 ⟨v596,rfl,ho0,hb⟩;refine ⟨_,rfl,?_⟩;have n0_:=aM7 (Kd.R_below (zsx7_6) hb);have n1_:=aM7 (Kd.R_lower ho0 (bZ7 (zsx7_0)));have n2_:=aM7 (below_step (zsx7_0) hb);clear HO_6 HB;have HO_6:=n0_;have HO597:=n1_;have HB:=n2_;clear n0_ n1_ n2_;(try clear hb);(try clear hb2);(try clear hk);(try clear hi);(try clear ho0)))
     go_ret2
     exact ⟨_,zsx7_8,by (with_reducible repeat (first|apply Kd.R_alloc|apply Kd.R_drewN|apply Kd.R_drew));exact HO597.out,zsx7_0⟩
 ·replace c4:=Bool.eq_false_iff.mpr c4
  subst c4;rw [if_neg (show ¬ (false=true) by decide)] at H;(try dsimp only at H);simp only [Option.some.injEq,Prod.mk.injEq] at H;obtain ⟨rfl,rfl⟩:=H;go_enter Try.func39,Try.ntmps39
  go_wp2_with (first|((with_reducible refine gate_callee (f:=82) rfl ?_);refine goesL_ (some 13) rfl rfl Try.func82 (by kernel_rfl) rfl #[.slice A0 l0.length c0,.slice A1 l1.length c1] rfl (zsx7_2) ?_;(with_reducible refine (spec_clGood.calls k _ _ l0 _ _ l1 false _ ?side1 ?side2 ?side3 ?side4 A3.out).mono ?_);(case side1=>exact zsx7_30);(case side2=>exact HC0.out);(case side3=>exact zsx7_31);(case side4=>exact HC1.out);rintro e w24 ⟨rfl,hb⟩;refine ⟨_,rfl,?_⟩;have n0_:=aM7 (below_step (zsx7_0) hb);clear HB;have HB:=n0_;clear n0_;(try clear hb);(try clear hb2);(try clear hk);(try clear hi)))
  go_ret2
  exact ⟨_,zsx7_8,zsx7_9,zsx7_0⟩
def impl_JoinClosures.l0:Nat→List Bool→List Int→Int→Int→Option (List Int × Bool)
 | 0,_,_,_,_=>none
 | k + 1,x8,x21,x22,x23=>if x23 < x22 then (if 0≤x23 then (if x23 < (x21.length:Int) then (if 0≤(rd x21 x23) then (if (rd x21 x23) < (x8.length:Int) then (impl_JoinClosures.l0 k (x8.set ((rd x21 x23):Int).toNat true) x21 x22 (wrap64 (x23 + 1))) else (none)) else (none)) else (none)) else (none)) else ((impl_listOf.f k x8).bind fun t612=>(some (t612,true)))
def impl_JoinClosures.f (k:Nat) (l0:List (List Int)) (l1:List Int) (l2:List Int):Option (List Int × Bool):=(impl_arePits.f k l0 (([l1,l2]:List (List Int)))).bind fun t606=>(if t606=true then ((impl_markOf.f k (l0.length:Int) l1).bind fun t607=>(impl_JoinClosures.l0 k t607 l2 (l2.length:Int) 0)) else (some (([]:List Int),false)))
set_option maxHeartbeats 8000000 in
set_option maxRecDepth 100000 in
theorem impl_JoinClosures.calls (k:Nat) (A0:Option Addr) (c0:Nat) (l0:List (List Int)) (P1_:Nat→Prop) (A1:Option Addr) (c1:Nat) (l1:List Int) (P2_:Nat→Prop) (A2:Option Addr) (c2:Nat) (l2:List Int) (r1:List Int) (r2:Bool) (w:World) (hr0:Kd.C (Kd.slice 3 (Kd.int .i64)) w A0 l0.length l0) (hc0:l0.length≤c0) (hs1:Kd.V (Kd.int .i64) 3 w w.heap.size (fun k_=>P1_ k_) (.slice A1 l1.length c1) l1) (hs2:Kd.V (Kd.int .i64) 3 w w.heap.size (fun k_=>P2_ k_) (.slice A2 l2.length c2) l2) (h:impl_JoinClosures.f k l0 l1 l2=some (r1,r2)) :
  Calls Try.prog 41 #[.slice A0 l0.length c0,.slice A1 l1.length c1,.slice A2 l2.length c2] w fun e w'=>∃ v0_:Value,e=.returned (.tuple #[v0_,.bool r2])∧Kd.R (Kd.int .i64) 3 w' w.heap.size (fun k_=>(w.heap.size≤k_)) v0_ r1∧Below w.heap.size w w':=by
 have HR0:=aM7 hr0;have HC0:=aM7 hc0;clear hr0 hc0;have HO1:=aM7 (show Kd.V (Kd.int .i64) 3 w w.heap.size (fun k_=>((P1_ k_ ∨ P2_ k_) ∨ w.heap.size≤k_)) (.slice A1 l1.length c1) l1 from Kd.V_mono hs1 (fun k_ hk=>.inl (.inl hk)));have HO2:=aM7 (show Kd.V (Kd.int .i64) 3 w w.heap.size (fun k_=>((P1_ k_ ∨ P2_ k_) ∨ w.heap.size≤k_)) (.slice A2 l2.length c2) l2 from Kd.V_mono hs2 (fun k_ hk=>.inl (.inr hk)));have HB:=aM7 (Below.refl w.heap.size w);have H:((impl_arePits.f k l0 (([l1,l2]:List (List Int)))).bind fun t606=>(if t606=true then ((impl_markOf.f k (l0.length:Int) l1).bind fun t607=>(impl_JoinClosures.l0 k t607 l2 (l2.length:Int) 0)) else (some (([]:List Int),false))))=some (r1,r2):=h;clear h;obtain ⟨y603,hy603⟩:∃ y_:List (List Int),y_=(([l1,l2]:List (List Int))):=⟨_,rfl⟩
 replace H:((impl_arePits.f k l0 y603).bind fun t606=>(if t606=true then ((impl_markOf.f k (l0.length:Int) l1).bind fun t607=>(impl_JoinClosures.l0 k t607 l2 (l2.length:Int) 0)) else (some (([]:List Int),false))))=some (r1,r2):=by first|(rw [hy603];with_reducible exact H)|(have H2_:=(Option.bind_some _ _).symm.trans H;rw [hy603];with_reducible exact H2_)|(have H2_:=(Option.bind_some _ _).symm.trans H;with_reducible exact H2_)|with_reducible exact H|(rw [hy603];exact H)|exact H
 have Ny603:=aM7 hy603;clear hy603;replace H:=bI7.mp H;obtain ⟨t606,A40,H⟩:=H;(try dsimp only at H);have A4:=aM7 A40;clear A40
 by_cases c5:t606=true
 ·subst c5
  rw [if_pos rfl] at H;(try dsimp only at H);replace H:=bI7.mp H;obtain ⟨t607,A60,H⟩:=H;(try dsimp only at H);have A6:=aM7 A60;clear A60;have H':=aM7 H;clear H;go_enter Try.func41,Try.ntmps41
  go_wp2_with (first|((with_reducible refine gate_dst (N:=14) rfl ?_);refine Kd.N_lit (Kd.slice 3 (Kd.int .i64)) _ 33 ?hg (N':=14) ?hd (xs:=([l1,l2]:List (List Int))) (inner:=[.slice A1 l1.length c1,.slice A2 l2.length c2]) (ok:=(fun k_=>((P1_ k_ ∨ P2_ k_) ∨ w.heap.size≤k_))) (okp:=(fun k_=>((P1_ k_ ∨ P2_ k_) ∨ w.heap.size≤k_))) ?hr ?hp (fun _ hk=>hk) ((show ∀ k_,w.heap.size≤k_→(fun k_=>((P1_ k_ ∨ P2_ k_) ∨ w.heap.size≤k_)) k_ from fun k_ hk=>(.inr (Nat.le_trans (bZ7 (zsx7_0)) hk))) _ (Nat.le_refl _)) (Below.refl _ _) (Nat.le_refl _) (by simp) ?_;(case hd=>rfl);(case hg=>rfl);(case hr=>exact zsx7_24);(case hp=>exact (Reps.one (show Kd.FK (Kd.slice 3 (Kd.int .i64)) _ _ l1 [.slice A1 l1.length c1] from (Kd.FK_slice_mk (Kd.V_reads' (Kd.V_mono (ok':=(fun k_=>((P1_ k_ ∨ P2_ k_) ∨ w.heap.size≤k_))) (HO1.out) (fun k_ hk=>hk))).2.1 (Kd.V_F (Kd.V_mono (ok':=(fun k_=>((P1_ k_ ∨ P2_ k_) ∨ w.heap.size≤k_))) (HO1.out) (fun k_ hk=>hk))))) (Reps.one (show Kd.FK (Kd.slice 3 (Kd.int .i64)) _ _ l2 [.slice A2 l2.length c2] from (Kd.FK_slice_mk (Kd.V_reads' (Kd.V_mono (ok':=(fun k_=>((P1_ k_ ∨ P2_ k_) ∨ w.heap.size≤k_))) (HO2.out) (fun k_ hk=>hk))).2.1 (Kd.V_F (Kd.V_mono (ok':=(fun k_=>((P1_ k_ ∨ P2_ k_) ∨ w.heap.size≤k_))) (HO2.out) (fun k_ hk=>hk))))) (Reps.none _ _))));intro v604 w7 ho8 hb hg_ hnew_;clear hg_ hnew_;(first|rw [← Ny603.out] at ho8|(simp only [Int.reduceToNat] at ho8;rw [← Ny603.out] at ho8));have n0_:=aM7 (Kd.V_elder' (zsx7_1) (Kd.N_base ho8) hb);have n1_:=aM7 (Kd.V_elder' (zsx7_17) (Kd.N_base ho8) hb);have n2_:=aM7 (Kd.N_lower ho8 (bZ7 (zsx7_0)));have n3_:=aM7 (below_step (zsx7_0) hb);clear HO1 HO2 HB;have HO1:=n0_;have HO2:=n1_;have HO605:=n2_;have HB:=n3_;clear n0_ n1_ n2_ n3_ hb ho8;obtain ⟨Ao9,co9,eo9⟩:=Kd.N_slice HO605.out;subst eo9)|((with_reducible refine gate_callee (f:=80) rfl ?_);refine goesL_ (some 15) rfl rfl Try.func80 (by kernel_rfl) rfl #[.slice A0 l0.length c0,.slice Ao9 y603.length co9] rfl (zsx7_2) ?_;(with_reducible refine (impl_arePits.calls k _ _ l0 _ _ y603 true _ ?side1 ?side2 ?side3 ?side4 A4.out).mono ?_);(case side1=>exact zsx7_25);(case side2=>exact HC0.out);(case side3=>exact zsx7_34);(case side4=>exact (Kd.N_reads' HO605.out).2.1);rintro e w10 ⟨rfl,hb⟩;refine ⟨_,rfl,?_⟩;have n0_:=aM7 (Kd.V_below (zsx7_1) hb);have n1_:=aM7 (Kd.V_below (zsx7_17) hb);have n2_:=aM7 (Kd.N_below (zsx7_18) hb);have n3_:=aM7 (below_step (zsx7_0) hb);clear HO1 HO2 HO605 HB;have HO1:=n0_;have HO2:=n1_;have HO605:=n2_;have HB:=n3_;clear n0_ n1_ n2_ n3_;(try clear hb);(try clear hb2);(try clear hk);(try clear hi))|((with_reducible refine gate_callee (f:=81) rfl ?_);refine goesL_ (some 20) rfl rfl Try.func81 (by kernel_rfl) rfl #[.int .i64 (l0.length:Int),.slice A1 l1.length c1] rfl (zsx7_2) ?_;(with_reducible refine (impl_markOf.calls k (l0.length:Int) _ _ l1 t607 _ ?side1 ?side2 A6.out).mono ?_);(case side1=>exact zsx7_27);(case side2=>exact (Kd.V_reads' HO1.out).2.1);rintro e w11 ⟨v608,rfl,ho0,hb⟩;refine ⟨_,rfl,?_⟩;have n0_:=aM7 (Kd.V_elder' (zsx7_1) (Kd.R_base ho0) hb);have n1_:=aM7 (Kd.V_elder' (zsx7_17) (Kd.R_base ho0) hb);have n2_:=aM7 (Kd.N_elder' (zsx7_18) (Kd.R_base ho0) hb);have n3_:=aM7 (Kd.R_lower (Kd.R_newM (M:=fun k_=>(w.heap.size≤k_)) ho0 (bZ7 (zsx7_0)) (fun k_ h_=>h_)) (bZ7 (zsx7_0)));have n4_:=aM7 (below_step (zsx7_0) hb);clear HO1 HO2 HO605 HB;have HO1:=n0_;have HO2:=n1_;have HO605:=n2_;have HO609:=n3_;have HB:=n4_;clear n0_ n1_ n2_ n3_ n4_;(try clear hb);(try clear hb2);(try clear hk);(try clear hi);(try clear ho0)))
  go_loopg [23] k (fun kq v23 w'=>∃ (x8_1:List Bool) (x23_1:Int),v23=.int .i64 x23_1∧Aside0 (impl_JoinClosures.l0 kq x8_1 l2 (l2.length:Int) x23_1=some (r1,r2))∧Aside0 (kq≤k)∧Aside0 (Kd.R Kd.bool 4 w' w.heap.size (fun k_=>(w.heap.size≤k_)) v608 x8_1)∧Aside0 (Kd.V (Kd.int .i64) 3 w' w.heap.size (fun k_=>((P1_ k_ ∨ P2_ k_) ∨ w.heap.size≤k_)∧some k_≠(v608:Value).ownBlock) (.slice A2 l2.length c2) l2)∧Aside0 (Below w.heap.size w w'))
  case atStart=>exact ⟨(t607),(0),(zsx7_4),H',⟨Nat.le_refl _⟩,⟨by (with_reducible repeat (first|apply Kd.R_alloc|apply Kd.R_drewN|apply Kd.R_drew));exact Kd.R_mono HO609.out (fun _ hk=>hk.1)⟩,⟨by (with_reducible repeat (first|apply Kd.V_alloc|apply Kd.V_drewN|apply Kd.V_drew));exact Kd.V_mono HO2.out (fun _ hk=>⟨hk.1.1,hk.2⟩)⟩,⟨zsx7_0⟩⟩
  case round =>
   clear H';(try clear c1);(try clear c2);(try clear p2);(try clear c4);(try clear c5);(try clear c8);obtain ⟨x8_1,x23_1,rfl,HA,HK1,HO_8,HO_21,HB⟩:=hrel
   cases gk with
   | zero=>exact absurd HA.out (by simp [impl_JoinClosures.l0])
   | succ k1 =>
    have H:=HA.out;clear HA;simp only [impl_JoinClosures.l0] at H
    by_cases c12:x23_1 < (l2.length:Int)
    ·rw [if_pos c12] at H
     have c12b0:decide (x23_1 < (l2.length:Int))=true:=dT7 c12;clear c12
     by_cases c13:0≤x23_1
     ·rw [if_pos c13] at H
      have c13b0:decide (0≤x23_1)=true:=dT7 c13;clear c13
      by_cases c14:x23_1 < (l2.length:Int)
      ·rw [if_pos c14] at H
       have c14b0:decide (x23_1 < (l2.length:Int))=true:=dT7 c14;clear c14
       by_cases c15:0≤(rd l2 x23_1)
       ·rw [if_pos c15] at H
        have c15b0:decide (0≤(rd l2 x23_1))=true:=dT7 c15;clear c15
        by_cases c16:(rd l2 x23_1) < (x8_1.length:Int)
        ·rw [if_pos c16] at H
         have c16b0:decide ((rd l2 x23_1) < (x8_1.length:Int))=true:=dT7 c16;clear c16;obtain ⟨y611,hy611⟩:∃ y_:List Bool,y_=(x8_1.set ((rd l2 x23_1):Int).toNat true):=⟨_,rfl⟩
         replace H:(impl_JoinClosures.l0 k1 y611 l2 (l2.length:Int) (wrap64 (x23_1 + 1)))=some (r1,r2):=by first|(rw [hy611];with_reducible exact H)|(have H2_:=(Option.bind_some _ _).symm.trans H;rw [hy611];with_reducible exact H2_)|(have H2_:=(Option.bind_some _ _).symm.trans H;with_reducible exact H2_)|with_reducible exact H|(rw [hy611];exact H)|exact H
         have Ny611:=aM7 hy611;clear hy611;have H':=aM7 H;clear H;have p610:0≤(x23_1:Int):=oD7 (zsx7_5);have q610:x23_1 < (l2.length:Int):=oD7 (zsx7_5);obtain ⟨ad610,e610,hx610_0⟩:=Kd.at_int (Kd.V_reads' HO_21.out).2.2 x23_1 p610 q610
         cases e610
         replace p610:=eq_true p610;replace q610:=eq_true q610;have p17:0≤((rd l2 x23_1):Int):=oD7 (zsx7_5);have q17:((rd l2 x23_1):Int) < ((x8_1.length:Int):Int):=oD7 (zsx7_5);obtain ⟨go17,co17,eo17,gb17,gl17,cl17,HG17⟩:=Kd.R_form HO_8.out (by omega)
         (first|cases eo17|(injection eo17 with ea_ en_ ec_;(first|subst ea_|(injection ea_ with ea_;subst ea_));subst ec_;clear en_))
         have GB17:=aM7 gb17;have GG17:=aM7 HG17;clear gb17 gl17 HG17;obtain ⟨hx17_0,hf17_0⟩:=Kd.R_celln false HO_8.out ((rd l2 x23_1):Int) p17 q17;replace p17:=eq_true p17;replace q17:=eq_true q17;have HP18:=Kd.R_putg HO_8.out ((rd l2 x23_1):Int) true
         go_wp2_with (first|((with_reducible refine gate_store (t:=4) (p:=29) rfl ?_);refine store_event (t:=4) (p:=29) (v:=?vo_w19) (w1:=(wr.setCell ⟨go17,((rd l2 x23_1):Int).toNat,none⟩ (.bool true))) ?hg ?ho ?hn ?hr ?_;(case ho=>rfl);(case hg=>rfl);(case hn=>rfl);(case hr=>exact zsx7_24);intro w19 hw;have hg:wr.grownBy w19 (some go17):=(by rw [hw];exact HP18.2);have hp_:Kd.R Kd.bool 4 w19 w.heap.size (fun k_=>(w.heap.size≤k_)) (.slice (some ⟨go17,0,none⟩) x8_1.length co17) y611:=(by rw [hw,Ny611.out];exact HP18.1);clear HP18;have n0_:=aM7 (hp_);have n1_:=aM7 (Kd.V_afterv (v:=(.slice (some ⟨go17,0,none⟩) x8_1.length co17)) (v1:=(.slice (some ⟨go17,0,none⟩) x8_1.length co17)) (ok:=(fun k_=>((P1_ k_ ∨ P2_ k_) ∨ w.heap.size≤k_))) (zsx7_19) hg (.inl rfl));have n2_:=aM7 ((by rw [hw];exact below_set (HB.out) GB17.out:Below w.heap.size w w19));clear HO_8 HO_21 HB;have HO_8:=n0_;have HO_21:=n1_;have HB:=n2_;clear n0_ n1_ n2_ hg hw hp_))
         go_roundg k1
         case measure=>have:=HK1.out;omega
         case rel=>exact ⟨(y611),(wrap64 (x23_1 + 1)),(zsx7_4),H',⟨by have:=HK1.out;omega⟩,⟨zsx7_20⟩,⟨zsx7_19⟩,⟨zsx7_0⟩⟩
        ·rw [if_neg c16] at H
         exact absurd H (by simp)
       ·rw [if_neg c15] at H
        exact absurd H (by simp)
      ·rw [if_neg c14] at H
       exact absurd H (by simp)
     ·rw [if_neg c13] at H
      exact absurd H (by simp)
    ·rw [if_neg c12] at H
     have c12b0:decide (x23_1 < (l2.length:Int))=false:=decide_eq_false c12;clear c12;replace H:=bI7.mp H;obtain ⟨t612,A200,H⟩:=H;(try dsimp only at H);have A20:=aM7 A200;clear A200;simp only [Option.some.injEq,Prod.mk.injEq] at H;obtain ⟨rfl,rfl⟩:=H;obtain ⟨Ao21,co21,eo21⟩:=Kd.R_slice HO_8.out;subst eo21
     go_wp2_with (first|((with_reducible refine gate_callee (f:=54) rfl ?_);refine goesL_ (some 32) rfl rfl Try.func54 (by kernel_rfl) rfl #[.slice Ao21 x8_1.length co21] rfl (zsx7_2) ?_;(with_reducible refine (impl_listOf.calls k1 _ _ x8_1 t612 _ ?side1 ?side2 A20.out).mono ?_);(case side1=>repeat (first|exact (Kd.R_reads' HO_8.out).2.2|(with_reducible refine Kd.C_alloc ?_ _)|(with_reducible refine Kd.C_drewN ?_ _)|(with_reducible refine Kd.C_drew ?_)));(case side2=>exact (Kd.R_reads' HO_8.out).2.1);rintro e w22 ⟨v613,rfl,ho0,hb⟩;refine ⟨_,rfl,?_⟩;have n0_:=aM7 (Kd.R_below (zsx7_20) hb);have n1_:=aM7 (Kd.V_elder' (zsx7_19) (Kd.R_base ho0) hb);have n2_:=aM7 (Kd.R_lower (Kd.R_newM (M:=fun k_=>(w.heap.size≤k_)) ho0 (bZ7 (zsx7_0)) (fun k_ h_=>h_)) (bZ7 (zsx7_0)));have n3_:=aM7 (below_step (zsx7_0) hb);clear HO_8 HO_21 HB;have HO_8:=n0_;have HO_21:=n1_;have HO614:=n2_;have HB:=n3_;clear n0_ n1_ n2_ n3_;(try clear hb);(try clear hb2);(try clear hk);(try clear hi);(try clear ho0)))
     go_ret2
     exact ⟨_,zsx7_8,by (with_reducible repeat (first|apply Kd.R_alloc|apply Kd.R_drewN|apply Kd.R_drew));exact Kd.R_mono HO614.out (fun _ hk=>hk.1),zsx7_0⟩
 ·replace c5:=Bool.eq_false_iff.mpr c5
  subst c5;rw [if_neg (show ¬ (false=true) by decide)] at H;(try dsimp only at H);simp only [Option.some.injEq,Prod.mk.injEq] at H;obtain ⟨rfl,rfl⟩:=H;go_enter Try.func41,Try.ntmps41
  go_wp2_with (first|((with_reducible refine gate_dst (N:=14) rfl ?_);refine Kd.N_lit (Kd.slice 3 (Kd.int .i64)) _ 33 ?hg (N':=14) ?hd (xs:=([l1,l2]:List (List Int))) (inner:=[.slice A1 l1.length c1,.slice A2 l2.length c2]) (ok:=(fun k_=>((P1_ k_ ∨ P2_ k_) ∨ w.heap.size≤k_))) (okp:=(fun k_=>((P1_ k_ ∨ P2_ k_) ∨ w.heap.size≤k_))) ?hr ?hp (fun _ hk=>hk) ((show ∀ k_,w.heap.size≤k_→(fun k_=>((P1_ k_ ∨ P2_ k_) ∨ w.heap.size≤k_)) k_ from fun k_ hk=>(.inr (Nat.le_trans (bZ7 (zsx7_0)) hk))) _ (Nat.le_refl _)) (Below.refl _ _) (Nat.le_refl _) (by simp) ?_;(case hd=>rfl);(case hg=>rfl);(case hr=>exact zsx7_24);(case hp=>exact (Reps.one (show Kd.FK (Kd.slice 3 (Kd.int .i64)) _ _ l1 [.slice A1 l1.length c1] from (Kd.FK_slice_mk (Kd.V_reads' (Kd.V_mono (ok':=(fun k_=>((P1_ k_ ∨ P2_ k_) ∨ w.heap.size≤k_))) (HO1.out) (fun k_ hk=>hk))).2.1 (Kd.V_F (Kd.V_mono (ok':=(fun k_=>((P1_ k_ ∨ P2_ k_) ∨ w.heap.size≤k_))) (HO1.out) (fun k_ hk=>hk))))) (Reps.one (show Kd.FK (Kd.slice 3 (Kd.int .i64)) _ _ l2 [.slice A2 l2.length c2] from (Kd.FK_slice_mk (Kd.V_reads' (Kd.V_mono (ok':=(fun k_=>((P1_ k_ ∨ P2_ k_) ∨ w.heap.size≤k_))) (HO2.out) (fun k_ hk=>hk))).2.1 (Kd.V_F (Kd.V_mono (ok':=(fun k_=>((P1_ k_ ∨ P2_ k_) ∨ w.heap.size≤k_))) (HO2.out) (fun k_ hk=>hk))))) (Reps.none _ _))));intro v604 w23 ho24 hb hg_ hnew_;clear hg_ hnew_;(first|rw [← Ny603.out] at ho24|(simp only [Int.reduceToNat] at ho24;rw [← Ny603.out] at ho24));have n0_:=aM7 (Kd.V_elder' (zsx7_1) (Kd.N_base ho24) hb);have n1_:=aM7 (Kd.V_elder' (zsx7_17) (Kd.N_base ho24) hb);have n2_:=aM7 (Kd.N_lower ho24 (bZ7 (zsx7_0)));have n3_:=aM7 (below_step (zsx7_0) hb);clear HO1 HO2 HB;have HO1:=n0_;have HO2:=n1_;have HO605:=n2_;have HB:=n3_;clear n0_ n1_ n2_ n3_ hb ho24;obtain ⟨Ao25,co25,eo25⟩:=Kd.N_slice HO605.out;subst eo25)|((with_reducible refine gate_callee (f:=80) rfl ?_);refine goesL_ (some 15) rfl rfl Try.func80 (by kernel_rfl) rfl #[.slice A0 l0.length c0,.slice Ao25 y603.length co25] rfl (zsx7_2) ?_;(with_reducible refine (impl_arePits.calls k _ _ l0 _ _ y603 false _ ?side1 ?side2 ?side3 ?side4 A4.out).mono ?_);(case side1=>exact zsx7_25);(case side2=>exact HC0.out);(case side3=>exact zsx7_34);(case side4=>exact (Kd.N_reads' HO605.out).2.1);rintro e w26 ⟨rfl,hb⟩;refine ⟨_,rfl,?_⟩;have n0_:=aM7 (Kd.V_below (zsx7_1) hb);have n1_:=aM7 (Kd.V_below (zsx7_17) hb);have n2_:=aM7 (Kd.N_below (zsx7_18) hb);have n3_:=aM7 (below_step (zsx7_0) hb);clear HO1 HO2 HO605 HB;have HO1:=n0_;have HO2:=n1_;have HO605:=n2_;have HB:=n3_;clear n0_ n1_ n2_ n3_;(try clear hb);(try clear hb2);(try clear hk);(try clear hi)))
  go_ret2
  exact ⟨_,zsx7_8,zsx7_9,zsx7_0⟩
def spec_l1Own.f (l0:List Int):Option (List Int):=(some (([]:List Int):List Int)).bind fun y615=>(if y615.length + l0.length < 17592186044416 then (some (y615 ++ l0)) else (none))
set_option maxHeartbeats 8000000 in
set_option maxRecDepth 100000 in
theorem spec_l1Own.calls (A0:Option Addr) (c0:Nat) (l0:List Int) (r:List Int) (w:World) (hr0:Kd.C (Kd.int .i64) w A0 l0.length l0) (hc0:l0.length≤c0) (h:spec_l1Own.f l0=some r) :
  Calls Try.prog 84 #[.slice A0 l0.length c0] w fun e w'=>∃ v0_:Value,e=.returned (v0_)∧Kd.R (Kd.int .i64) 3 w' w.heap.size (fun _=>True) v0_ r∧Below w.heap.size w w':=by
 have HR0:=aM7 hr0;have HC0:=aM7 hc0;clear hr0 hc0;have HB:=aM7 (Below.refl w.heap.size w);have H:((some (([]:List Int):List Int)).bind fun y615=>(if y615.length + l0.length < 17592186044416 then (some (y615 ++ l0)) else (none)))=some r:=h;clear h;obtain ⟨y615,hy615⟩:∃ y_:List Int,y_=(([]:List Int)):=⟨_,rfl⟩
 replace H:(if y615.length + l0.length < 17592186044416 then (some (y615 ++ l0)) else (none))=some r:=by first|(rw [hy615];with_reducible exact H)|(have H2_:=(Option.bind_some _ _).symm.trans H;rw [hy615];with_reducible exact H2_)|(have H2_:=(Option.bind_some _ _).symm.trans H;with_reducible exact H2_)|with_reducible exact H|(rw [hy615];exact H)|exact H
 have Ny615:=aM7 hy615;clear hy615
 by_cases c2:y615.length + l0.length < 17592186044416
 ·rw [if_pos c2] at H
  have LMc2:=aM7 c2;clear c2;obtain ⟨y618,hy618⟩:∃ y_:List Int,y_=(y615 ++ l0):=⟨_,rfl⟩
  replace H:(some y618)=some r:=by first|(rw [hy618];with_reducible exact H)|(have H2_:=(Option.bind_some _ _).symm.trans H;rw [hy618];with_reducible exact H2_)|(have H2_:=(Option.bind_some _ _).symm.trans H;with_reducible exact H2_)|with_reducible exact H|(rw [hy618];exact H)|exact H
  have Ny618:=aM7 hy618;clear hy618;obtain rfl:=Option.some.inj H;go_enter Try.func84,Try.ntmps84
  go_wp2_with (first|((with_reducible refine gate_dst (N:=3) rfl ?_);refine Kd.R_lit (Kd.int .i64) _ 3 ?hg (N:=3) ?hd (xs:=([]:List Int)) (inner:=[]) (ok:=fun _=>True) (okp:=fun _=>True) ?hr ?hp (fun _ hk=>hk) trivial (Below.refl _ _) (Nat.le_refl _) (by simp) ?_;(case hd=>rfl);(case hg=>rfl);(case hr=>exact zsx7_24);(case hp=>exact (Reps.none _ _));intro v616 w3 ho4 hb hg_ hnew_;clear hg_ hnew_;(first|rw [← Ny615.out] at ho4|(simp only [Int.reduceToNat] at ho4;rw [← Ny615.out] at ho4));have n0_:=aM7 (Kd.R_lower ho4 (bZ7 (zsx7_0)));have n1_:=aM7 (below_step (zsx7_0) hb);clear HB;have HO617:=n0_;have HB:=n1_;clear n0_ n1_ hb ho4)|((with_reducible refine gate_builtin (b:=.append) (xs:=#[.tmp 3,.tmp 4]) rfl ?_);at_builtin;refine Kd.R_append_rows (Kd.int .i64) (w0:=w) w.heap.size rfl (.tmp 3) (.tmp 4) 33 3 (.int .i64 0) 8 rfl Try.underlying33 info3 rfl (by decide) (by omega) v616 y615 l0 _ _ _ (fun _=>True) (fun _=>False) rfl rfl ?aO ?aR (fun _ _ h=>h) (fun _ h=>h.elim) ?aF ?aB ?aS ?aL ?_;(case aR=>exact zsx7_25);(case aB=>exact (zsx7_0));(case aF=>exact (fun _ _=>trivial));(case aO=>exact (by (with_reducible repeat (first|apply Kd.R_alloc|apply Kd.R_drewN|apply Kd.R_drew));exact HO617.out));(case aS=>exact (bZ7 (zsx7_0)));(case aL=>have:=LMc2.out;omega);intro v619 w5 ho hb hg hat;rw [← Ny618.out] at ho;have n0_:=aM7 (hb);have n1_:=aM7 (ho);clear HB HO617;have HB:=n0_;have HO620:=n1_;clear n0_ n1_ ho hb hg hat))
  go_ret
  exact ⟨_,zsx7_8,by (with_reducible repeat (first|apply Kd.R_alloc|apply Kd.R_drewN|apply Kd.R_drew));exact HO620.out,zsx7_0⟩
 ·rw [if_neg c2] at H
  exact absurd H (by simp)
mutual
def spec_JoinClosures.j0:Nat→List Int→List Int→Bool→Option (List Int × Bool)
 | 0,_,_,_=>none
 | k + 1,x1,x2,x20=>if x20=true then (some (([]:List Int),false)) else ((spec_l1Own.f x1).bind fun t623=>(spec_JoinClosures.l0 k t623 x2 (x2.length:Int) 0))
def spec_JoinClosures.l0:Nat→List Int→List Int→Int→Int→Option (List Int × Bool)
 | 0,_,_,_,_=>none
 | k + 1,x8,x23,x24,x25=>if x25 < x24 then (if 0≤x25 then (if x25 < (x23.length:Int) then ((spec_l1Put.f k x8 (rd x23 x25)).bind fun t627=>(spec_JoinClosures.l0 k t627 x23 x24 (wrap64 (x25 + 1)))) else (none)) else (none)) else (some (x8,true))
end
def spec_JoinClosures.f (k:Nat) (l0:List (List Int)) (l1:List Int) (l2:List Int):Option (List Int × Bool):=(spec_clGood.f k l0 l1).bind fun t621=>(if t621=true then ((spec_clGood.f k l0 l2).bind fun t622=>(spec_JoinClosures.j0 k l1 l2 (!t622))) else (spec_JoinClosures.j0 k l1 l2 true))
set_option maxHeartbeats 8000000 in
set_option maxRecDepth 100000 in
theorem spec_JoinClosures.calls (k:Nat) (A0:Option Addr) (c0:Nat) (l0:List (List Int)) (A1:Option Addr) (c1:Nat) (l1:List Int) (A2:Option Addr) (c2:Nat) (l2:List Int) (r1:List Int) (r2:Bool) (w:World) (hr0:Kd.C (Kd.slice 3 (Kd.int .i64)) w A0 l0.length l0) (hc0:l0.length≤c0) (hr1:Kd.C (Kd.int .i64) w A1 l1.length l1) (hc1:l1.length≤c1) (hr2:Kd.C (Kd.int .i64) w A2 l2.length l2) (hc2:l2.length≤c2) (h:spec_JoinClosures.f k l0 l1 l2=some (r1,r2)) :
  Calls Try.prog 42 #[.slice A0 l0.length c0,.slice A1 l1.length c1,.slice A2 l2.length c2] w fun e w'=>∃ v0_:Value,e=.returned (.tuple #[v0_,.bool r2])∧Kd.R (Kd.int .i64) 3 w' w.heap.size (fun _=>True) v0_ r1∧Below w.heap.size w w':=by
 have HR0:=aM7 hr0;have HC0:=aM7 hc0;clear hr0 hc0;have HR1:=aM7 hr1;have HC1:=aM7 hc1;clear hr1 hc1;have HR2:=aM7 hr2;have HC2:=aM7 hc2;clear hr2 hc2;have HB:=aM7 (Below.refl w.heap.size w);have H:((spec_clGood.f k l0 l1).bind fun t621=>(if t621=true then ((spec_clGood.f k l0 l2).bind fun t622=>(spec_JoinClosures.j0 k l1 l2 (!t622))) else (spec_JoinClosures.j0 k l1 l2 true)))=some (r1,r2):=h;clear h;have HC4:=aM7 H;clear H;go_enter Try.func42,Try.ntmps42
 go_upto_region 1 with (fail)
 go_cut [20] (fun v20 wc=>∃ (kq:Nat) (x20_3:Bool),v20=.bool x20_3∧Aside0 (spec_JoinClosures.j0 kq l1 l2 x20_3=some (r1,r2))∧Aside0 (kq≤k)∧Aside0 (Below w.heap.size w wc))
 case first =>
  have H:=HC4.out;clear HC4;replace H:=bI7.mp H;obtain ⟨t621,A50,H⟩:=H;(try dsimp only at H);have A5:=aM7 A50;clear A50
  by_cases c6:t621=true
  ·subst c6
   rw [if_pos rfl] at H;(try dsimp only at H);replace H:=bI7.mp H;obtain ⟨t622,A70,H⟩:=H;(try dsimp only at H);have A7:=aM7 A70;clear A70;have H':=aM7 H;clear H
   go_wp2_with (first|((with_reducible refine gate_callee (f:=82) rfl ?_);refine goesL_ (some 13) rfl rfl Try.func82 (by kernel_rfl) rfl #[.slice A0 l0.length c0,.slice A1 l1.length c1] rfl (zsx7_2) ?_;(with_reducible refine (spec_clGood.calls k _ _ l0 _ _ l1 true _ ?side1 ?side2 ?side3 ?side4 A5.out).mono ?_);(case side1=>exact zsx7_25);(case side2=>exact HC0.out);(case side3=>exact zsx7_32);(case side4=>exact HC1.out);rintro e w8 ⟨rfl,hb⟩;refine ⟨_,rfl,?_⟩;have n0_:=aM7 (below_step (zsx7_0) hb);clear HB;have HB:=n0_;clear n0_;(try clear hb);(try clear hb2);(try clear hk);(try clear hi))|(go_at_call 82;(with_reducible refine (spec_clGood.calls k _ _ l0 _ _ l2 t622 _ ?side1 ?side2 ?side3 ?side4 A7.out).mono ?_);(case side1=>exact zsx7_25);(case side2=>exact HC0.out);(case side3=>repeat (first|exact (Kd.C_below HR2.out HB.out)|(with_reducible refine Kd.C_alloc ?_ _)|(with_reducible refine Kd.C_drewN ?_ _)|(with_reducible refine Kd.C_drew ?_)));(case side4=>exact HC2.out);rintro e w9 ⟨rfl,hb⟩;have n0_:=aM7 (below_step (zsx7_0) hb);clear HB;have HB:=n0_;clear n0_;(try clear hb);(try clear hb2);(try clear hk);(try clear hi)))
   go_meet
   case rel=>exact ⟨_,(!t622),(zsx7_4),H',⟨by first|omega|exact Nat.le_refl _⟩,⟨zsx7_0⟩⟩
  ·replace c6:=Bool.eq_false_iff.mpr c6
   subst c6;rw [if_neg (show ¬ (false=true) by decide)] at H;(try dsimp only at H);have H':=aM7 H;clear H
   go_wp2_with (first|((with_reducible refine gate_callee (f:=82) rfl ?_);refine goesL_ (some 13) rfl rfl Try.func82 (by kernel_rfl) rfl #[.slice A0 l0.length c0,.slice A1 l1.length c1] rfl (zsx7_2) ?_;(with_reducible refine (spec_clGood.calls k _ _ l0 _ _ l1 false _ ?side1 ?side2 ?side3 ?side4 A5.out).mono ?_);(case side1=>exact zsx7_25);(case side2=>exact HC0.out);(case side3=>exact zsx7_32);(case side4=>exact HC1.out);rintro e w10 ⟨rfl,hb⟩;refine ⟨_,rfl,?_⟩;have n0_:=aM7 (below_step (zsx7_0) hb);clear HB;have HB:=n0_;clear n0_;(try clear hb);(try clear hb2);(try clear hk);(try clear hi)))
   go_meet
   case rel=>exact ⟨_,(true),(zsx7_4),H',⟨by first|omega|exact Nat.le_refl _⟩,⟨zsx7_0⟩⟩
 case rest =>
  clear HC4;(try clear c1);(try clear c2);(try clear p2);(try clear c4);(try clear c6);(try clear c8);obtain ⟨kq,x20_3,rfl,HA,HJ3,HB⟩:=hcut
  cases kq with
  | zero=>exact absurd HA.out (by simp [spec_JoinClosures.j0])
  | succ kj3 =>
   have H:=HA.out;clear HA;simp only [spec_JoinClosures.j0] at H
   by_cases c11:x20_3=true
   ·subst c11
    rw [if_pos rfl] at H;(try dsimp only at H);simp only [Option.some.injEq,Prod.mk.injEq] at H;obtain ⟨rfl,rfl⟩:=H
    go_wp2
    go_ret2
    exact ⟨_,zsx7_8,zsx7_9,zsx7_0⟩
   ·replace c11:=Bool.eq_false_iff.mpr c11
    subst c11;rw [if_neg (show ¬ (false=true) by decide)] at H;(try dsimp only at H);replace H:=bI7.mp H;obtain ⟨t623,A120,H⟩:=H;(try dsimp only at H);have A12:=aM7 A120;clear A120;have H':=aM7 H;clear H
    go_wp2_with (first|((with_reducible refine gate_callee (f:=84) rfl ?_);refine goesL_ (some 22) rfl rfl Try.func84 (by kernel_rfl) rfl #[.slice A1 l1.length c1] rfl (zsx7_2) ?_;(with_reducible refine (spec_l1Own.calls _ _ l1 t623 _ ?side1 ?side2 A12.out).mono ?_);(case side1=>exact zsx7_32);(case side2=>exact HC1.out);rintro e w13 ⟨v624,rfl,ho0,hb⟩;refine ⟨_,rfl,?_⟩;have n0_:=aM7 (Kd.R_lower ho0 (bZ7 (zsx7_0)));have n1_:=aM7 (below_step (zsx7_0) hb);clear HB;have HO625:=n0_;have HB:=n1_;clear n0_ n1_;(try clear hb);(try clear hb2);(try clear hk);(try clear hi);(try clear ho0)))
    go_loopg [8,25] kj3 (fun kq v8 v25 w'=>∃ (x8_2:List Int) (x25_2:Int),v25=.int .i64 x25_2∧Aside0 (spec_JoinClosures.l0 kq x8_2 l2 (l2.length:Int) x25_2=some (r1,r2))∧Aside0 (kq≤kj3)∧Aside0 (Kd.R (Kd.int .i64) 3 w' w.heap.size (fun _=>True) v8 x8_2)∧Aside0 (Below w.heap.size w w'))
    case atStart=>exact ⟨(t623),(0),(zsx7_4),H',⟨Nat.le_refl _⟩,⟨by (with_reducible repeat (first|apply Kd.R_alloc|apply Kd.R_drewN|apply Kd.R_drew));exact HO625.out⟩,⟨zsx7_0⟩⟩
    case round =>
     clear H';(try clear c1);(try clear c2);(try clear p2);(try clear c4);(try clear c6);(try clear c8);(try clear c11);(try clear p2);obtain ⟨x8_2,x25_2,rfl,HA,HK2,HO_8,HB⟩:=hrel
     cases gk with
     | zero=>exact absurd HA.out (by simp [spec_JoinClosures.l0])
     | succ k2 =>
      have H:=HA.out;clear HA;simp only [spec_JoinClosures.l0] at H
      by_cases c14:x25_2 < (l2.length:Int)
      ·rw [if_pos c14] at H
       have c14b0:decide (x25_2 < (l2.length:Int))=true:=dT7 c14;clear c14
       by_cases c15:0≤x25_2
       ·rw [if_pos c15] at H
        have c15b0:decide (0≤x25_2)=true:=dT7 c15;clear c15
        by_cases c16:x25_2 < (l2.length:Int)
        ·rw [if_pos c16] at H
         have c16b0:decide (x25_2 < (l2.length:Int))=true:=dT7 c16;clear c16;replace H:=bI7.mp H;obtain ⟨t627,A170,H⟩:=H;(try dsimp only at H);have A17:=aM7 A170;clear A170;have H':=aM7 H;clear H;have p626:0≤(x25_2:Int):=oD7 (zsx7_5);have q626:x25_2 < (l2.length:Int):=oD7 (zsx7_5);obtain ⟨ad626,e626,hx626_0⟩:=Kd.at_int HR2.out x25_2 p626 q626
         cases e626
         replace hx626_0:=(HB.out.cell (bL7 w _ hx626_0)).trans hx626_0;replace p626:=eq_true p626;replace q626:=eq_true q626;obtain ⟨Ao18,co18,eo18⟩:=Kd.R_slice HO_8.out;subst eo18
         go_wp2_with (first|((with_reducible refine gate_callee (f:=85) rfl ?_);refine goesL_ (some 31) rfl rfl Try.func85 (by kernel_rfl) rfl #[.slice Ao18 x8_2.length co18,.int .i64 (rd l2 x25_2)] rfl (zsx7_2) ?_;(with_reducible refine (spec_l1Put.calls k2 (fun k_=>some k_=(.slice Ao18 x8_2.length co18:Value).ownBlock) (.slice Ao18 x8_2.length co18) x8_2 (rd l2 x25_2) t627 w _ ?side1 ?side2 A17.out).mono ?_);(case side1=>exact zsx7_0);(case side2=>exact Kd.R_tight rfl HO_8.out);rintro e w19 ⟨v628,rfl,ho0,hb,hkp⟩;refine ⟨_,rfl,?_⟩;have n0_:=aM7 (Kd.R_mono (ok':=fun k_=>True) ho0 (fun k_ hk_=>trivial));have n1_:=aM7 (hb);clear HB HO_8;have HO629:=n0_;have HB:=n1_;clear n0_ n1_;(try clear hb);(try clear hkp);(try clear ho0)))
         go_roundg k2
         case measure=>have:=HJ3.out;have:=HK2.out;omega
         case rel=>exact ⟨(t627),(wrap64 (x25_2 + 1)),(zsx7_4),H',⟨by have:=HJ3.out;have:=HK2.out;omega⟩,⟨by (with_reducible repeat (first|apply Kd.R_alloc|apply Kd.R_drewN|apply Kd.R_drew));exact HO629.out⟩,⟨zsx7_0⟩⟩
        ·rw [if_neg c16] at H
         exact absurd H (by simp)
       ·rw [if_neg c15] at H
        exact absurd H (by simp)
      ·rw [if_neg c14] at H
       have c14b0:decide (x25_2 < (l2.length:Int))=false:=decide_eq_false c14;clear c14;simp only [Option.some.injEq,Prod.mk.injEq] at H;obtain ⟨rfl,rfl⟩:=H
       go_wp2
       go_ret2
       exact ⟨_,zsx7_8,zsx7_20,zsx7_0⟩
def impl_MeetClosures.l0:Nat→List Bool→List Int→List Int→Int→Int→Option (List Int × Bool)
 | 0,_,_,_,_,_=>none
 | k + 1,x8,x9,x23,x24,x25=>if x25 < x24 then (if 0≤x25 then (if x25 < (x23.length:Int) then (if 0≤(rd x23 x25) then (if (rd x23 x25) < (x8.length:Int) then (if rdOf false x8 (rd x23 x25)=true then (if x9.length < 17592186044416 then (impl_MeetClosures.l0 k x8 (x9 ++ [rd x23 x25]) x23 x24 (wrap64 (x25 + 1))) else (none)) else (impl_MeetClosures.l0 k x8 x9 x23 x24 (wrap64 (x25 + 1)))) else (none)) else (none)) else (none)) else (none)) else (some (x9,true))
def impl_MeetClosures.f (k:Nat) (l0:List (List Int)) (l1:List Int) (l2:List Int):Option (List Int × Bool):=(impl_arePits.f k l0 (([l1,l2]:List (List Int)))).bind fun t633=>(if t633=true then ((impl_markOf.f k (l0.length:Int) l1).bind fun t634=>(impl_MeetClosures.l0 k t634 (([]:List Int)) l2 (l2.length:Int) 0)) else (some (([]:List Int),false)))
set_option maxHeartbeats 8000000 in
set_option maxRecDepth 100000 in
theorem impl_MeetClosures.calls (k:Nat) (A0:Option Addr) (c0:Nat) (l0:List (List Int)) (P1_:Nat→Prop) (A1:Option Addr) (c1:Nat) (l1:List Int) (P2_:Nat→Prop) (A2:Option Addr) (c2:Nat) (l2:List Int) (r1:List Int) (r2:Bool) (w:World) (hr0:Kd.C (Kd.slice 3 (Kd.int .i64)) w A0 l0.length l0) (hc0:l0.length≤c0) (hs1:Kd.V (Kd.int .i64) 3 w w.heap.size (fun k_=>P1_ k_) (.slice A1 l1.length c1) l1) (hs2:Kd.V (Kd.int .i64) 3 w w.heap.size (fun k_=>P2_ k_) (.slice A2 l2.length c2) l2) (h:impl_MeetClosures.f k l0 l1 l2=some (r1,r2)) :
  Calls Try.prog 43 #[.slice A0 l0.length c0,.slice A1 l1.length c1,.slice A2 l2.length c2] w fun e w'=>∃ v0_:Value,e=.returned (.tuple #[v0_,.bool r2])∧Kd.R (Kd.int .i64) 3 w' w.heap.size (fun k_=>(w.heap.size≤k_)) v0_ r1∧Below w.heap.size w w':=by
 have HR0:=aM7 hr0;have HC0:=aM7 hc0;clear hr0 hc0;have HO1:=aM7 (show Kd.V (Kd.int .i64) 3 w w.heap.size (fun k_=>((P1_ k_ ∨ P2_ k_) ∨ w.heap.size≤k_)) (.slice A1 l1.length c1) l1 from Kd.V_mono hs1 (fun k_ hk=>.inl (.inl hk)));have HO2:=aM7 (show Kd.V (Kd.int .i64) 3 w w.heap.size (fun k_=>((P1_ k_ ∨ P2_ k_) ∨ w.heap.size≤k_)) (.slice A2 l2.length c2) l2 from Kd.V_mono hs2 (fun k_ hk=>.inl (.inr hk)));have HB:=aM7 (Below.refl w.heap.size w);have H:((impl_arePits.f k l0 (([l1,l2]:List (List Int)))).bind fun t633=>(if t633=true then ((impl_markOf.f k (l0.length:Int) l1).bind fun t634=>(impl_MeetClosures.l0 k t634 (([]:List Int)) l2 (l2.length:Int) 0)) else (some (([]:List Int),false))))=some (r1,r2):=h;clear h;obtain ⟨y630,hy630⟩:∃ y_:List (List Int),y_=(([l1,l2]:List (List Int))):=⟨_,rfl⟩
 replace H:((impl_arePits.f k l0 y630).bind fun t633=>(if t633=true then ((impl_markOf.f k (l0.length:Int) l1).bind fun t634=>(impl_MeetClosures.l0 k t634 (([]:List Int)) l2 (l2.length:Int) 0)) else (some (([]:List Int),false))))=some (r1,r2):=by first|(rw [hy630];with_reducible exact H)|(have H2_:=(Option.bind_some _ _).symm.trans H;rw [hy630];with_reducible exact H2_)|(have H2_:=(Option.bind_some _ _).symm.trans H;with_reducible exact H2_)|with_reducible exact H|(rw [hy630];exact H)|exact H
 have Ny630:=aM7 hy630;clear hy630;replace H:=bI7.mp H;obtain ⟨t633,A40,H⟩:=H;(try dsimp only at H);have A4:=aM7 A40;clear A40
 by_cases c5:t633=true
 ·subst c5
  rw [if_pos rfl] at H;(try dsimp only at H);replace H:=bI7.mp H;obtain ⟨t634,A60,H⟩:=H;(try dsimp only at H);have A6:=aM7 A60;clear A60;obtain ⟨y637,hy637⟩:∃ y_:List Int,y_=(([]:List Int)):=⟨_,rfl⟩
  replace H:(impl_MeetClosures.l0 k t634 y637 l2 (l2.length:Int) 0)=some (r1,r2):=by first|(rw [hy637];with_reducible exact H)|(have H2_:=(Option.bind_some _ _).symm.trans H;rw [hy637];with_reducible exact H2_)|(have H2_:=(Option.bind_some _ _).symm.trans H;with_reducible exact H2_)|with_reducible exact H|(rw [hy637];exact H)|exact H
  have Ny637:=aM7 hy637;clear hy637;have H':=aM7 H;clear H;go_enter Try.func43,Try.ntmps43
  go_wp2_with (first|((with_reducible refine gate_dst (N:=15) rfl ?_);refine Kd.N_lit (Kd.slice 3 (Kd.int .i64)) _ 33 ?hg (N':=15) ?hd (xs:=([l1,l2]:List (List Int))) (inner:=[.slice A1 l1.length c1,.slice A2 l2.length c2]) (ok:=(fun k_=>((P1_ k_ ∨ P2_ k_) ∨ w.heap.size≤k_))) (okp:=(fun k_=>((P1_ k_ ∨ P2_ k_) ∨ w.heap.size≤k_))) ?hr ?hp (fun _ hk=>hk) ((show ∀ k_,w.heap.size≤k_→(fun k_=>((P1_ k_ ∨ P2_ k_) ∨ w.heap.size≤k_)) k_ from fun k_ hk=>(.inr (Nat.le_trans (bZ7 (zsx7_0)) hk))) _ (Nat.le_refl _)) (Below.refl _ _) (Nat.le_refl _) (by simp) ?_;(case hd=>rfl);(case hg=>rfl);(case hr=>exact zsx7_24);(case hp=>exact (Reps.one (show Kd.FK (Kd.slice 3 (Kd.int .i64)) _ _ l1 [.slice A1 l1.length c1] from (Kd.FK_slice_mk (Kd.V_reads' (Kd.V_mono (ok':=(fun k_=>((P1_ k_ ∨ P2_ k_) ∨ w.heap.size≤k_))) (HO1.out) (fun k_ hk=>hk))).2.1 (Kd.V_F (Kd.V_mono (ok':=(fun k_=>((P1_ k_ ∨ P2_ k_) ∨ w.heap.size≤k_))) (HO1.out) (fun k_ hk=>hk))))) (Reps.one (show Kd.FK (Kd.slice 3 (Kd.int .i64)) _ _ l2 [.slice A2 l2.length c2] from (Kd.FK_slice_mk (Kd.V_reads' (Kd.V_mono (ok':=(fun k_=>((P1_ k_ ∨ P2_ k_) ∨ w.heap.size≤k_))) (HO2.out) (fun k_ hk=>hk))).2.1 (Kd.V_F (Kd.V_mono (ok':=(fun k_=>((P1_ k_ ∨ P2_ k_) ∨ w.heap.size≤k_))) (HO2.out) (fun k_ hk=>hk))))) (Reps.none _ _))));intro v631 w7 ho8 hb hg_ hnew_;clear hg_ hnew_;(first|rw [← Ny630.out] at ho8|(simp only [Int.reduceToNat] at ho8;rw [← Ny630.out] at ho8));have n0_:=aM7 (Kd.V_elder' (zsx7_1) (Kd.N_base ho8) hb);have n1_:=aM7 (Kd.V_elder' (zsx7_17) (Kd.N_base ho8) hb);have n2_:=aM7 (Kd.N_lower ho8 (bZ7 (zsx7_0)));have n3_:=aM7 (below_step (zsx7_0) hb);clear HO1 HO2 HB;have HO1:=n0_;have HO2:=n1_;have HO632:=n2_;have HB:=n3_;clear n0_ n1_ n2_ n3_ hb ho8;obtain ⟨Ao9,co9,eo9⟩:=Kd.N_slice HO632.out;subst eo9)|((with_reducible refine gate_callee (f:=80) rfl ?_);refine goesL_ (some 16) rfl rfl Try.func80 (by kernel_rfl) rfl #[.slice A0 l0.length c0,.slice Ao9 y630.length co9] rfl (zsx7_2) ?_;(with_reducible refine (impl_arePits.calls k _ _ l0 _ _ y630 true _ ?side1 ?side2 ?side3 ?side4 A4.out).mono ?_);(case side1=>exact zsx7_25);(case side2=>exact HC0.out);(case side3=>exact zsx7_35);(case side4=>exact (Kd.N_reads' HO632.out).2.1);rintro e w10 ⟨rfl,hb⟩;refine ⟨_,rfl,?_⟩;have n0_:=aM7 (Kd.V_below (zsx7_1) hb);have n1_:=aM7 (Kd.V_below (zsx7_17) hb);have n2_:=aM7 (Kd.N_below (zsx7_21) hb);have n3_:=aM7 (below_step (zsx7_0) hb);clear HO1 HO2 HO632 HB;have HO1:=n0_;have HO2:=n1_;have HO632:=n2_;have HB:=n3_;clear n0_ n1_ n2_ n3_;(try clear hb);(try clear hb2);(try clear hk);(try clear hi))|((with_reducible refine gate_callee (f:=81) rfl ?_);refine goesL_ (some 21) rfl rfl Try.func81 (by kernel_rfl) rfl #[.int .i64 (l0.length:Int),.slice A1 l1.length c1] rfl (zsx7_2) ?_;(with_reducible refine (impl_markOf.calls k (l0.length:Int) _ _ l1 t634 _ ?side1 ?side2 A6.out).mono ?_);(case side1=>exact zsx7_27);(case side2=>exact (Kd.V_reads' HO1.out).2.1);rintro e w11 ⟨v635,rfl,ho0,hb⟩;refine ⟨_,rfl,?_⟩;have n0_:=aM7 (Kd.V_elder' (zsx7_1) (Kd.R_base ho0) hb);have n1_:=aM7 (Kd.V_elder' (zsx7_17) (Kd.R_base ho0) hb);have n2_:=aM7 (Kd.N_elder' (zsx7_21) (Kd.R_base ho0) hb);have n3_:=aM7 (Kd.R_lower (Kd.R_newM (M:=fun k_=>(w.heap.size≤k_)) ho0 (bZ7 (zsx7_0)) (fun k_ h_=>h_)) (bZ7 (zsx7_0)));have n4_:=aM7 (below_step (zsx7_0) hb);clear HO1 HO2 HO632 HB;have HO1:=n0_;have HO2:=n1_;have HO632:=n2_;have HO636:=n3_;have HB:=n4_;clear n0_ n1_ n2_ n3_ n4_;(try clear hb);(try clear hb2);(try clear hk);(try clear hi);(try clear ho0))|((with_reducible refine gate_dst (N:=22) rfl ?_);refine Kd.R_lit (Kd.int .i64) _ 3 ?hg (N:=22) ?hd (xs:=([]:List Int)) (inner:=[]) (ok:=fun _=>True) (okp:=fun _=>True) ?hr ?hp (fun _ hk=>hk) trivial (Below.refl _ _) (Nat.le_refl _) (by simp) ?_;(case hd=>rfl);(case hg=>rfl);(case hr=>exact zsx7_24);(case hp=>exact (Reps.none _ _));intro v638 w12 ho13 hb hg_ hnew_;clear hg_ hnew_;(first|rw [← Ny637.out] at ho13|(simp only [Int.reduceToNat] at ho13;rw [← Ny637.out] at ho13));have n0_:=aM7 (Kd.V_elder' (zsx7_1) (Kd.R_base ho13) hb);have n1_:=aM7 (Kd.V_elder' (zsx7_17) (Kd.R_base ho13) hb);have n2_:=aM7 (Kd.N_elder' (zsx7_21) (Kd.R_base ho13) hb);have n3_:=aM7 (Kd.R_below (by (with_reducible repeat (first|apply Kd.R_alloc|apply Kd.R_drewN|apply Kd.R_drew));exact HO636.out) hb);have n4_:=aM7 (Kd.R_lower (Kd.R_newM (M:=fun k_=>(w.heap.size≤k_)) ho13 (bZ7 (zsx7_0)) (fun k_ h_=>h_)) (bZ7 (zsx7_0)));have n5_:=aM7 (below_step (zsx7_0) hb);clear HO1 HO2 HO632 HO636 HB;have HO1:=n0_;have HO2:=n1_;have HO632:=n2_;have HO636:=n3_;have HO639:=n4_;have HB:=n5_;clear n0_ n1_ n2_ n3_ n4_ n5_ hb ho13))
  go_loopg [9,25] k (fun kq v9 v25 w'=>∃ (x9_1:List Int) (x25_1:Int),v25=.int .i64 x25_1∧Aside0 (impl_MeetClosures.l0 kq t634 x9_1 l2 (l2.length:Int) x25_1=some (r1,r2))∧Aside0 (kq≤k)∧Aside0 (Kd.R Kd.bool 4 w' w.heap.size (fun k_=>(w.heap.size≤k_)) v635 t634)∧Aside0 (Kd.R (Kd.int .i64) 3 w' w.heap.size (fun k_=>(w.heap.size≤k_)) v9 x9_1)∧Aside0 (Kd.V (Kd.int .i64) 3 w' w.heap.size (fun k_=>((P1_ k_ ∨ P2_ k_) ∨ w.heap.size≤k_)∧some k_≠(v635:Value).ownBlock∧some k_≠(v9:Value).ownBlock) (.slice A2 l2.length c2) l2)∧Aside0 (Below w.heap.size w w'))
  case atStart=>exact ⟨(y637),(0),(zsx7_4),H',⟨Nat.le_refl _⟩,⟨by (with_reducible repeat (first|apply Kd.R_alloc|apply Kd.R_drewN|apply Kd.R_drew));exact Kd.R_mono HO636.out (fun _ hk=>hk.1)⟩,⟨by (with_reducible repeat (first|apply Kd.R_alloc|apply Kd.R_drewN|apply Kd.R_drew));exact Kd.R_mono HO639.out (fun _ hk=>hk.1)⟩,⟨by (with_reducible repeat (first|apply Kd.V_alloc|apply Kd.V_drewN|apply Kd.V_drew));exact Kd.V_mono HO2.out (fun _ hk=>⟨hk.1.1.1,⟨hk.1.2,hk.2⟩⟩)⟩,⟨zsx7_0⟩⟩
  case round =>
   clear H';(try clear c1);(try clear c2);(try clear p2);(try clear c4);(try clear c5);(try clear c8);obtain ⟨x9_1,x25_1,rfl,HA,HK1,HO_8,HO_9,HO_23,HB⟩:=hrel
   cases gk with
   | zero=>exact absurd HA.out (by simp [impl_MeetClosures.l0])
   | succ k1 =>
    have H:=HA.out;clear HA;simp only [impl_MeetClosures.l0] at H
    by_cases c14:x25_1 < (l2.length:Int)
    ·rw [if_pos c14] at H
     have c14b0:decide (x25_1 < (l2.length:Int))=true:=dT7 c14;clear c14
     by_cases c15:0≤x25_1
     ·rw [if_pos c15] at H
      have c15b0:decide (0≤x25_1)=true:=dT7 c15;clear c15
      by_cases c16:x25_1 < (l2.length:Int)
      ·rw [if_pos c16] at H
       have c16b0:decide (x25_1 < (l2.length:Int))=true:=dT7 c16;clear c16
       by_cases c17:0≤(rd l2 x25_1)
       ·rw [if_pos c17] at H
        have c17b0:decide (0≤(rd l2 x25_1))=true:=dT7 c17;clear c17
        by_cases c18:(rd l2 x25_1) < (t634.length:Int)
        ·rw [if_pos c18] at H
         have c18b0:decide ((rd l2 x25_1) < (t634.length:Int))=true:=dT7 c18;clear c18;obtain ⟨bq19,hbq19⟩:∃ b_:Bool,b_=(rdOf false t634 (rd l2 x25_1)):=⟨_,rfl⟩
         replace H:(if bq19=true then (if x9_1.length < 17592186044416 then (impl_MeetClosures.l0 k1 t634 (x9_1 ++ [rd l2 x25_1]) l2 (l2.length:Int) (wrap64 (x25_1 + 1))) else (none)) else (impl_MeetClosures.l0 k1 t634 x9_1 l2 (l2.length:Int) (wrap64 (x25_1 + 1))))=some (r1,r2):=by rw [← hbq19] at H;exact H
         have Nbq19:=aM7 hbq19;clear hbq19
         by_cases c20:bq19=true
         ·subst c20
          rw [if_pos rfl] at H;(try dsimp only at H)
          by_cases c21:x9_1.length < 17592186044416
          ·rw [if_pos c21] at H
           have LMc21:=aM7 c21;clear c21;obtain ⟨y642,hy642⟩:∃ y_:List Int,y_=(x9_1 ++ [rd l2 x25_1]):=⟨_,rfl⟩
           replace H:(impl_MeetClosures.l0 k1 t634 y642 l2 (l2.length:Int) (wrap64 (x25_1 + 1)))=some (r1,r2):=by first|(rw [hy642];with_reducible exact H)|(have H2_:=(Option.bind_some _ _).symm.trans H;rw [hy642];with_reducible exact H2_)|(have H2_:=(Option.bind_some _ _).symm.trans H;with_reducible exact H2_)|with_reducible exact H|(rw [hy642];exact H)|exact H
           have Ny642:=aM7 hy642;clear hy642;have H':=aM7 H;clear H;have p640:0≤(x25_1:Int):=oD7 (zsx7_5);have q640:x25_1 < (l2.length:Int):=oD7 (zsx7_5);obtain ⟨ad640,e640,hx640_0⟩:=Kd.at_int (Kd.V_reads' HO_23.out).2.2 x25_1 p640 q640
           cases e640
           replace p640:=eq_true p640;replace q640:=eq_true q640;obtain ⟨Ao22,co22,eo22⟩:=Kd.R_slice HO_8.out;subst eo22;have p641:0≤((rd l2 x25_1):Int):=oD7 (zsx7_5);have q641:(rd l2 x25_1) < (t634.length:Int):=oD7 (zsx7_5);obtain ⟨ad641,e641,hx641_0⟩:=Kd.at_bool (Kd.R_reads' HO_8.out).2.2 (rd l2 x25_1) p641 q641;(try rw [← Nbq19.out] at hx641_0)
           cases e641
           replace p641:=eq_true p641;replace q641:=eq_true q641
           go_wp2_with (first|((with_reducible refine gate_builtin (b:=.append) (xs:=#[.tmp 33,.tmp 35]) rfl ?_);at_builtin;refine Kd.R_append (Kd.int .i64) (w0:=w) w.heap.size rfl (.tmp 33) (.tmp 35) 33 3 (.int .i64 0) 8 rfl Try.underlying33 info3 rfl (by decide) (by omega) u9 x9_1 (rd l2 x25_1) [.int .i64 (rd l2 x25_1)] (fun k_=>(w.heap.size≤k_)) (fun _=>False) rfl rfl ?aP (fun _ hk=>hk.elim) ?aF ?aO ?aB ?aS ?aL ?_;(case aP=>exact rfl);(case aB=>exact (zsx7_0));(case aF=>exact (fun k_ hk=>(Nat.le_trans (bZ7 (zsx7_0)) hk)));(case aO=>exact (zsx7_22));(case aS=>exact (bZ7 (zsx7_0)));(case aL=>have:=LMc21.out;omega);intro v643 w23 ho hb hg hat;rw [← Ny642.out] at ho;have n0_:=aM7 (Kd.R_over' (zsx7_20) (Kd.R_typed (zsx7_22)) (by decide) hg);have n1_:=aM7 (Kd.V_afterv (ok:=(fun k_=>((P1_ k_ ∨ P2_ k_) ∨ w.heap.size≤k_)∧some k_≠(.slice (some ad641) t634.length co22:Value).ownBlock)) (by (with_reducible repeat (first|apply Kd.V_alloc|apply Kd.V_drewN|apply Kd.V_drew));exact Kd.V_mono HO_23.out (fun _ hk=>⟨⟨hk.1,hk.2.1⟩,hk.2.2⟩)) hg hat);have n2_:=aM7 (hb);have n3_:=aM7 (ho);clear HO_8 HO_23 HB HO_9;have HO_8:=n0_;have HO_23:=n1_;have HB:=n2_;have HO644:=n3_;clear n0_ n1_ n2_ n3_ ho hb hg hat))
           go_roundg k1
           case measure=>have:=HK1.out;omega
           case rel=>exact ⟨(y642),(wrap64 (x25_1 + 1)),(zsx7_4),H',⟨by have:=HK1.out;omega⟩,⟨zsx7_20⟩,⟨by (with_reducible repeat (first|apply Kd.R_alloc|apply Kd.R_drewN|apply Kd.R_drew));exact HO644.out⟩,⟨by (with_reducible repeat (first|apply Kd.V_alloc|apply Kd.V_drewN|apply Kd.V_drew));exact Kd.V_mono HO_23.out (fun _ hk=>⟨hk.1.1,⟨hk.1.2,hk.2⟩⟩)⟩,⟨zsx7_0⟩⟩
          ·rw [if_neg c21] at H
           exact absurd H (by simp)
         ·replace c20:=Bool.eq_false_iff.mpr c20
          subst c20;rw [if_neg (show ¬ (false=true) by decide)] at H;(try dsimp only at H);have H':=aM7 H;clear H;have p640:0≤(x25_1:Int):=oD7 (zsx7_5);have q640:x25_1 < (l2.length:Int):=oD7 (zsx7_5);obtain ⟨ad640,e640,hx640_0⟩:=Kd.at_int (Kd.V_reads' HO_23.out).2.2 x25_1 p640 q640
          cases e640
          replace p640:=eq_true p640;replace q640:=eq_true q640;obtain ⟨Ao24,co24,eo24⟩:=Kd.R_slice HO_8.out;subst eo24;have p641:0≤((rd l2 x25_1):Int):=oD7 (zsx7_5);have q641:(rd l2 x25_1) < (t634.length:Int):=oD7 (zsx7_5);obtain ⟨ad641,e641,hx641_0⟩:=Kd.at_bool (Kd.R_reads' HO_8.out).2.2 (rd l2 x25_1) p641 q641;(try rw [← Nbq19.out] at hx641_0)
          cases e641
          replace p641:=eq_true p641;replace q641:=eq_true q641
          go_wp2
          go_roundg k1
          case measure=>have:=HK1.out;omega
          case rel=>exact ⟨(x9_1),(wrap64 (x25_1 + 1)),(zsx7_4),H',⟨by have:=HK1.out;omega⟩,⟨zsx7_20⟩,⟨zsx7_22⟩,⟨by (with_reducible repeat (first|apply Kd.V_alloc|apply Kd.V_drewN|apply Kd.V_drew));exact HO_23.out⟩,⟨zsx7_0⟩⟩
        ·rw [if_neg c18] at H
         exact absurd H (by simp)
       ·rw [if_neg c17] at H
        exact absurd H (by simp)
      ·rw [if_neg c16] at H
       exact absurd H (by simp)
     ·rw [if_neg c15] at H
      exact absurd H (by simp)
    ·rw [if_neg c14] at H
     have c14b0:decide (x25_1 < (l2.length:Int))=false:=decide_eq_false c14;clear c14;simp only [Option.some.injEq,Prod.mk.injEq] at H;obtain ⟨rfl,rfl⟩:=H
     go_wp2
     go_ret2
     exact ⟨_,zsx7_8,zsx7_22,zsx7_0⟩
 ·replace c5:=Bool.eq_false_iff.mpr c5
  subst c5;rw [if_neg (show ¬ (false=true) by decide)] at H;(try dsimp only at H);simp only [Option.some.injEq,Prod.mk.injEq] at H;obtain ⟨rfl,rfl⟩:=H;go_enter Try.func43,Try.ntmps43
  go_wp2_with (first|((with_reducible refine gate_dst (N:=15) rfl ?_);refine Kd.N_lit (Kd.slice 3 (Kd.int .i64)) _ 33 ?hg (N':=15) ?hd (xs:=([l1,l2]:List (List Int))) (inner:=[.slice A1 l1.length c1,.slice A2 l2.length c2]) (ok:=(fun k_=>((P1_ k_ ∨ P2_ k_) ∨ w.heap.size≤k_))) (okp:=(fun k_=>((P1_ k_ ∨ P2_ k_) ∨ w.heap.size≤k_))) ?hr ?hp (fun _ hk=>hk) ((show ∀ k_,w.heap.size≤k_→(fun k_=>((P1_ k_ ∨ P2_ k_) ∨ w.heap.size≤k_)) k_ from fun k_ hk=>(.inr (Nat.le_trans (bZ7 (zsx7_0)) hk))) _ (Nat.le_refl _)) (Below.refl _ _) (Nat.le_refl _) (by simp) ?_;(case hd=>rfl);(case hg=>rfl);(case hr=>exact zsx7_24);(case hp=>exact (Reps.one (show Kd.FK (Kd.slice 3 (Kd.int .i64)) _ _ l1 [.slice A1 l1.length c1] from (Kd.FK_slice_mk (Kd.V_reads' (Kd.V_mono (ok':=(fun k_=>((P1_ k_ ∨ P2_ k_) ∨ w.heap.size≤k_))) (HO1.out) (fun k_ hk=>hk))).2.1 (Kd.V_F (Kd.V_mono (ok':=(fun k_=>((P1_ k_ ∨ P2_ k_) ∨ w.heap.size≤k_))) (HO1.out) (fun k_ hk=>hk))))) (Reps.one (show Kd.FK (Kd.slice 3 (Kd.int .i64)) _ _ l2 [.slice A2 l2.length c2] from (Kd.FK_slice_mk (Kd.V_reads' (Kd.V_mono (ok':=(fun k_=>((P1_ k_ ∨ P2_ k_) ∨ w.heap.size≤k_))) (HO2.out) (fun k_ hk=>hk))).2.1 (Kd.V_F (Kd.V_mono (ok':=(fun k_=>((P1_ k_ ∨ P2_ k_) ∨ w.heap.size≤k_))) (HO2.out) (fun k_ hk=>hk))))) (Reps.none _ _))));intro v631 w25 ho26 hb hg_ hnew_;clear hg_ hnew_;(first|rw [← Ny630.out] at ho26|(simp only [Int.reduceToNat] at ho26;rw [← Ny630.out] at ho26));have n0_:=aM7 (Kd.V_elder' (zsx7_1) (Kd.N_base ho26) hb);have n1_:=aM7 (Kd.V_elder' (zsx7_17) (Kd.N_base ho26) hb);have n2_:=aM7 (Kd.N_lower ho26 (bZ7 (zsx7_0)));have n3_:=aM7 (below_step (zsx7_0) hb);clear HO1 HO2 HB;have HO1:=n0_;have HO2:=n1_;have HO632:=n2_;have HB:=n3_;clear n0_ n1_ n2_ n3_ hb ho26;obtain ⟨Ao27,co27,eo27⟩:=Kd.N_slice HO632.out;subst eo27)|((with_reducible refine gate_callee (f:=80) rfl ?_);refine goesL_ (some 16) rfl rfl Try.func80 (by kernel_rfl) rfl #[.slice A0 l0.length c0,.slice Ao27 y630.length co27] rfl (zsx7_2) ?_;(with_reducible refine (impl_arePits.calls k _ _ l0 _ _ y630 false _ ?side1 ?side2 ?side3 ?side4 A4.out).mono ?_);(case side1=>exact zsx7_25);(case side2=>exact HC0.out);(case side3=>exact zsx7_35);(case side4=>exact (Kd.N_reads' HO632.out).2.1);rintro e w28 ⟨rfl,hb⟩;refine ⟨_,rfl,?_⟩;have n0_:=aM7 (Kd.V_below (zsx7_1) hb);have n1_:=aM7 (Kd.V_below (zsx7_17) hb);have n2_:=aM7 (Kd.N_below (zsx7_21) hb);have n3_:=aM7 (below_step (zsx7_0) hb);clear HO1 HO2 HO632 HB;have HO1:=n0_;have HO2:=n1_;have HO632:=n2_;have HB:=n3_;clear n0_ n1_ n2_ n3_;(try clear hb);(try clear hb2);(try clear hk);(try clear hi)))
  go_ret2
  exact ⟨_,zsx7_8,zsx7_9,zsx7_0⟩
def spec_l1Has.l0:Nat→Int→List Int→Int→Int→Option (Bool)
 | 0,_,_,_,_=>none
 | k + 1,x1,x7,x8,x9=>if x9 < x8 then (if 0≤x9 then (if x9 < (x7.length:Int) then (if (rd x7 x9)=x1 then (some true) else (spec_l1Has.l0 k x1 x7 x8 (wrap64 (x9 + 1)))) else (none)) else (none)) else (some false)
def spec_l1Has.f (k:Nat) (l0:List Int) (a1:Int):Option (Bool):=spec_l1Has.l0 k a1 l0 (l0.length:Int) 0
set_option maxHeartbeats 8000000 in
set_option maxRecDepth 100000 in
theorem spec_l1Has.calls (k:Nat) (A0:Option Addr) (c0:Nat) (l0:List Int) (a1:Int) (r:Bool) (w:World) (hr0:Kd.C (Kd.int .i64) w A0 l0.length l0) (hc0:l0.length≤c0) (h:spec_l1Has.f k l0 a1=some r) :
  Calls Try.prog 63 #[.slice A0 l0.length c0,.int .i64 a1] w fun e w'=>e=.returned (.bool r)∧Drawn0 w w':=by
 have HR0:=aM7 hr0;have HC0:=aM7 hc0;clear hr0 hc0;have H:(spec_l1Has.l0 k a1 l0 (l0.length:Int) 0)=some r:=h;clear h;have H':=aM7 H;clear H;go_enter Try.func63,Try.ntmps63
 go_wp2
 go_loopg [9] k (fun kq v9 w'=>∃ (x9_1:Int),v9=.int .i64 x9_1∧Aside0 (spec_l1Has.l0 kq a1 l0 (l0.length:Int) x9_1=some r)∧Aside0 (kq≤k)∧Drawn0 w w')
 case atStart=>exact ⟨(0),(zsx7_4),H',⟨Nat.le_refl _⟩,zsx7_23⟩
 case round =>
  clear H';(try clear p2);obtain ⟨x9_1,rfl,HA,HK1,⟨m1,rfl⟩⟩:=hrel
  cases gk with
  | zero=>exact absurd HA.out (by simp [spec_l1Has.l0])
  | succ k1 =>
   have H:=HA.out;clear HA;simp only [spec_l1Has.l0] at H
   by_cases c3:x9_1 < (l0.length:Int)
   ·rw [if_pos c3] at H
    have c3b0:decide (x9_1 < (l0.length:Int))=true:=dT7 c3;clear c3
    by_cases c4:0≤x9_1
    ·rw [if_pos c4] at H
     have c4b0:decide (0≤x9_1)=true:=dT7 c4;clear c4
     by_cases c5:x9_1 < (l0.length:Int)
     ·rw [if_pos c5] at H
      have c5b0:decide (x9_1 < (l0.length:Int))=true:=dT7 c5;clear c5
      by_cases c6:(rd l0 x9_1)=a1
      ·rw [if_pos c6] at H
       have c6b0:((rd l0 x9_1) == a1)=true:=beq_iff_eq.mpr c6;have c6b1:((rd l0 x9_1) != a1)=false:=bne_eq_false_iff_eq.mpr c6;clear c6;obtain rfl:=Option.some.inj H;have p645:0≤(x9_1:Int):=oD7 (zsx7_5);have q645:x9_1 < (l0.length:Int):=oD7 (zsx7_5);obtain ⟨ad645,e645,hx645_0⟩:=Kd.at_int HR0.out x9_1 p645 q645
       cases e645
       replace p645:=eq_true p645;replace q645:=eq_true q645
       go_wp2
       go_ret
       exact ⟨zsx7_4,zsx7_23⟩
      ·rw [if_neg c6] at H
       have c6b0:((rd l0 x9_1) == a1)=false:=beq_eq_false_iff_ne.mpr c6;have c6b1:((rd l0 x9_1) != a1)=true:=bne_iff_ne.mpr c6;have H':=aM7 H;clear H;have p645:0≤(x9_1:Int):=oD7 (zsx7_5);have q645:x9_1 < (l0.length:Int):=oD7 (zsx7_5);obtain ⟨ad645,e645,hx645_0⟩:=Kd.at_int HR0.out x9_1 p645 q645
       cases e645
       replace p645:=eq_true p645;replace q645:=eq_true q645
       go_wp2
       go_roundg k1
       case measure=>have:=HK1.out;omega
       case rel=>exact ⟨(wrap64 (x9_1 + 1)),(zsx7_4),H',⟨by have:=HK1.out;omega⟩,zsx7_23⟩
     ·rw [if_neg c5] at H
      exact absurd H (by simp)
    ·rw [if_neg c4] at H
     exact absurd H (by simp)
   ·rw [if_neg c3] at H
    have c3b0:decide (x9_1 < (l0.length:Int))=false:=decide_eq_false c3;clear c3;obtain rfl:=Option.some.inj H
    go_wp2
    go_ret
    exact ⟨zsx7_4,zsx7_23⟩
end Go.Proofs.Ytbhlffakpneecaa.PFnClosures
end
