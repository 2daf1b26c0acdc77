/- Texts that print.sh has printed for the law FnOre,one function each,put together in one file: contracts of its functions. -/
import Derived.Test.YtomfjhpiemipkaaTMFnOrex0
import Derived.Test.YtomfjhpiemipkaaTMFnOrex1
import Derived.Test.YtomfjhpiemipkaaTMFnOrex3
import Derived.Test.YtomfjhpiemipkaaTMFnOrex4
section
namespace Go.Proofs.Ytomfjhpiemipkaa.PFnOre
open Go.RowKit Go.Proofs.YtomfjhpiemipkaaW.PrintWords Go.Proofs.YtomfjhpiemipkaaW.PrintLast Go.Proofs.YtomfjhpiemipkaaW.PrintMore
attribute [local go_sem] max2_int min2_int max_two min_two max_three min_three max_four min_four   -- for this text's walks alone
set_option linter.unusedVariables false
set_option linter.unusedSimpArgs false
theorem bN_ : type_of% @blk_drewN := @blk_drewN
theorem bW_ : type_of% @blk_drew := @blk_drew
theorem bA_ : type_of% @blk_alloc := @blk_alloc
theorem rA_ : type_of% @Kd.R_alloc := @Kd.R_alloc
theorem rN_ : type_of% @Kd.R_drewN := @Kd.R_drewN
theorem rW_ : type_of% @Kd.R_drew := @Kd.R_drew
theorem aM_ : type_of% @Aside0.mk := @Aside0.mk
theorem rF_ : type_of% @Kd.R_far := @Kd.R_far
theorem bS_ : type_of% @below_set := @below_set
theorem bC_ : type_of% @blk_cell := @blk_cell
theorem kN_ : type_of% @keep_drewN := @keep_drewN
theorem kA_ : type_of% @keep_alloc := @keep_alloc
theorem lA_ : type_of% @below_alloc := @below_alloc
theorem lN_ : type_of% @pw_below_drewN := @pw_below_drewN
theorem yA_ : type_of% @IsS146.alloc := @IsS146.alloc
theorem yN_ : type_of% @IsS146.drewN := @IsS146.drewN
theorem yW_ : type_of% @IsS146.drew := @IsS146.drew
theorem y1_ : type_of% @IsS146.set_1 := @IsS146.set_1
theorem y2_ : type_of% @IsS146.set_2 := @IsS146.set_2
theorem yF_ : type_of% @IsS146.far := @IsS146.far
def spec_l1Cur_anyModel.f (k:Nat) (s0_0:List Int) (s0_1:Int) (s0_2:Int):Option (Int × Int × Int × List Int × List Int × List Int × Int × Int):=(spec_l1Cur_model.f k s0_0 s0_1 s0_2).bind fun bt371=>((spec_grCount.f bt371.1 bt371.2.1 bt371.2.2.1).bind fun t386=>((spec_l1Cur_pick.f s0_0 bt371.2.2.2.2.2.2.1 bt371.2.2.2.2.2.2.2 30).bind fun bt387=>(if bt387.1=0 then ((spec_l1Cur_anyGrid.f s0_0 bt387.2.1 bt387.2.2).bind fun bt390=>(some (bt390.1,bt390.2.1,bt390.2.2.1,bt371.2.2.2.1,bt371.2.2.2.2.1,bt371.2.2.2.2.2.1,bt390.2.2.2.1,bt390.2.2.2.2))) else (if bt387.1=1 then ((spec_l1Cur_pick.f s0_0 bt387.2.1 bt387.2.2 t386).bind fun bt395=>((spec_l1Cur_among.f s0_0 bt395.2.1 bt395.2.2 (([(-1),10000,10001]:List Int))).bind fun bt401=>(if 0≤bt395.1 then (if bt395.1 < (bt371.2.2.2.1.length:Int) then (some (bt371.1,bt371.2.1,bt371.2.2.1,(bt371.2.2.2.1.set (bt395.1:Int).toNat bt401.1),bt371.2.2.2.2.1,bt371.2.2.2.2.2.1,bt401.2.1,bt401.2.2)) else (none)) else (none)))) else (if bt387.1=2 then ((spec_l1Cur_pick.f s0_0 bt387.2.1 bt387.2.2 t386).bind fun bt405=>((spec_l1Cur_among.f s0_0 bt405.2.1 bt405.2.2 (([(-1),1000,1001]:List Int))).bind fun bt411=>(if 0≤bt405.1 then (if bt405.1 < (bt371.2.2.2.2.1.length:Int) then (some (bt371.1,bt371.2.1,bt371.2.2.1,bt371.2.2.2.1,(bt371.2.2.2.2.1.set (bt405.1:Int).toNat bt411.1),bt371.2.2.2.2.2.1,bt411.2.1,bt411.2.2)) else (none)) else (none)))) else (if bt387.1=3 then ((spec_l1Cur_pick.f s0_0 bt387.2.1 bt387.2.2 t386).bind fun bt415=>((spec_l1Cur_among.f s0_0 bt415.2.1 bt415.2.2 (([(-1),4,5]:List Int))).bind fun bt421=>(if 0≤bt415.1 then (if bt415.1 < (bt371.2.2.2.2.2.1.length:Int) then (some (bt371.1,bt371.2.1,bt371.2.2.1,bt371.2.2.2.1,bt371.2.2.2.2.1,(bt371.2.2.2.2.2.1.set (bt415.1:Int).toNat bt421.1),bt421.2.1,bt421.2.2)) else (none)) else (none)))) else (if bt387.1=4 then (if bt371.2.2.2.2.2.1.length < 17592186044416 then (some (bt371.1,bt371.2.1,bt371.2.2.1,bt371.2.2.2.1,bt371.2.2.2.2.1,(bt371.2.2.2.2.2.1 ++ [0]),bt387.2.1,bt387.2.2)) else (none)) else (some (bt371.1,bt371.2.1,bt371.2.2.1,bt371.2.2.2.1,bt371.2.2.2.2.1,bt371.2.2.2.2.2.1,bt387.2.1,bt387.2.2)))))))))
def spec_l1Cur_anyModel.T7:Bool × List (List Nat × List Nat):=(true,[([],[]),([0],[0]),([],[]),([],[]),([2,3],[2,3]),([],[]),([],[]),([5,6,4],[5,6]),([1,4,0,1,2,3,4,5,6,7],[1,4]),([8,7,7,0,1,2,3,4,5,6,7],[7,8])])
def spec_l1Cur_anyModel.B7:List Nat:=[0,1,0,0,12,0,0,124,255,511]
theorem spec_l1Cur_anyModel.tab7:rtab .any (opsOf Try.f134 7)=spec_l1Cur_anyModel.T7:=by kernel_rfl
theorem spec_l1Cur_anyModel.bits7:waitsOk spec_l1Cur_anyModel.T7.2 spec_l1Cur_anyModel.B7=true:=by kernel_rfl
def spec_l1Cur_anyModel.T9:Bool × List (List Nat × List Nat):=(true,[([],[]),([0],[0]),([],[]),([],[]),([2,3],[2,3]),([],[]),([],[]),([5,6,4],[5,6]),([1,4,0,1,2,3,4,5,6,7],[1,4]),([8,7,7,0,1,2,3,4,5,6,7],[7,8])])
def spec_l1Cur_anyModel.B9:List Nat:=[0,1,0,0,12,0,0,124,255,511]
theorem spec_l1Cur_anyModel.tab9:rtab .any (opsOf Try.f134 9)=spec_l1Cur_anyModel.T9:=by kernel_rfl
theorem spec_l1Cur_anyModel.bits9:waitsOk spec_l1Cur_anyModel.T9.2 spec_l1Cur_anyModel.B9=true:=by kernel_rfl
def spec_l1Cur_anyModel.T11:Bool × List (List Nat × List Nat):=(true,[([],[]),([0],[0]),([],[]),([],[]),([2,3],[2,3]),([],[]),([],[]),([5,6,4],[5,6]),([1,4,0,1,2,3,4,5,6,7],[1,4]),([8,7,7,0,1,2,3,4,5,6,7],[7,8])])
def spec_l1Cur_anyModel.B11:List Nat:=[0,1,0,0,12,0,0,124,255,511]
theorem spec_l1Cur_anyModel.tab11:rtab .any (opsOf Try.f134 11)=spec_l1Cur_anyModel.T11:=by kernel_rfl
theorem spec_l1Cur_anyModel.bits11:waitsOk spec_l1Cur_anyModel.T11.2 spec_l1Cur_anyModel.B11=true:=by kernel_rfl
set_option maxHeartbeats 8000000 in
set_option maxRecDepth 100000 in
theorem spec_l1Cur_anyModel.calls (k:Nat) (g:Nat) (s0_0:List Int) (s0_1:Int) (s0_2:Int) (r1:Int) (r2:Int) (r3:Int) (r4:List Int) (r5:List Int) (r6:List Int) (r7:Int) (r8:Int) (w0 w:World) (hI:IsS146 w0 w g s0_0 s0_1 s0_2) (hB:Below w0.heap.size w0 w) (h:spec_l1Cur_anyModel.f k s0_0 s0_1 s0_2=some (r1,r2,r3,r4,r5,r6,r7,r8)) :
  Calls Try.prog 134 #[.pointer (some ⟨g,0,none⟩)] w fun e w'=>∃ v3_ v4_ v5_:Value,e=.returned (.agg #[.int .i64 r1,.int .i64 r2,.int .i64 r3,v3_,v4_,v5_])∧Kd.R (Kd.int .i64) 3 w' w.heap.size (fun k_=>some k_≠(v4_:Value).ownBlock∧some k_≠(v5_:Value).ownBlock) v3_ r4∧Kd.R (Kd.int .i64) 3 w' w.heap.size (fun k_=>some k_≠(v3_:Value).ownBlock∧some k_≠(v5_:Value).ownBlock) v4_ r5∧Kd.R (Kd.int .i64) 3 w' w.heap.size (fun k_=>some k_≠(v3_:Value).ownBlock∧some k_≠(v4_:Value).ownBlock) v5_ r6∧IsS146 w0 w' g s0_0 r7 r8∧Below w0.heap.size w0 w'∧KeepBut w w' g none:=by
 have hu34:=Try.underlying34
 have hu32:=Try.underlying32
 have HI0:=aM_ hI
 have HK:=aM_ (KeepBut.refl w g none)
 have HL:=aM_ hB.size
 clear hI
 have HW0:=aM_ hB.size
 have HB:=aM_ hB
 clear hB
 have H:((spec_l1Cur_model.f k s0_0 s0_1 s0_2).bind fun bt371=>((spec_grCount.f bt371.1 bt371.2.1 bt371.2.2.1).bind fun t386=>((spec_l1Cur_pick.f s0_0 bt371.2.2.2.2.2.2.1 bt371.2.2.2.2.2.2.2 30).bind fun bt387=>(if bt387.1=0 then ((spec_l1Cur_anyGrid.f s0_0 bt387.2.1 bt387.2.2).bind fun bt390=>(some (bt390.1,bt390.2.1,bt390.2.2.1,bt371.2.2.2.1,bt371.2.2.2.2.1,bt371.2.2.2.2.2.1,bt390.2.2.2.1,bt390.2.2.2.2))) else (if bt387.1=1 then ((spec_l1Cur_pick.f s0_0 bt387.2.1 bt387.2.2 t386).bind fun bt395=>((spec_l1Cur_among.f s0_0 bt395.2.1 bt395.2.2 (([(-1),10000,10001]:List Int))).bind fun bt401=>(if 0≤bt395.1 then (if bt395.1 < (bt371.2.2.2.1.length:Int) then (some (bt371.1,bt371.2.1,bt371.2.2.1,(bt371.2.2.2.1.set (bt395.1:Int).toNat bt401.1),bt371.2.2.2.2.1,bt371.2.2.2.2.2.1,bt401.2.1,bt401.2.2)) else (none)) else (none)))) else (if bt387.1=2 then ((spec_l1Cur_pick.f s0_0 bt387.2.1 bt387.2.2 t386).bind fun bt405=>((spec_l1Cur_among.f s0_0 bt405.2.1 bt405.2.2 (([(-1),1000,1001]:List Int))).bind fun bt411=>(if 0≤bt405.1 then (if bt405.1 < (bt371.2.2.2.2.1.length:Int) then (some (bt371.1,bt371.2.1,bt371.2.2.1,bt371.2.2.2.1,(bt371.2.2.2.2.1.set (bt405.1:Int).toNat bt411.1),bt371.2.2.2.2.2.1,bt411.2.1,bt411.2.2)) else (none)) else (none)))) else (if bt387.1=3 then ((spec_l1Cur_pick.f s0_0 bt387.2.1 bt387.2.2 t386).bind fun bt415=>((spec_l1Cur_among.f s0_0 bt415.2.1 bt415.2.2 (([(-1),4,5]:List Int))).bind fun bt421=>(if 0≤bt415.1 then (if bt415.1 < (bt371.2.2.2.2.2.1.length:Int) then (some (bt371.1,bt371.2.1,bt371.2.2.1,bt371.2.2.2.1,bt371.2.2.2.2.1,(bt371.2.2.2.2.2.1.set (bt415.1:Int).toNat bt421.1),bt421.2.1,bt421.2.2)) else (none)) else (none)))) else (if bt387.1=4 then (if bt371.2.2.2.2.2.1.length < 17592186044416 then (some (bt371.1,bt371.2.1,bt371.2.2.1,bt371.2.2.2.1,bt371.2.2.2.2.1,(bt371.2.2.2.2.2.1 ++ [0]),bt387.2.1,bt387.2.2)) else (none)) else (some (bt371.1,bt371.2.1,bt371.2.2.1,bt371.2.2.2.1,bt371.2.2.2.2.1,bt371.2.2.2.2.2.1,bt387.2.1,bt387.2.2))))))))))=some (r1,r2,r3,r4,r5,r6,r7,r8):=h
 clear h
 replace H:=Option.bind_eq_some_iff.mp H
 obtain ⟨⟨t371,t372,t373,t374,t377,t380,t383,t384⟩,A20,H⟩:=H
 replace H:((spec_grCount.f t371 t372 t373).bind fun t386=>((spec_l1Cur_pick.f s0_0 t383 t384 30).bind fun bt387=>(if bt387.1=0 then ((spec_l1Cur_anyGrid.f s0_0 bt387.2.1 bt387.2.2).bind fun bt390=>(some (bt390.1,bt390.2.1,bt390.2.2.1,t374,t377,t380,bt390.2.2.2.1,bt390.2.2.2.2))) else (if bt387.1=1 then ((spec_l1Cur_pick.f s0_0 bt387.2.1 bt387.2.2 t386).bind fun bt395=>((spec_l1Cur_among.f s0_0 bt395.2.1 bt395.2.2 (([(-1),10000,10001]:List Int))).bind fun bt401=>(if 0≤bt395.1 then (if bt395.1 < (t374.length:Int) then (some (t371,t372,t373,(t374.set (bt395.1:Int).toNat bt401.1),t377,t380,bt401.2.1,bt401.2.2)) else (none)) else (none)))) else (if bt387.1=2 then ((spec_l1Cur_pick.f s0_0 bt387.2.1 bt387.2.2 t386).bind fun bt405=>((spec_l1Cur_among.f s0_0 bt405.2.1 bt405.2.2 (([(-1),1000,1001]:List Int))).bind fun bt411=>(if 0≤bt405.1 then (if bt405.1 < (t377.length:Int) then (some (t371,t372,t373,t374,(t377.set (bt405.1:Int).toNat bt411.1),t380,bt411.2.1,bt411.2.2)) else (none)) else (none)))) else (if bt387.1=3 then ((spec_l1Cur_pick.f s0_0 bt387.2.1 bt387.2.2 t386).bind fun bt415=>((spec_l1Cur_among.f s0_0 bt415.2.1 bt415.2.2 (([(-1),4,5]:List Int))).bind fun bt421=>(if 0≤bt415.1 then (if bt415.1 < (t380.length:Int) then (some (t371,t372,t373,t374,t377,(t380.set (bt415.1:Int).toNat bt421.1),bt421.2.1,bt421.2.2)) else (none)) else (none)))) else (if bt387.1=4 then (if t380.length < 17592186044416 then (some (t371,t372,t373,t374,t377,(t380 ++ [0]),bt387.2.1,bt387.2.2)) else (none)) else (some (t371,t372,t373,t374,t377,t380,bt387.2.1,bt387.2.2)))))))))=some (r1,r2,r3,r4,r5,r6,r7,r8):=H
 have A2:=aM_ A20
 clear A20
 replace H:=Option.bind_eq_some_iff.mp H
 obtain ⟨t386,A30,H⟩:=H
 replace H:((spec_l1Cur_pick.f s0_0 t383 t384 30).bind fun bt387=>(if bt387.1=0 then ((spec_l1Cur_anyGrid.f s0_0 bt387.2.1 bt387.2.2).bind fun bt390=>(some (bt390.1,bt390.2.1,bt390.2.2.1,t374,t377,t380,bt390.2.2.2.1,bt390.2.2.2.2))) else (if bt387.1=1 then ((spec_l1Cur_pick.f s0_0 bt387.2.1 bt387.2.2 t386).bind fun bt395=>((spec_l1Cur_among.f s0_0 bt395.2.1 bt395.2.2 (([(-1),10000,10001]:List Int))).bind fun bt401=>(if 0≤bt395.1 then (if bt395.1 < (t374.length:Int) then (some (t371,t372,t373,(t374.set (bt395.1:Int).toNat bt401.1),t377,t380,bt401.2.1,bt401.2.2)) else (none)) else (none)))) else (if bt387.1=2 then ((spec_l1Cur_pick.f s0_0 bt387.2.1 bt387.2.2 t386).bind fun bt405=>((spec_l1Cur_among.f s0_0 bt405.2.1 bt405.2.2 (([(-1),1000,1001]:List Int))).bind fun bt411=>(if 0≤bt405.1 then (if bt405.1 < (t377.length:Int) then (some (t371,t372,t373,t374,(t377.set (bt405.1:Int).toNat bt411.1),t380,bt411.2.1,bt411.2.2)) else (none)) else (none)))) else (if bt387.1=3 then ((spec_l1Cur_pick.f s0_0 bt387.2.1 bt387.2.2 t386).bind fun bt415=>((spec_l1Cur_among.f s0_0 bt415.2.1 bt415.2.2 (([(-1),4,5]:List Int))).bind fun bt421=>(if 0≤bt415.1 then (if bt415.1 < (t380.length:Int) then (some (t371,t372,t373,t374,t377,(t380.set (bt415.1:Int).toNat bt421.1),bt421.2.1,bt421.2.2)) else (none)) else (none)))) else (if bt387.1=4 then (if t380.length < 17592186044416 then (some (t371,t372,t373,t374,t377,(t380 ++ [0]),bt387.2.1,bt387.2.2)) else (none)) else (some (t371,t372,t373,t374,t377,t380,bt387.2.1,bt387.2.2))))))))=some (r1,r2,r3,r4,r5,r6,r7,r8):=H
 have A3:=aM_ A30
 clear A30
 replace H:=Option.bind_eq_some_iff.mp H
 obtain ⟨⟨t387,t388,t389⟩,A40,H⟩:=H
 replace H:(if t387=0 then ((spec_l1Cur_anyGrid.f s0_0 t388 t389).bind fun bt390=>(some (bt390.1,bt390.2.1,bt390.2.2.1,t374,t377,t380,bt390.2.2.2.1,bt390.2.2.2.2))) else (if t387=1 then ((spec_l1Cur_pick.f s0_0 t388 t389 t386).bind fun bt395=>((spec_l1Cur_among.f s0_0 bt395.2.1 bt395.2.2 (([(-1),10000,10001]:List Int))).bind fun bt401=>(if 0≤bt395.1 then (if bt395.1 < (t374.length:Int) then (some (t371,t372,t373,(t374.set (bt395.1:Int).toNat bt401.1),t377,t380,bt401.2.1,bt401.2.2)) else (none)) else (none)))) else (if t387=2 then ((spec_l1Cur_pick.f s0_0 t388 t389 t386).bind fun bt405=>((spec_l1Cur_among.f s0_0 bt405.2.1 bt405.2.2 (([(-1),1000,1001]:List Int))).bind fun bt411=>(if 0≤bt405.1 then (if bt405.1 < (t377.length:Int) then (some (t371,t372,t373,t374,(t377.set (bt405.1:Int).toNat bt411.1),t380,bt411.2.1,bt411.2.2)) else (none)) else (none)))) else (if t387=3 then ((spec_l1Cur_pick.f s0_0 t388 t389 t386).bind fun bt415=>((spec_l1Cur_among.f s0_0 bt415.2.1 bt415.2.2 (([(-1),4,5]:List Int))).bind fun bt421=>(if 0≤bt415.1 then (if bt415.1 < (t380.length:Int) then (some (t371,t372,t373,t374,t377,(t380.set (bt415.1:Int).toNat bt421.1),bt421.2.1,bt421.2.2)) else (none)) else (none)))) else (if t387=4 then (if t380.length < 17592186044416 then (some (t371,t372,t373,t374,t377,(t380 ++ [0]),t388,t389)) else (none)) else (some (t371,t372,t373,t374,t377,t380,t388,t389)))))))=some (r1,r2,r3,r4,r5,r6,r7,r8):=H
 have A4:=aM_ A40
 clear A40
 by_cases c5:t387=0
 ·rw [if_pos c5] at H
  have c5b0:(t387 == 0)=true:=beq_iff_eq.mpr c5
  have c5b1:(t387 != 0)=false:=bne_eq_false_iff_eq.mpr c5
  clear c5
  replace H:=Option.bind_eq_some_iff.mp H
  obtain ⟨⟨t390,t391,t392,t393,t394⟩,A60,H⟩:=H
  replace H:(some (t390,t391,t392,t374,t377,t380,t393,t394))=some (r1,r2,r3,r4,r5,r6,r7,r8):=H
  have A6:=aM_ A60
  clear A60
  simp only [Option.some.injEq,Prod.mk.injEq] at H
  obtain ⟨rfl,rfl,rfl,rfl,rfl,rfl,rfl,rfl⟩:=H
  go_enter Try.func134,Try.ntmps134
  go_wp2_with (first|((with_reducible refine gate_dst (N:=2) rfl ?_);refine box_event ?hg (N:=2) ?hd (cs:=#[.int .i64 0,.int .i64 0,.int .i64 0,.slice none 0 0,.slice none 0 0,.slice none 0 0]) (t:=34) ?hr ?_;(case hd=>rfl);(case hg=>rfl);(case hr=>first|(go_simp;done)|(go_simp;rfl));intro gb370 hg w7 hbox hb;have n0_:=aM_ (IsS146.below (by repeat (first|(with_reducible first|exact HI0.out|apply yA_|apply yN_|apply yW_|apply y1_|apply y2_)|exact HI0.out)) hb);have n1_:=aM_ (KeepBut.trans (by repeat (first|(with_reducible first|exact HK.out|apply KeepBut.set_|apply kN_|apply keep_drew|apply kA_)|exact HK.out)) (KeepBut.of_below hb g none) (.inl rfl));have n2_:=aM_ (below_step (by repeat (first|(with_reducible first|exact HB.out|apply lA_|apply lN_|apply below_drew1|refine bS_ ?_ (IsS146.ge HI0.out))|exact HB.out)) hb);have n3_:=aM_ (hbox);have n4_:=aM_ ((by rw [hg];exact (keep_size (w:=w) (g:=g) (row:=none) (by repeat (first|(with_reducible first|exact HK.out|apply KeepBut.set_|apply kN_|apply keep_drew|apply kA_)|exact HK.out))):w.heap.size≤gb370));have n5_:=aM_ ((Nat.le_trans HW0.out (by rw [hg];exact (keep_size (w:=w) (g:=g) (row:=none) (by repeat (first|(with_reducible first|exact HK.out|apply KeepBut.set_|apply kN_|apply keep_drew|apply kA_)|exact HK.out))):w.heap.size≤gb370):w0.heap.size≤gb370));have n6_:=aM_ ((by rw [hg];exact Nat.ne_of_lt (IsS146.lt (show IsS146 w0 _ g s0_0 s0_1 s0_2 from by repeat (first|(with_reducible first|exact HI0.out|apply yA_|apply yN_|apply yW_|apply y1_|apply y2_)|exact HI0.out))):g≠gb370));have n7_:=aM_ ((by rw [hg];exact Nat.ne_of_gt (IsS146.lt (show IsS146 w0 _ g s0_0 s0_1 s0_2 from by repeat (first|(with_reducible first|exact HI0.out|apply yA_|apply yN_|apply yW_|apply y1_|apply y2_)|exact HI0.out))):gb370≠g));clear HI0;clear HK;clear HB;have HI0:=n0_;have HK:=n1_;have HB:=n2_;have BK370:=n3_;have GW370:=n4_;have GE370:=n5_;have NB0_370:=n6_;have NB370_0:=n7_;clear n0_ n1_ n2_ n3_ n4_ n5_ n6_ n7_;clear hb hbox hg)|((with_reducible refine gate_callee (f:=183) rfl ?_);refine goesL_ (some 6) rfl rfl Try.func183 (by kernel_rfl) rfl #[.pointer (some ⟨g,0,none⟩)] rfl (by (try simp only [List.map_toArray,List.map_cons,List.map_nil]);first|done|rfl|(simp only [List.length_drop,List.length_take];rfl)) ?_;(with_reducible refine (spec_l1Cur_model.calls k g s0_0 s0_1 s0_2 t371 t372 t373 t374 t377 t380 t383 t384 w0 _ ?side1 ?side2 A2.out).mono ?_);(case side1=>repeat (first|(with_reducible first|exact HI0.out|apply yA_|apply yN_|apply yW_|apply y1_|apply y2_|refine yF_ ?_ NB0_370.out _)|exact HI0.out));(case side2=>repeat (first|(with_reducible first|exact HB.out|apply lA_|apply lN_|apply below_drew1|refine bS_ ?_ (IsS146.ge HI0.out)|refine bS_ ?_ GE370.out)|exact HB.out));rintro e w8 ⟨v375,v378,v381,rfl,ho0,ho1,ho2,hi,hb,hk⟩;refine ⟨_,rfl,?_⟩;have n0_:=aM_ (KeepBut.blk hk (g':=gb370) (o:=.cells #[.int .i64 0,.int .i64 0,.int .i64 0,.slice none 0 0,.slice none 0 0,.slice none 0 0] 34 (0,0)) (by (with_reducible repeat (first|refine bN_ ?_ _|refine bW_ ?_|refine bA_ ?_ _));exact BK370.out) NB370_0.out (by simp));have n1_:=aM_ (Kd.R_lower ho0 (keep_size (w:=w) (g:=g) (row:=none) (by repeat (first|(with_reducible first|exact HK.out|apply KeepBut.set_|apply kN_|apply keep_drew|apply kA_|refine keep_far ?_ GW370.out _)|exact HK.out))));have n2_:=aM_ (Kd.R_lower ho1 (keep_size (w:=w) (g:=g) (row:=none) (by repeat (first|(with_reducible first|exact HK.out|apply KeepBut.set_|apply kN_|apply keep_drew|apply kA_|refine keep_far ?_ GW370.out _)|exact HK.out))));have n3_:=aM_ (Kd.R_lower ho2 (keep_size (w:=w) (g:=g) (row:=none) (by repeat (first|(with_reducible first|exact HK.out|apply KeepBut.set_|apply kN_|apply keep_drew|apply kA_|refine keep_far ?_ GW370.out _)|exact HK.out))));have n4_:=aM_ (KeepBut.trans (by repeat (first|(with_reducible first|exact HK.out|apply KeepBut.set_|apply kN_|apply keep_drew|apply kA_|refine keep_far ?_ GW370.out _)|exact HK.out)) hk (.inl rfl));have n5_:=aM_ (hb);have n6_:=aM_ (hi);clear BK370;clear HK;clear HB;clear HI0;have BK370:=n0_;have HO376:=n1_;have HO379:=n2_;have HO382:=n3_;have HK:=n4_;have HB:=n5_;have HI0:=n6_;clear n0_ n1_ n2_ n3_ n4_ n5_ n6_;(try clear hb);(try clear hb2);(try clear hk);(try clear hi);(try clear ho0);(try clear ho1);(try clear ho2))|((with_reducible refine gate_dst (N:=3) rfl ?_);refine box_event ?hg (N:=3) ?hd (cs:=#[.int .i64 0,.int .i64 0,.int .i64 0,.slice none 0 0,.slice none 0 0,.slice none 0 0]) (t:=34) ?hr ?_;(case hd=>rfl);(case hg=>rfl);(case hr=>first|(go_simp;done)|(go_simp;rfl));intro gb385 hg w9 hbox hb;have n0_:=aM_ (Kd.R_below (by (with_reducible repeat (first|apply rA_|apply rN_|apply rW_));exact HO376.out) hb);have n1_:=aM_ (Kd.R_below (by (with_reducible repeat (first|apply rA_|apply rN_|apply rW_));exact HO379.out) hb);have n2_:=aM_ (Kd.R_below (by (with_reducible repeat (first|apply rA_|apply rN_|apply rW_));exact HO382.out) hb);have n3_:=aM_ (IsS146.below (by repeat (first|(with_reducible first|exact HI0.out|apply yA_|apply yN_|apply yW_|apply y1_|apply y2_|refine yF_ ?_ NB0_370.out _)|exact HI0.out)) hb);have n4_:=aM_ (blk_below (g:=gb370) (o:=.cells #[.int .i64 0,.int .i64 0,.int .i64 0,.slice none 0 0,.slice none 0 0,.slice none 0 0] 34 (0,0)) (by (with_reducible repeat (first|refine bN_ ?_ _|refine bW_ ?_|refine bA_ ?_ _));exact BK370.out) hb);have n5_:=aM_ (KeepBut.trans (by repeat (first|(with_reducible first|exact HK.out|apply KeepBut.set_|apply kN_|apply keep_drew|apply kA_|refine keep_far ?_ GW370.out _)|exact HK.out)) (KeepBut.of_below hb g none) (.inl rfl));have n6_:=aM_ (below_step (by repeat (first|(with_reducible first|exact HB.out|apply lA_|apply lN_|apply below_drew1|refine bS_ ?_ (IsS146.ge HI0.out)|refine bS_ ?_ GE370.out)|exact HB.out)) hb);have n7_:=aM_ (hbox);have n8_:=aM_ ((by rw [hg];exact (keep_size (w:=w) (g:=g) (row:=none) (by repeat (first|(with_reducible first|exact HK.out|apply KeepBut.set_|apply kN_|apply keep_drew|apply kA_|refine keep_far ?_ GW370.out _)|exact HK.out))):w.heap.size≤gb385));have n9_:=aM_ ((Nat.le_trans HW0.out (by rw [hg];exact (keep_size (w:=w) (g:=g) (row:=none) (by repeat (first|(with_reducible first|exact HK.out|apply KeepBut.set_|apply kN_|apply keep_drew|apply kA_|refine keep_far ?_ GW370.out _)|exact HK.out))):w.heap.size≤gb385):w0.heap.size≤gb385));have n10_:=aM_ ((by rw [hg];exact Nat.ne_of_lt (blk_lt (g:=gb370) (o:=.cells #[.int .i64 0,.int .i64 0,.int .i64 0,.slice none 0 0,.slice none 0 0,.slice none 0 0] 34 (0,0)) (by (with_reducible repeat (first|refine bN_ ?_ _|refine bW_ ?_|refine bA_ ?_ _));exact BK370.out)):gb370≠gb385));have n11_:=aM_ ((by rw [hg];exact Nat.ne_of_gt (blk_lt (g:=gb370) (o:=.cells #[.int .i64 0,.int .i64 0,.int .i64 0,.slice none 0 0,.slice none 0 0,.slice none 0 0] 34 (0,0)) (by (with_reducible repeat (first|refine bN_ ?_ _|refine bW_ ?_|refine bA_ ?_ _));exact BK370.out)):gb385≠gb370));have n12_:=aM_ ((by rw [hg];exact Nat.ne_of_lt (IsS146.lt (show IsS146 w0 _ g s0_0 t383 t384 from by repeat (first|(with_reducible first|exact HI0.out|apply yA_|apply yN_|apply yW_|apply y1_|apply y2_|refine yF_ ?_ NB0_370.out _)|exact HI0.out))):g≠gb385));have n13_:=aM_ ((by rw [hg];exact Nat.ne_of_gt (IsS146.lt (show IsS146 w0 _ g s0_0 t383 t384 from by repeat (first|(with_reducible first|exact HI0.out|apply yA_|apply yN_|apply yW_|apply y1_|apply y2_|refine yF_ ?_ NB0_370.out _)|exact HI0.out))):gb385≠g));clear HO376;clear HO379;clear HO382;clear HI0;clear BK370;clear HK;clear HB;have HO376:=n0_;have HO379:=n1_;have HO382:=n2_;have HI0:=n3_;have BK370:=n4_;have HK:=n5_;have HB:=n6_;have BK385:=n7_;have GW385:=n8_;have GE385:=n9_;have NB370_385:=n10_;have NB385_370:=n11_;have NB0_385:=n12_;have NB385_0:=n13_;clear n0_ n1_ n2_ n3_ n4_ n5_ n6_ n7_ n8_ n9_ n10_ n11_ n12_ n13_;clear hb hbox hg;have hnb10:=NB385_370.out;have hnc10:=NB370_385.out;have hnb11:=NB385_0.out;have hnc11:=NB0_385.out;have hcz12_0:w9.cell? ⟨gb385,0,none⟩=some (.int .i64 0):=(bC_ BK385.out 0).trans rfl;have hcz12_1:w9.cell? ⟨gb385,1,none⟩=some (.int .i64 0):=(bC_ BK385.out 1).trans rfl;have hcz12_2:w9.cell? ⟨gb385,2,none⟩=some (.int .i64 0):=(bC_ BK385.out 2).trans rfl;have hcz12_3:w9.cell? ⟨gb385,3,none⟩=some (.slice none 0 0):=(bC_ BK385.out 3).trans rfl;have hcz12_4:w9.cell? ⟨gb385,4,none⟩=some (.slice none 0 0):=(bC_ BK385.out 4).trans rfl;have hcz12_5:w9.cell? ⟨gb385,5,none⟩=some (.slice none 0 0):=(bC_ BK385.out 5).trans rfl;have hfz12_0:=blk_frozen BK385.out 0;have hfz12_1:=blk_frozen BK385.out 1;have hfz12_2:=blk_frozen BK385.out 2;have hfz12_3:=blk_frozen BK385.out 3;have hfz12_4:=blk_frozen BK385.out 4;have hfz12_5:=blk_frozen BK385.out 5;obtain ⟨Ao13,co13,eo13⟩:=Kd.R_slice HO376.out;subst eo13;obtain ⟨Ao14,co14,eo14⟩:=Kd.R_slice HO379.out;subst eo14;obtain ⟨Ao15,co15,eo15⟩:=Kd.R_slice HO382.out;subst eo15)|((with_reducible refine gate_callee (f:=160) rfl ?_);refine goesL_ (some 9) rfl rfl Try.func160 (by kernel_rfl) rfl #[.agg #[.int .i64 t371,.int .i64 t372,.int .i64 t373]] rfl (by (try simp only [List.map_toArray,List.map_cons,List.map_nil]);first|done|rfl|(simp only [List.length_drop,List.length_take];rfl)) ?_;(with_reducible refine (spec_grCount.calls t371 t372 t373 t386 _ A3.out).mono ?_);rintro e w16 ⟨rfl,hb⟩;refine ⟨_,rfl,?_⟩;have n0_:=aM_ (Kd.R_below (by (with_reducible repeat (first|apply rA_|apply rN_|apply rW_));exact (Kd.R_mono (rF_ (p:=⟨gb385,5,none⟩) (rF_ (p:=⟨gb385,4,none⟩) (rF_ (p:=⟨gb385,3,none⟩) (rF_ (p:=⟨gb385,2,none⟩) (rF_ (p:=⟨gb385,1,none⟩) (rF_ (p:=⟨gb385,0,none⟩) (Kd.R_types HO376.out BK385.out (by decide)) (fun _ hk=>hk.2) (.int .i64 t371)) (fun _ hk=>hk.2) (.int .i64 t372)) (fun _ hk=>hk.2) (.int .i64 t373)) (fun _ hk=>hk.2) (.slice Ao13 t374.length co13)) (fun _ hk=>hk.2) (.slice Ao14 t377.length co14)) (fun _ hk=>hk.2) (.slice Ao15 t380.length co15)) (fun _ h_=>h_.1))) hb);have n1_:=aM_ (Kd.R_below (by (with_reducible repeat (first|apply rA_|apply rN_|apply rW_));exact (Kd.R_mono (rF_ (p:=⟨gb385,5,none⟩) (rF_ (p:=⟨gb385,4,none⟩) (rF_ (p:=⟨gb385,3,none⟩) (rF_ (p:=⟨gb385,2,none⟩) (rF_ (p:=⟨gb385,1,none⟩) (rF_ (p:=⟨gb385,0,none⟩) (Kd.R_types HO379.out BK385.out (by decide)) (fun _ hk=>hk.2) (.int .i64 t371)) (fun _ hk=>hk.2) (.int .i64 t372)) (fun _ hk=>hk.2) (.int .i64 t373)) (fun _ hk=>hk.2) (.slice Ao13 t374.length co13)) (fun _ hk=>hk.2) (.slice Ao14 t377.length co14)) (fun _ hk=>hk.2) (.slice Ao15 t380.length co15)) (fun _ h_=>h_.1))) hb);have n2_:=aM_ (Kd.R_below (by (with_reducible repeat (first|apply rA_|apply rN_|apply rW_));exact (Kd.R_mono (rF_ (p:=⟨gb385,5,none⟩) (rF_ (p:=⟨gb385,4,none⟩) (rF_ (p:=⟨gb385,3,none⟩) (rF_ (p:=⟨gb385,2,none⟩) (rF_ (p:=⟨gb385,1,none⟩) (rF_ (p:=⟨gb385,0,none⟩) (Kd.R_types HO382.out BK385.out (by decide)) (fun _ hk=>hk.2) (.int .i64 t371)) (fun _ hk=>hk.2) (.int .i64 t372)) (fun _ hk=>hk.2) (.int .i64 t373)) (fun _ hk=>hk.2) (.slice Ao13 t374.length co13)) (fun _ hk=>hk.2) (.slice Ao14 t377.length co14)) (fun _ hk=>hk.2) (.slice Ao15 t380.length co15)) (fun _ h_=>h_.1))) hb);have n3_:=aM_ (IsS146.below (show IsS146 w0 ((((((w9.setCell ⟨gb385,0,none⟩ (.int .i64 t371)).setCell ⟨gb385,1,none⟩ (.int .i64 t372)).setCell ⟨gb385,2,none⟩ (.int .i64 t373)).setCell ⟨gb385,3,none⟩ (.slice Ao13 t374.length co13)).setCell ⟨gb385,4,none⟩ (.slice Ao14 t377.length co14)).setCell ⟨gb385,5,none⟩ (.slice Ao15 t380.length co15)) g s0_0 t383 t384 from by repeat (first|(with_reducible first|exact HI0.out|apply yA_|apply yN_|apply yW_|apply y1_|apply y2_|refine yF_ ?_ NB0_370.out _|refine yF_ ?_ NB0_385.out _)|exact HI0.out)) hb);have n4_:=aM_ (blk_below (g:=gb370) (o:=.cells #[.int .i64 0,.int .i64 0,.int .i64 0,.slice none 0 0,.slice none 0 0,.slice none 0 0] 34 (0,0)) (by (with_reducible repeat (first|refine bN_ ?_ _|refine bW_ ?_|refine bA_ ?_ _));refine blk_far ?_ NB370_385.out _;(with_reducible repeat (first|refine bN_ ?_ _|refine bW_ ?_|refine bA_ ?_ _));refine blk_far ?_ NB370_385.out _;(with_reducible repeat (first|refine bN_ ?_ _|refine bW_ ?_|refine bA_ ?_ _));refine blk_far ?_ NB370_385.out _;(with_reducible repeat (first|refine bN_ ?_ _|refine bW_ ?_|refine bA_ ?_ _));refine blk_far ?_ NB370_385.out _;(with_reducible repeat (first|refine bN_ ?_ _|refine bW_ ?_|refine bA_ ?_ _));refine blk_far ?_ NB370_385.out _;(with_reducible repeat (first|refine bN_ ?_ _|refine bW_ ?_|refine bA_ ?_ _));refine blk_far ?_ NB370_385.out _;(with_reducible repeat (first|refine bN_ ?_ _|refine bW_ ?_|refine bA_ ?_ _));exact BK370.out) hb);have n5_:=aM_ (blk_below (g:=gb385) (o:=.cells #[.int .i64 t371,.int .i64 t372,.int .i64 t373,.slice Ao13 t374.length co13,.slice Ao14 t377.length co14,.slice Ao15 t380.length co15] 34 (0,0)) (by (with_reducible repeat (first|refine bN_ ?_ _|refine bW_ ?_|refine bA_ ?_ _));refine blk_put (cs:=#[.int .i64 t371,.int .i64 t372,.int .i64 t373,.slice Ao13 t374.length co13,.slice Ao14 t377.length co14,.slice none 0 0]) ?_ 5 _ rfl;(with_reducible repeat (first|refine bN_ ?_ _|refine bW_ ?_|refine bA_ ?_ _));refine blk_put (cs:=#[.int .i64 t371,.int .i64 t372,.int .i64 t373,.slice Ao13 t374.length co13,.slice none 0 0,.slice none 0 0]) ?_ 4 _ rfl;(with_reducible repeat (first|refine bN_ ?_ _|refine bW_ ?_|refine bA_ ?_ _));refine blk_put (cs:=#[.int .i64 t371,.int .i64 t372,.int .i64 t373,.slice none 0 0,.slice none 0 0,.slice none 0 0]) ?_ 3 _ rfl;(with_reducible repeat (first|refine bN_ ?_ _|refine bW_ ?_|refine bA_ ?_ _));refine blk_put (cs:=#[.int .i64 t371,.int .i64 t372,.int .i64 0,.slice none 0 0,.slice none 0 0,.slice none 0 0]) ?_ 2 _ rfl;(with_reducible repeat (first|refine bN_ ?_ _|refine bW_ ?_|refine bA_ ?_ _));refine blk_put (cs:=#[.int .i64 t371,.int .i64 0,.int .i64 0,.slice none 0 0,.slice none 0 0,.slice none 0 0]) ?_ 1 _ rfl;(with_reducible repeat (first|refine bN_ ?_ _|refine bW_ ?_|refine bA_ ?_ _));refine blk_put (cs:=#[.int .i64 0,.int .i64 0,.int .i64 0,.slice none 0 0,.slice none 0 0,.slice none 0 0]) ?_ 0 _ rfl;(with_reducible repeat (first|refine bN_ ?_ _|refine bW_ ?_|refine bA_ ?_ _));exact BK385.out) hb);have n6_:=aM_ (KeepBut.trans (by repeat (first|(with_reducible first|exact HK.out|apply KeepBut.set_|apply kN_|apply keep_drew|apply kA_|refine keep_far ?_ GW370.out _|refine keep_far ?_ GW385.out _)|exact HK.out)) (KeepBut.of_below hb g none) (.inl rfl));have n7_:=aM_ (below_step (by repeat (first|(with_reducible first|exact HB.out|apply lA_|apply lN_|apply below_drew1|refine bS_ ?_ (IsS146.ge HI0.out)|refine bS_ ?_ GE370.out|refine bS_ ?_ GE385.out)|exact HB.out)) hb);clear HO376;clear HO379;clear HO382;clear HI0;clear BK370;clear BK385;clear HK;clear HB;have HO376:=n0_;have HO379:=n1_;have HO382:=n2_;have HI0:=n3_;have BK370:=n4_;have BK385:=n5_;have HK:=n6_;have HB:=n7_;clear n0_ n1_ n2_ n3_ n4_ n5_ n6_ n7_;(try clear hb);(try clear hb2);(try clear hk);(try clear hi))|((with_reducible refine gate_callee (f:=135) rfl ?_);refine goesL_ (some 11) rfl rfl Try.func135 (by kernel_rfl) rfl #[.pointer (some ⟨g,0,none⟩),.int .i64 30] rfl (by (try simp only [List.map_toArray,List.map_cons,List.map_nil]);first|done|rfl|(simp only [List.length_drop,List.length_take];rfl)) ?_;(with_reducible refine (spec_l1Cur_pick.calls g s0_0 t383 t384 30 t387 t388 t389 w0 _ ?side1 ?side2 A4.out).mono ?_);(case side1=>repeat (first|(with_reducible first|exact HI0.out|apply yA_|apply yN_|apply yW_|apply y1_|apply y2_|refine yF_ ?_ NB0_370.out _|refine yF_ ?_ NB0_385.out _)|exact HI0.out));(case side2=>repeat (first|(with_reducible first|exact HB.out|apply lA_|apply lN_|apply below_drew1|refine bS_ ?_ (IsS146.ge HI0.out)|refine bS_ ?_ GE370.out|refine bS_ ?_ GE385.out)|exact HB.out));rintro e w17 ⟨rfl,hi,hb,hk⟩;refine ⟨_,rfl,?_⟩;have n0_:=aM_ (KeepBut.blk hk (g':=gb370) (o:=.cells #[.int .i64 0,.int .i64 0,.int .i64 0,.slice none 0 0,.slice none 0 0,.slice none 0 0] 34 (0,0)) (by (with_reducible repeat (first|refine bN_ ?_ _|refine bW_ ?_|refine bA_ ?_ _));exact BK370.out) NB370_0.out (by simp));have n1_:=aM_ (Kd.R_mono (Kd.R_keep (IsS146.apart (show IsS146 w0 _ g s0_0 t383 t384 from by repeat (first|(with_reducible first|exact HI0.out|apply yA_|apply yN_|apply yW_|apply y1_|apply y2_|refine yF_ ?_ NB0_370.out _|refine yF_ ?_ NB0_385.out _)|exact HI0.out)) (by (with_reducible repeat (first|apply rA_|apply rN_|apply rW_));exact HO376.out) (by decide)) hk (fun _ h=>h.2)) (fun _ h=>h.1));have n2_:=aM_ (Kd.R_mono (Kd.R_keep (IsS146.apart (show IsS146 w0 _ g s0_0 t383 t384 from by repeat (first|(with_reducible first|exact HI0.out|apply yA_|apply yN_|apply yW_|apply y1_|apply y2_|refine yF_ ?_ NB0_370.out _|refine yF_ ?_ NB0_385.out _)|exact HI0.out)) (by (with_reducible repeat (first|apply rA_|apply rN_|apply rW_));exact HO379.out) (by decide)) hk (fun _ h=>h.2)) (fun _ h=>h.1));have n3_:=aM_ (Kd.R_mono (Kd.R_keep (IsS146.apart (show IsS146 w0 _ g s0_0 t383 t384 from by repeat (first|(with_reducible first|exact HI0.out|apply yA_|apply yN_|apply yW_|apply y1_|apply y2_|refine yF_ ?_ NB0_370.out _|refine yF_ ?_ NB0_385.out _)|exact HI0.out)) (by (with_reducible repeat (first|apply rA_|apply rN_|apply rW_));exact HO382.out) (by decide)) hk (fun _ h=>h.2)) (fun _ h=>h.1));have n4_:=aM_ (KeepBut.blk hk (g':=gb385) (o:=.cells #[.int .i64 t371,.int .i64 t372,.int .i64 t373,.slice Ao13 t374.length co13,.slice Ao14 t377.length co14,.slice Ao15 t380.length co15] 34 (0,0)) (by (with_reducible repeat (first|refine bN_ ?_ _|refine bW_ ?_|refine bA_ ?_ _));exact BK385.out) NB385_0.out (by simp));have n5_:=aM_ (KeepBut.trans (by repeat (first|(with_reducible first|exact HK.out|apply KeepBut.set_|apply kN_|apply keep_drew|apply kA_|refine keep_far ?_ GW370.out _|refine keep_far ?_ GW385.out _)|exact HK.out)) hk (.inl rfl));have n6_:=aM_ (hb);have n7_:=aM_ (hi);clear BK370;clear HO376;clear HO379;clear HO382;clear BK385;clear HK;clear HB;clear HI0;have BK370:=n0_;have HO376:=n1_;have HO379:=n2_;have HO382:=n3_;have BK385:=n4_;have HK:=n5_;have HB:=n6_;have HI0:=n7_;clear n0_ n1_ n2_ n3_ n4_ n5_ n6_ n7_;(try clear hb);(try clear hb2);(try clear hk);(try clear hi))|((with_reducible refine gate_callee (f:=184) rfl ?_);refine goesL_ (some 15) rfl rfl Try.func184 (by kernel_rfl) rfl #[.pointer (some ⟨g,0,none⟩)] rfl (by (try simp only [List.map_toArray,List.map_cons,List.map_nil]);first|done|rfl|(simp only [List.length_drop,List.length_take];rfl)) ?_;(with_reducible refine (spec_l1Cur_anyGrid.calls g s0_0 t388 t389 t390 t391 t392 t393 t394 w0 _ ?side1 ?side2 A6.out).mono ?_);(case side1=>repeat (first|(with_reducible first|exact HI0.out|apply yA_|apply yN_|apply yW_|apply y1_|apply y2_|refine yF_ ?_ NB0_370.out _|refine yF_ ?_ NB0_385.out _)|exact HI0.out));(case side2=>repeat (first|(with_reducible first|exact HB.out|apply lA_|apply lN_|apply below_drew1|refine bS_ ?_ (IsS146.ge HI0.out)|refine bS_ ?_ GE370.out|refine bS_ ?_ GE385.out)|exact HB.out));rintro e w18 ⟨rfl,hi,hb,hk⟩;refine ⟨_,rfl,?_⟩;have n0_:=aM_ (KeepBut.blk hk (g':=gb370) (o:=.cells #[.int .i64 0,.int .i64 0,.int .i64 0,.slice none 0 0,.slice none 0 0,.slice none 0 0] 34 (0,0)) (by (with_reducible repeat (first|refine bN_ ?_ _|refine bW_ ?_|refine bA_ ?_ _));exact BK370.out) NB370_0.out (by simp));have n1_:=aM_ (Kd.R_mono (Kd.R_keep (IsS146.apart (show IsS146 w0 _ g s0_0 t388 t389 from by repeat (first|(with_reducible first|exact HI0.out|apply yA_|apply yN_|apply yW_|apply y1_|apply y2_|refine yF_ ?_ NB0_370.out _|refine yF_ ?_ NB0_385.out _)|exact HI0.out)) (by (with_reducible repeat (first|apply rA_|apply rN_|apply rW_));exact HO376.out) (by decide)) hk (fun _ h=>h.2)) (fun _ h=>h.1));have n2_:=aM_ (Kd.R_mono (Kd.R_keep (IsS146.apart (show IsS146 w0 _ g s0_0 t388 t389 from by repeat (first|(with_reducible first|exact HI0.out|apply yA_|apply yN_|apply yW_|apply y1_|apply y2_|refine yF_ ?_ NB0_370.out _|refine yF_ ?_ NB0_385.out _)|exact HI0.out)) (by (with_reducible repeat (first|apply rA_|apply rN_|apply rW_));exact HO379.out) (by decide)) hk (fun _ h=>h.2)) (fun _ h=>h.1));have n3_:=aM_ (Kd.R_mono (Kd.R_keep (IsS146.apart (show IsS146 w0 _ g s0_0 t388 t389 from by repeat (first|(with_reducible first|exact HI0.out|apply yA_|apply yN_|apply yW_|apply y1_|apply y2_|refine yF_ ?_ NB0_370.out _|refine yF_ ?_ NB0_385.out _)|exact HI0.out)) (by (with_reducible repeat (first|apply rA_|apply rN_|apply rW_));exact HO382.out) (by decide)) hk (fun _ h=>h.2)) (fun _ h=>h.1));have n4_:=aM_ (KeepBut.blk hk (g':=gb385) (o:=.cells #[.int .i64 t371,.int .i64 t372,.int .i64 t373,.slice Ao13 t374.length co13,.slice Ao14 t377.length co14,.slice Ao15 t380.length co15] 34 (0,0)) (by (with_reducible repeat (first|refine bN_ ?_ _|refine bW_ ?_|refine bA_ ?_ _));exact BK385.out) NB385_0.out (by simp));have n5_:=aM_ (KeepBut.trans (by repeat (first|(with_reducible first|exact HK.out|apply KeepBut.set_|apply kN_|apply keep_drew|apply kA_|refine keep_far ?_ GW370.out _|refine keep_far ?_ GW385.out _)|exact HK.out)) hk (.inl rfl));have n6_:=aM_ (hb);have n7_:=aM_ (hi);clear BK370;clear HO376;clear HO379;clear HO382;clear BK385;clear HK;clear HB;clear HI0;have BK370:=n0_;have HO376:=n1_;have HO379:=n2_;have HO382:=n3_;have BK385:=n4_;have HK:=n5_;have HB:=n6_;have HI0:=n7_;clear n0_ n1_ n2_ n3_ n4_ n5_ n6_ n7_;(try clear hb);(try clear hb2);(try clear hk);(try clear hi);have hcz19_0:w18.cell? ⟨gb385,0,none⟩=some (.int .i64 t371):=(bC_ BK385.out 0).trans rfl;have hcz19_1:w18.cell? ⟨gb385,1,none⟩=some (.int .i64 t372):=(bC_ BK385.out 1).trans rfl;have hcz19_2:w18.cell? ⟨gb385,2,none⟩=some (.int .i64 t373):=(bC_ BK385.out 2).trans rfl;have hcz19_3:w18.cell? ⟨gb385,3,none⟩=some (.slice Ao13 t374.length co13):=(bC_ BK385.out 3).trans rfl;have hcz19_4:w18.cell? ⟨gb385,4,none⟩=some (.slice Ao14 t377.length co14):=(bC_ BK385.out 4).trans rfl;have hcz19_5:w18.cell? ⟨gb385,5,none⟩=some (.slice Ao15 t380.length co15):=(bC_ BK385.out 5).trans rfl;have hfz19_0:=blk_frozen BK385.out 0;have hfz19_1:=blk_frozen BK385.out 1;have hfz19_2:=blk_frozen BK385.out 2;have hfz19_3:=blk_frozen BK385.out 3;have hfz19_4:=blk_frozen BK385.out 4;have hfz19_5:=blk_frozen BK385.out 5;have hnb20:=NB370_0.out;have hnc20:=NB0_370.out;have hcz21_0:w18.cell? ⟨gb370,0,none⟩=some (.int .i64 0):=(bC_ BK370.out 0).trans rfl;have hcz21_1:w18.cell? ⟨gb370,1,none⟩=some (.int .i64 0):=(bC_ BK370.out 1).trans rfl;have hcz21_2:w18.cell? ⟨gb370,2,none⟩=some (.int .i64 0):=(bC_ BK370.out 2).trans rfl;have hcz21_3:w18.cell? ⟨gb370,3,none⟩=some (.slice none 0 0):=(bC_ BK370.out 3).trans rfl;have hcz21_4:w18.cell? ⟨gb370,4,none⟩=some (.slice none 0 0):=(bC_ BK370.out 4).trans rfl;have hcz21_5:w18.cell? ⟨gb370,5,none⟩=some (.slice none 0 0):=(bC_ BK370.out 5).trans rfl;have hfz21_0:=blk_frozen BK370.out 0;have hfz21_1:=blk_frozen BK370.out 1;have hfz21_2:=blk_frozen BK370.out 2;have hfz21_3:=blk_frozen BK370.out 3;have hfz21_4:=blk_frozen BK370.out 4;have hfz21_5:=blk_frozen BK370.out 5))
  refine bodyPost_ret (results_cell_row rfl _ _ gb370 34 #[.int .i64 t390,.int .i64 t391,.int .i64 t392,.slice Ao13 t374.length co13,.slice Ao14 t377.length co14,.slice Ao15 t380.length co15] (0,0) _ rfl (by (with_reducible repeat (first|refine bN_ ?_ _|refine bW_ ?_|refine bA_ ?_ _));refine blk_put (cs:=#[.int .i64 t390,.int .i64 t391,.int .i64 t392,.slice Ao13 t374.length co13,.slice Ao14 t377.length co14,.slice none 0 0]) ?_ 5 _ rfl;(with_reducible repeat (first|refine bN_ ?_ _|refine bW_ ?_|refine bA_ ?_ _));refine blk_put (cs:=#[.int .i64 t390,.int .i64 t391,.int .i64 t392,.slice Ao13 t374.length co13,.slice none 0 0,.slice none 0 0]) ?_ 4 _ rfl;(with_reducible repeat (first|refine bN_ ?_ _|refine bW_ ?_|refine bA_ ?_ _));refine blk_put (cs:=#[.int .i64 t390,.int .i64 t391,.int .i64 t392,.slice none 0 0,.slice none 0 0,.slice none 0 0]) ?_ 3 _ rfl;(with_reducible repeat (first|refine bN_ ?_ _|refine bW_ ?_|refine bA_ ?_ _));refine blk_put (cs:=#[.int .i64 t390,.int .i64 t391,.int .i64 0,.slice none 0 0,.slice none 0 0,.slice none 0 0]) ?_ 2 _ rfl;(with_reducible repeat (first|refine bN_ ?_ _|refine bW_ ?_|refine bA_ ?_ _));refine blk_put (cs:=#[.int .i64 t390,.int .i64 0,.int .i64 0,.slice none 0 0,.slice none 0 0,.slice none 0 0]) ?_ 1 _ rfl;(with_reducible repeat (first|refine bN_ ?_ _|refine bW_ ?_|refine bA_ ?_ _));refine blk_put (cs:=#[.int .i64 0,.int .i64 0,.int .i64 0,.slice none 0 0,.slice none 0 0,.slice none 0 0]) ?_ 0 _ rfl;(with_reducible repeat (first|refine bN_ ?_ _|refine bW_ ?_|refine bA_ ?_ _));refine blk_far ?_ NB370_385.out _;(with_reducible repeat (first|refine bN_ ?_ _|refine bW_ ?_|refine bA_ ?_ _));refine blk_far ?_ NB370_385.out _;(with_reducible repeat (first|refine bN_ ?_ _|refine bW_ ?_|refine bA_ ?_ _));refine blk_far ?_ NB370_385.out _;(with_reducible repeat (first|refine bN_ ?_ _|refine bW_ ?_|refine bA_ ?_ _));exact BK370.out) Try.underlying34 rfl (by kernel_rfl)) rfl ?_
  exact ⟨_,_,_,by first|rfl|(simp [errW_none,errW_some] <;> rfl)|(simp [*,errW_none,errW_some] <;> rfl),by (with_reducible repeat (first|apply rA_|apply rN_|apply rW_));exact Kd.R_mono (rF_ (p:=⟨gb370,5,none⟩) (rF_ (p:=⟨gb370,4,none⟩) (rF_ (p:=⟨gb370,3,none⟩) (rF_ (p:=⟨gb370,2,none⟩) (rF_ (p:=⟨gb370,1,none⟩) (rF_ (p:=⟨gb370,0,none⟩) (rF_ (p:=⟨gb385,2,none⟩) (rF_ (p:=⟨gb385,1,none⟩) (rF_ (p:=⟨gb385,0,none⟩) (Kd.R_types (Kd.R_types HO376.out BK385.out (by decide)) BK370.out (by decide)) (fun _ hk=>hk.1.2) (.int .i64 t390)) (fun _ hk=>hk.1.2) (.int .i64 t391)) (fun _ hk=>hk.1.2) (.int .i64 t392)) (fun _ hk=>hk.2) (.int .i64 t390)) (fun _ hk=>hk.2) (.int .i64 t391)) (fun _ hk=>hk.2) (.int .i64 t392)) (fun _ hk=>hk.2) (.slice Ao13 t374.length co13)) (fun _ hk=>hk.2) (.slice Ao14 t377.length co14)) (fun _ hk=>hk.2) (.slice Ao15 t380.length co15)) (fun _ hk=>⟨hk.1.1.1,hk.1.1.2⟩),by (with_reducible repeat (first|apply rA_|apply rN_|apply rW_));exact Kd.R_mono (rF_ (p:=⟨gb370,5,none⟩) (rF_ (p:=⟨gb370,4,none⟩) (rF_ (p:=⟨gb370,3,none⟩) (rF_ (p:=⟨gb370,2,none⟩) (rF_ (p:=⟨gb370,1,none⟩) (rF_ (p:=⟨gb370,0,none⟩) (rF_ (p:=⟨gb385,2,none⟩) (rF_ (p:=⟨gb385,1,none⟩) (rF_ (p:=⟨gb385,0,none⟩) (Kd.R_types (Kd.R_types HO379.out BK385.out (by decide)) BK370.out (by decide)) (fun _ hk=>hk.1.2) (.int .i64 t390)) (fun _ hk=>hk.1.2) (.int .i64 t391)) (fun _ hk=>hk.1.2) (.int .i64 t392)) (fun _ hk=>hk.2) (.int .i64 t390)) (fun _ hk=>hk.2) (.int .i64 t391)) (fun _ hk=>hk.2) (.int .i64 t392)) (fun _ hk=>hk.2) (.slice Ao13 t374.length co13)) (fun _ hk=>hk.2) (.slice Ao14 t377.length co14)) (fun _ hk=>hk.2) (.slice Ao15 t380.length co15)) (fun _ hk=>⟨hk.1.1.1,hk.1.1.2⟩),by (with_reducible repeat (first|apply rA_|apply rN_|apply rW_));exact Kd.R_mono (rF_ (p:=⟨gb370,5,none⟩) (rF_ (p:=⟨gb370,4,none⟩) (rF_ (p:=⟨gb370,3,none⟩) (rF_ (p:=⟨gb370,2,none⟩) (rF_ (p:=⟨gb370,1,none⟩) (rF_ (p:=⟨gb370,0,none⟩) (rF_ (p:=⟨gb385,2,none⟩) (rF_ (p:=⟨gb385,1,none⟩) (rF_ (p:=⟨gb385,0,none⟩) (Kd.R_types (Kd.R_types HO382.out BK385.out (by decide)) BK370.out (by decide)) (fun _ hk=>hk.1.2) (.int .i64 t390)) (fun _ hk=>hk.1.2) (.int .i64 t391)) (fun _ hk=>hk.1.2) (.int .i64 t392)) (fun _ hk=>hk.2) (.int .i64 t390)) (fun _ hk=>hk.2) (.int .i64 t391)) (fun _ hk=>hk.2) (.int .i64 t392)) (fun _ hk=>hk.2) (.slice Ao13 t374.length co13)) (fun _ hk=>hk.2) (.slice Ao14 t377.length co14)) (fun _ hk=>hk.2) (.slice Ao15 t380.length co15)) (fun _ hk=>⟨hk.1.1.1,hk.1.1.2⟩),by repeat (first|(with_reducible first|exact HI0.out|apply yA_|apply yN_|apply yW_|apply y1_|apply y2_|refine yF_ ?_ NB0_370.out _|refine yF_ ?_ NB0_385.out _)|exact HI0.out),by repeat (first|(with_reducible first|exact HB.out|apply lA_|apply lN_|apply below_drew1|refine bS_ ?_ (IsS146.ge HI0.out)|refine bS_ ?_ GE370.out|refine bS_ ?_ GE385.out)|exact HB.out),by repeat (first|(with_reducible first|exact HK.out|apply KeepBut.set_|apply kN_|apply keep_drew|apply kA_|refine keep_far ?_ GW370.out _|refine keep_far ?_ GW385.out _)|exact HK.out)⟩
 ·rw [if_neg c5] at H
  have c5b0:(t387 == 0)=false:=beq_eq_false_iff_ne.mpr c5
  have c5b1:(t387 != 0)=true:=bne_iff_ne.mpr c5
  by_cases c22:t387=1
  ·rw [if_pos c22] at H
   have c22b0:(t387 == 1)=true:=beq_iff_eq.mpr c22
   have c22b1:(t387 != 1)=false:=bne_eq_false_iff_eq.mpr c22
   clear c22
   replace H:=Option.bind_eq_some_iff.mp H
   obtain ⟨⟨t395,t396,t397⟩,A230,H⟩:=H
   replace H:((spec_l1Cur_among.f s0_0 t396 t397 (([(-1),10000,10001]:List Int))).bind fun bt401=>(if 0≤t395 then (if t395 < (t374.length:Int) then (some (t371,t372,t373,(t374.set (t395:Int).toNat bt401.1),t377,t380,bt401.2.1,bt401.2.2)) else (none)) else (none)))=some (r1,r2,r3,r4,r5,r6,r7,r8):=H
   have A23:=aM_ A230
   clear A230
   obtain ⟨y398,hy398⟩:∃ y_:List Int,y_=(([(-1),10000,10001]:List Int)):=⟨_,rfl⟩
   replace H:((spec_l1Cur_among.f s0_0 t396 t397 y398).bind fun bt401=>(if 0≤t395 then (if t395 < (t374.length:Int) then (some (t371,t372,t373,(t374.set (t395:Int).toNat bt401.1),t377,t380,bt401.2.1,bt401.2.2)) else (none)) else (none)))=some (r1,r2,r3,r4,r5,r6,r7,r8):=by first|(rw [hy398];with_reducible exact H)|(have H2_:=(Option.bind_some _ _).symm.trans H;rw [hy398];with_reducible exact H2_)|(have H2_:=(Option.bind_some _ _).symm.trans H;with_reducible exact H2_)|with_reducible exact H|(rw [hy398];exact H)|exact H
   have Ny398:=aM_ hy398
   clear hy398
   replace H:=Option.bind_eq_some_iff.mp H
   obtain ⟨⟨t401,t402,t403⟩,A240,H⟩:=H
   replace H:(if 0≤t395 then (if t395 < (t374.length:Int) then (some (t371,t372,t373,(t374.set (t395:Int).toNat t401),t377,t380,t402,t403)) else (none)) else (none))=some (r1,r2,r3,r4,r5,r6,r7,r8):=H
   have A24:=aM_ A240
   clear A240
   by_cases c25:0≤t395
   ·rw [if_pos c25] at H
    have c25b0:decide (0≤t395)=true:=decide_eq_true c25
    clear c25
    by_cases c26:t395 < (t374.length:Int)
    ·rw [if_pos c26] at H
     have c26b0:decide (t395 < (t374.length:Int))=true:=decide_eq_true c26
     clear c26
     obtain ⟨y404,hy404⟩:∃ y_:List Int,y_=(t374.set (t395:Int).toNat t401):=⟨_,rfl⟩
     replace H:(some (t371,t372,t373,y404,t377,t380,t402,t403))=some (r1,r2,r3,r4,r5,r6,r7,r8):=by first|(rw [hy404];with_reducible exact H)|(have H2_:=(Option.bind_some _ _).symm.trans H;rw [hy404];with_reducible exact H2_)|(have H2_:=(Option.bind_some _ _).symm.trans H;with_reducible exact H2_)|with_reducible exact H|(rw [hy404];exact H)|exact H
     have Ny404:=aM_ hy404
     clear hy404
     simp only [Option.some.injEq,Prod.mk.injEq] at H
     obtain ⟨rfl,rfl,rfl,rfl,rfl,rfl,rfl,rfl⟩:=H
     go_enter Try.func134,Try.ntmps134
     try go_wp2_with (first|((with_reducible refine gate_dst (N:=2) rfl ?_);refine box_event ?hg (N:=2) ?hd (cs:=#[.int .i64 0,.int .i64 0,.int .i64 0,.slice none 0 0,.slice none 0 0,.slice none 0 0]) (t:=34) ?hr ?_;(case hd=>rfl);(case hg=>rfl);(case hr=>first|(go_simp;done)|(go_simp;rfl));intro gb370 hg w28 hbox hb;have n0_:=aM_ (IsS146.below (by repeat (first|(with_reducible first|exact HI0.out|apply yA_|apply yN_|apply yW_|apply y1_|apply y2_)|exact HI0.out)) hb);have n1_:=aM_ (KeepBut.trans (by repeat (first|(with_reducible first|exact HK.out|apply KeepBut.set_|apply kN_|apply keep_drew|apply kA_)|exact HK.out)) (KeepBut.of_below hb g none) (.inl rfl));have n2_:=aM_ (below_step (by repeat (first|(with_reducible first|exact HB.out|apply lA_|apply lN_|apply below_drew1|refine bS_ ?_ (IsS146.ge HI0.out))|exact HB.out)) hb);have n3_:=aM_ (hbox);have n4_:=aM_ ((by rw [hg];exact (keep_size (w:=w) (g:=g) (row:=none) (by repeat (first|(with_reducible first|exact HK.out|apply KeepBut.set_|apply kN_|apply keep_drew|apply kA_)|exact HK.out))):w.heap.size≤gb370));have n5_:=aM_ ((Nat.le_trans HW0.out (by rw [hg];exact (keep_size (w:=w) (g:=g) (row:=none) (by repeat (first|(with_reducible first|exact HK.out|apply KeepBut.set_|apply kN_|apply keep_drew|apply kA_)|exact HK.out))):w.heap.size≤gb370):w0.heap.size≤gb370));have n6_:=aM_ ((by rw [hg];exact Nat.ne_of_lt (IsS146.lt (show IsS146 w0 _ g s0_0 s0_1 s0_2 from by repeat (first|(with_reducible first|exact HI0.out|apply yA_|apply yN_|apply yW_|apply y1_|apply y2_)|exact HI0.out))):g≠gb370));have n7_:=aM_ ((by rw [hg];exact Nat.ne_of_gt (IsS146.lt (show IsS146 w0 _ g s0_0 s0_1 s0_2 from by repeat (first|(with_reducible first|exact HI0.out|apply yA_|apply yN_|apply yW_|apply y1_|apply y2_)|exact HI0.out))):gb370≠g));clear HI0;clear HK;clear HB;have HI0:=n0_;have HK:=n1_;have HB:=n2_;have BK370:=n3_;have GW370:=n4_;have GE370:=n5_;have NB0_370:=n6_;have NB370_0:=n7_;clear n0_ n1_ n2_ n3_ n4_ n5_ n6_ n7_;clear hb hbox hg)|((with_reducible refine gate_callee (f:=183) rfl ?_);refine goesL_ (some 6) rfl rfl Try.func183 (by kernel_rfl) rfl #[.pointer (some ⟨g,0,none⟩)] rfl (by (try simp only [List.map_toArray,List.map_cons,List.map_nil]);first|done|rfl|(simp only [List.length_drop,List.length_take];rfl)) ?_;(with_reducible refine (spec_l1Cur_model.calls k g s0_0 s0_1 s0_2 t371 t372 t373 t374 t377 t380 t383 t384 w0 _ ?side1 ?side2 A2.out).mono ?_);(case side1=>repeat (first|(with_reducible first|exact HI0.out|apply yA_|apply yN_|apply yW_|apply y1_|apply y2_|refine yF_ ?_ NB0_370.out _)|exact HI0.out));(case side2=>repeat (first|(with_reducible first|exact HB.out|apply lA_|apply lN_|apply below_drew1|refine bS_ ?_ (IsS146.ge HI0.out)|refine bS_ ?_ GE370.out)|exact HB.out));rintro e w29 ⟨v375,v378,v381,rfl,ho0,ho1,ho2,hi,hb,hk⟩;refine ⟨_,rfl,?_⟩;have n0_:=aM_ (KeepBut.blk hk (g':=gb370) (o:=.cells #[.int .i64 0,.int .i64 0,.int .i64 0,.slice none 0 0,.slice none 0 0,.slice none 0 0] 34 (0,0)) (by (with_reducible repeat (first|refine bN_ ?_ _|refine bW_ ?_|refine bA_ ?_ _));exact BK370.out) NB370_0.out (by simp));have n1_:=aM_ (Kd.R_lower ho0 (keep_size (w:=w) (g:=g) (row:=none) (by repeat (first|(with_reducible first|exact HK.out|apply KeepBut.set_|apply kN_|apply keep_drew|apply kA_|refine keep_far ?_ GW370.out _)|exact HK.out))));have n2_:=aM_ (Kd.R_lower ho1 (keep_size (w:=w) (g:=g) (row:=none) (by repeat (first|(with_reducible first|exact HK.out|apply KeepBut.set_|apply kN_|apply keep_drew|apply kA_|refine keep_far ?_ GW370.out _)|exact HK.out))));have n3_:=aM_ (Kd.R_lower ho2 (keep_size (w:=w) (g:=g) (row:=none) (by repeat (first|(with_reducible first|exact HK.out|apply KeepBut.set_|apply kN_|apply keep_drew|apply kA_|refine keep_far ?_ GW370.out _)|exact HK.out))));have n4_:=aM_ (KeepBut.trans (by repeat (first|(with_reducible first|exact HK.out|apply KeepBut.set_|apply kN_|apply keep_drew|apply kA_|refine keep_far ?_ GW370.out _)|exact HK.out)) hk (.inl rfl));have n5_:=aM_ (hb);have n6_:=aM_ (hi);clear BK370;clear HK;clear HB;clear HI0;have BK370:=n0_;have HO376:=n1_;have HO379:=n2_;have HO382:=n3_;have HK:=n4_;have HB:=n5_;have HI0:=n6_;clear n0_ n1_ n2_ n3_ n4_ n5_ n6_;(try clear hb);(try clear hb2);(try clear hk);(try clear hi);(try clear ho0);(try clear ho1);(try clear ho2))|((with_reducible refine gate_dst (N:=3) rfl ?_);refine box_event ?hg (N:=3) ?hd (cs:=#[.int .i64 0,.int .i64 0,.int .i64 0,.slice none 0 0,.slice none 0 0,.slice none 0 0]) (t:=34) ?hr ?_;(case hd=>rfl);(case hg=>rfl);(case hr=>first|(go_simp;done)|(go_simp;rfl));intro gb385 hg w30 hbox hb;have n0_:=aM_ (Kd.R_below (by (with_reducible repeat (first|apply rA_|apply rN_|apply rW_));exact HO376.out) hb);have n1_:=aM_ (Kd.R_below (by (with_reducible repeat (first|apply rA_|apply rN_|apply rW_));exact HO379.out) hb);have n2_:=aM_ (Kd.R_below (by (with_reducible repeat (first|apply rA_|apply rN_|apply rW_));exact HO382.out) hb);have n3_:=aM_ (IsS146.below (by repeat (first|(with_reducible first|exact HI0.out|apply yA_|apply yN_|apply yW_|apply y1_|apply y2_|refine yF_ ?_ NB0_370.out _)|exact HI0.out)) hb);have n4_:=aM_ (blk_below (g:=gb370) (o:=.cells #[.int .i64 0,.int .i64 0,.int .i64 0,.slice none 0 0,.slice none 0 0,.slice none 0 0] 34 (0,0)) (by (with_reducible repeat (first|refine bN_ ?_ _|refine bW_ ?_|refine bA_ ?_ _));exact BK370.out) hb);have n5_:=aM_ (KeepBut.trans (by repeat (first|(with_reducible first|exact HK.out|apply KeepBut.set_|apply kN_|apply keep_drew|apply kA_|refine keep_far ?_ GW370.out _)|exact HK.out)) (KeepBut.of_below hb g none) (.inl rfl));have n6_:=aM_ (below_step (by repeat (first|(with_reducible first|exact HB.out|apply lA_|apply lN_|apply below_drew1|refine bS_ ?_ (IsS146.ge HI0.out)|refine bS_ ?_ GE370.out)|exact HB.out)) hb);have n7_:=aM_ (hbox);have n8_:=aM_ ((by rw [hg];exact (keep_size (w:=w) (g:=g) (row:=none) (by repeat (first|(with_reducible first|exact HK.out|apply KeepBut.set_|apply kN_|apply keep_drew|apply kA_|refine keep_far ?_ GW370.out _)|exact HK.out))):w.heap.size≤gb385));have n9_:=aM_ ((Nat.le_trans HW0.out (by rw [hg];exact (keep_size (w:=w) (g:=g) (row:=none) (by repeat (first|(with_reducible first|exact HK.out|apply KeepBut.set_|apply kN_|apply keep_drew|apply kA_|refine keep_far ?_ GW370.out _)|exact HK.out))):w.heap.size≤gb385):w0.heap.size≤gb385));have n10_:=aM_ ((by rw [hg];exact Nat.ne_of_lt (blk_lt (g:=gb370) (o:=.cells #[.int .i64 0,.int .i64 0,.int .i64 0,.slice none 0 0,.slice none 0 0,.slice none 0 0] 34 (0,0)) (by (with_reducible repeat (first|refine bN_ ?_ _|refine bW_ ?_|refine bA_ ?_ _));exact BK370.out)):gb370≠gb385));have n11_:=aM_ ((by rw [hg];exact Nat.ne_of_gt (blk_lt (g:=gb370) (o:=.cells #[.int .i64 0,.int .i64 0,.int .i64 0,.slice none 0 0,.slice none 0 0,.slice none 0 0] 34 (0,0)) (by (with_reducible repeat (first|refine bN_ ?_ _|refine bW_ ?_|refine bA_ ?_ _));exact BK370.out)):gb385≠gb370));have n12_:=aM_ ((by rw [hg];exact Nat.ne_of_lt (IsS146.lt (show IsS146 w0 _ g s0_0 t383 t384 from by repeat (first|(with_reducible first|exact HI0.out|apply yA_|apply yN_|apply yW_|apply y1_|apply y2_|refine yF_ ?_ NB0_370.out _)|exact HI0.out))):g≠gb385));have n13_:=aM_ ((by rw [hg];exact Nat.ne_of_gt (IsS146.lt (show IsS146 w0 _ g s0_0 t383 t384 from by repeat (first|(with_reducible first|exact HI0.out|apply yA_|apply yN_|apply yW_|apply y1_|apply y2_|refine yF_ ?_ NB0_370.out _)|exact HI0.out))):gb385≠g));clear HO376;clear HO379;clear HO382;clear HI0;clear BK370;clear HK;clear HB;have HO376:=n0_;have HO379:=n1_;have HO382:=n2_;have HI0:=n3_;have BK370:=n4_;have HK:=n5_;have HB:=n6_;have BK385:=n7_;have GW385:=n8_;have GE385:=n9_;have NB370_385:=n10_;have NB385_370:=n11_;have NB0_385:=n12_;have NB385_0:=n13_;clear n0_ n1_ n2_ n3_ n4_ n5_ n6_ n7_ n8_ n9_ n10_ n11_ n12_ n13_;clear hb hbox hg;have hnb31:=NB385_370.out;have hnc31:=NB370_385.out;have hnb32:=NB385_0.out;have hnc32:=NB0_385.out;have hcz33_0:w30.cell? ⟨gb385,0,none⟩=some (.int .i64 0):=(bC_ BK385.out 0).trans rfl;have hcz33_1:w30.cell? ⟨gb385,1,none⟩=some (.int .i64 0):=(bC_ BK385.out 1).trans rfl;have hcz33_2:w30.cell? ⟨gb385,2,none⟩=some (.int .i64 0):=(bC_ BK385.out 2).trans rfl;have hcz33_3:w30.cell? ⟨gb385,3,none⟩=some (.slice none 0 0):=(bC_ BK385.out 3).trans rfl;have hcz33_4:w30.cell? ⟨gb385,4,none⟩=some (.slice none 0 0):=(bC_ BK385.out 4).trans rfl;have hcz33_5:w30.cell? ⟨gb385,5,none⟩=some (.slice none 0 0):=(bC_ BK385.out 5).trans rfl;have hfz33_0:=blk_frozen BK385.out 0;have hfz33_1:=blk_frozen BK385.out 1;have hfz33_2:=blk_frozen BK385.out 2;have hfz33_3:=blk_frozen BK385.out 3;have hfz33_4:=blk_frozen BK385.out 4;have hfz33_5:=blk_frozen BK385.out 5;obtain ⟨Ao34,co34,eo34⟩:=Kd.R_slice HO376.out;subst eo34;obtain ⟨Ao35,co35,eo35⟩:=Kd.R_slice HO379.out;subst eo35;obtain ⟨Ao36,co36,eo36⟩:=Kd.R_slice HO382.out;subst eo36)|((with_reducible refine gate_callee (f:=160) rfl ?_);refine goesL_ (some 9) rfl rfl Try.func160 (by kernel_rfl) rfl #[.agg #[.int .i64 t371,.int .i64 t372,.int .i64 t373]] rfl (by (try simp only [List.map_toArray,List.map_cons,List.map_nil]);first|done|rfl|(simp only [List.length_drop,List.length_take];rfl)) ?_;(with_reducible refine (spec_grCount.calls t371 t372 t373 t386 _ A3.out).mono ?_);rintro e w37 ⟨rfl,hb⟩;refine ⟨_,rfl,?_⟩;have n0_:=aM_ (Kd.R_below (by (with_reducible repeat (first|apply rA_|apply rN_|apply rW_));exact (Kd.R_mono (rF_ (p:=⟨gb385,5,none⟩) (rF_ (p:=⟨gb385,4,none⟩) (rF_ (p:=⟨gb385,3,none⟩) (rF_ (p:=⟨gb385,2,none⟩) (rF_ (p:=⟨gb385,1,none⟩) (rF_ (p:=⟨gb385,0,none⟩) (Kd.R_types HO376.out BK385.out (by decide)) (fun _ hk=>hk.2) (.int .i64 t371)) (fun _ hk=>hk.2) (.int .i64 t372)) (fun _ hk=>hk.2) (.int .i64 t373)) (fun _ hk=>hk.2) (.slice Ao34 t374.length co34)) (fun _ hk=>hk.2) (.slice Ao35 t377.length co35)) (fun _ hk=>hk.2) (.slice Ao36 t380.length co36)) (fun _ h_=>h_.1))) hb);have n1_:=aM_ (Kd.R_below (by (with_reducible repeat (first|apply rA_|apply rN_|apply rW_));exact (Kd.R_mono (rF_ (p:=⟨gb385,5,none⟩) (rF_ (p:=⟨gb385,4,none⟩) (rF_ (p:=⟨gb385,3,none⟩) (rF_ (p:=⟨gb385,2,none⟩) (rF_ (p:=⟨gb385,1,none⟩) (rF_ (p:=⟨gb385,0,none⟩) (Kd.R_types HO379.out BK385.out (by decide)) (fun _ hk=>hk.2) (.int .i64 t371)) (fun _ hk=>hk.2) (.int .i64 t372)) (fun _ hk=>hk.2) (.int .i64 t373)) (fun _ hk=>hk.2) (.slice Ao34 t374.length co34)) (fun _ hk=>hk.2) (.slice Ao35 t377.length co35)) (fun _ hk=>hk.2) (.slice Ao36 t380.length co36)) (fun _ h_=>h_.1))) hb);have n2_:=aM_ (Kd.R_below (by (with_reducible repeat (first|apply rA_|apply rN_|apply rW_));exact (Kd.R_mono (rF_ (p:=⟨gb385,5,none⟩) (rF_ (p:=⟨gb385,4,none⟩) (rF_ (p:=⟨gb385,3,none⟩) (rF_ (p:=⟨gb385,2,none⟩) (rF_ (p:=⟨gb385,1,none⟩) (rF_ (p:=⟨gb385,0,none⟩) (Kd.R_types HO382.out BK385.out (by decide)) (fun _ hk=>hk.2) (.int .i64 t371)) (fun _ hk=>hk.2) (.int .i64 t372)) (fun _ hk=>hk.2) (.int .i64 t373)) (fun _ hk=>hk.2) (.slice Ao34 t374.length co34)) (fun _ hk=>hk.2) (.slice Ao35 t377.length co35)) (fun _ hk=>hk.2) (.slice Ao36 t380.length co36)) (fun _ h_=>h_.1))) hb);have n3_:=aM_ (IsS146.below (show IsS146 w0 ((((((w30.setCell ⟨gb385,0,none⟩ (.int .i64 t371)).setCell ⟨gb385,1,none⟩ (.int .i64 t372)).setCell ⟨gb385,2,none⟩ (.int .i64 t373)).setCell ⟨gb385,3,none⟩ (.slice Ao34 t374.length co34)).setCell ⟨gb385,4,none⟩ (.slice Ao35 t377.length co35)).setCell ⟨gb385,5,none⟩ (.slice Ao36 t380.length co36)) g s0_0 t383 t384 from by repeat (first|(with_reducible first|exact HI0.out|apply yA_|apply yN_|apply yW_|apply y1_|apply y2_|refine yF_ ?_ NB0_370.out _|refine yF_ ?_ NB0_385.out _)|exact HI0.out)) hb);have n4_:=aM_ (blk_below (g:=gb370) (o:=.cells #[.int .i64 0,.int .i64 0,.int .i64 0,.slice none 0 0,.slice none 0 0,.slice none 0 0] 34 (0,0)) (by (with_reducible repeat (first|refine bN_ ?_ _|refine bW_ ?_|refine bA_ ?_ _));refine blk_far ?_ NB370_385.out _;(with_reducible repeat (first|refine bN_ ?_ _|refine bW_ ?_|refine bA_ ?_ _));refine blk_far ?_ NB370_385.out _;(with_reducible repeat (first|refine bN_ ?_ _|refine bW_ ?_|refine bA_ ?_ _));refine blk_far ?_ NB370_385.out _;(with_reducible repeat (first|refine bN_ ?_ _|refine bW_ ?_|refine bA_ ?_ _));refine blk_far ?_ NB370_385.out _;(with_reducible repeat (first|refine bN_ ?_ _|refine bW_ ?_|refine bA_ ?_ _));refine blk_far ?_ NB370_385.out _;(with_reducible repeat (first|refine bN_ ?_ _|refine bW_ ?_|refine bA_ ?_ _));refine blk_far ?_ NB370_385.out _;(with_reducible repeat (first|refine bN_ ?_ _|refine bW_ ?_|refine bA_ ?_ _));exact BK370.out) hb);have n5_:=aM_ (blk_below (g:=gb385) (o:=.cells #[.int .i64 t371,.int .i64 t372,.int .i64 t373,.slice Ao34 t374.length co34,.slice Ao35 t377.length co35,.slice Ao36 t380.length co36] 34 (0,0)) (by (with_reducible repeat (first|refine bN_ ?_ _|refine bW_ ?_|refine bA_ ?_ _));refine blk_put (cs:=#[.int .i64 t371,.int .i64 t372,.int .i64 t373,.slice Ao34 t374.length co34,.slice Ao35 t377.length co35,.slice none 0 0]) ?_ 5 _ rfl;(with_reducible repeat (first|refine bN_ ?_ _|refine bW_ ?_|refine bA_ ?_ _));refine blk_put (cs:=#[.int .i64 t371,.int .i64 t372,.int .i64 t373,.slice Ao34 t374.length co34,.slice none 0 0,.slice none 0 0]) ?_ 4 _ rfl;(with_reducible repeat (first|refine bN_ ?_ _|refine bW_ ?_|refine bA_ ?_ _));refine blk_put (cs:=#[.int .i64 t371,.int .i64 t372,.int .i64 t373,.slice none 0 0,.slice none 0 0,.slice none 0 0]) ?_ 3 _ rfl;(with_reducible repeat (first|refine bN_ ?_ _|refine bW_ ?_|refine bA_ ?_ _));refine blk_put (cs:=#[.int .i64 t371,.int .i64 t372,.int .i64 0,.slice none 0 0,.slice none 0 0,.slice none 0 0]) ?_ 2 _ rfl;(with_reducible repeat (first|refine bN_ ?_ _|refine bW_ ?_|refine bA_ ?_ _));refine blk_put (cs:=#[.int .i64 t371,.int .i64 0,.int .i64 0,.slice none 0 0,.slice none 0 0,.slice none 0 0]) ?_ 1 _ rfl;(with_reducible repeat (first|refine bN_ ?_ _|refine bW_ ?_|refine bA_ ?_ _));refine blk_put (cs:=#[.int .i64 0,.int .i64 0,.int .i64 0,.slice none 0 0,.slice none 0 0,.slice none 0 0]) ?_ 0 _ rfl;(with_reducible repeat (first|refine bN_ ?_ _|refine bW_ ?_|refine bA_ ?_ _));exact BK385.out) hb);have n6_:=aM_ (KeepBut.trans (by repeat (first|(with_reducible first|exact HK.out|apply KeepBut.set_|apply kN_|apply keep_drew|apply kA_|refine keep_far ?_ GW370.out _|refine keep_far ?_ GW385.out _)|exact HK.out)) (KeepBut.of_below hb g none) (.inl rfl));have n7_:=aM_ (below_step (by repeat (first|(with_reducible first|exact HB.out|apply lA_|apply lN_|apply below_drew1|refine bS_ ?_ (IsS146.ge HI0.out)|refine bS_ ?_ GE370.out|refine bS_ ?_ GE385.out)|exact HB.out)) hb);clear HO376;clear HO379;clear HO382;clear HI0;clear BK370;clear BK385;clear HK;clear HB;have HO376:=n0_;have HO379:=n1_;have HO382:=n2_;have HI0:=n3_;have BK370:=n4_;have BK385:=n5_;have HK:=n6_;have HB:=n7_;clear n0_ n1_ n2_ n3_ n4_ n5_ n6_ n7_;(try clear hb);(try clear hb2);(try clear hk);(try clear hi))|((with_reducible refine gate_callee (f:=135) rfl ?_);refine goesL_ (some 11) rfl rfl Try.func135 (by kernel_rfl) rfl #[.pointer (some ⟨g,0,none⟩),.int .i64 30] rfl (by (try simp only [List.map_toArray,List.map_cons,List.map_nil]);first|done|rfl|(simp only [List.length_drop,List.length_take];rfl)) ?_;(with_reducible refine (spec_l1Cur_pick.calls g s0_0 t383 t384 30 t387 t388 t389 w0 _ ?side1 ?side2 A4.out).mono ?_);(case side1=>repeat (first|(with_reducible first|exact HI0.out|apply yA_|apply yN_|apply yW_|apply y1_|apply y2_|refine yF_ ?_ NB0_370.out _|refine yF_ ?_ NB0_385.out _)|exact HI0.out));(case side2=>repeat (first|(with_reducible first|exact HB.out|apply lA_|apply lN_|apply below_drew1|refine bS_ ?_ (IsS146.ge HI0.out)|refine bS_ ?_ GE370.out|refine bS_ ?_ GE385.out)|exact HB.out));rintro e w38 ⟨rfl,hi,hb,hk⟩;refine ⟨_,rfl,?_⟩;have n0_:=aM_ (KeepBut.blk hk (g':=gb370) (o:=.cells #[.int .i64 0,.int .i64 0,.int .i64 0,.slice none 0 0,.slice none 0 0,.slice none 0 0] 34 (0,0)) (by (with_reducible repeat (first|refine bN_ ?_ _|refine bW_ ?_|refine bA_ ?_ _));exact BK370.out) NB370_0.out (by simp));have n1_:=aM_ (Kd.R_mono (Kd.R_keep (IsS146.apart (show IsS146 w0 _ g s0_0 t383 t384 from by repeat (first|(with_reducible first|exact HI0.out|apply yA_|apply yN_|apply yW_|apply y1_|apply y2_|refine yF_ ?_ NB0_370.out _|refine yF_ ?_ NB0_385.out _)|exact HI0.out)) (by (with_reducible repeat (first|apply rA_|apply rN_|apply rW_));exact HO376.out) (by decide)) hk (fun _ h=>h.2)) (fun _ h=>h.1));have n2_:=aM_ (Kd.R_mono (Kd.R_keep (IsS146.apart (show IsS146 w0 _ g s0_0 t383 t384 from by repeat (first|(with_reducible first|exact HI0.out|apply yA_|apply yN_|apply yW_|apply y1_|apply y2_|refine yF_ ?_ NB0_370.out _|refine yF_ ?_ NB0_385.out _)|exact HI0.out)) (by (with_reducible repeat (first|apply rA_|apply rN_|apply rW_));exact HO379.out) (by decide)) hk (fun _ h=>h.2)) (fun _ h=>h.1));have n3_:=aM_ (Kd.R_mono (Kd.R_keep (IsS146.apart (show IsS146 w0 _ g s0_0 t383 t384 from by repeat (first|(with_reducible first|exact HI0.out|apply yA_|apply yN_|apply yW_|apply y1_|apply y2_|refine yF_ ?_ NB0_370.out _|refine yF_ ?_ NB0_385.out _)|exact HI0.out)) (by (with_reducible repeat (first|apply rA_|apply rN_|apply rW_));exact HO382.out) (by decide)) hk (fun _ h=>h.2)) (fun _ h=>h.1));have n4_:=aM_ (KeepBut.blk hk (g':=gb385) (o:=.cells #[.int .i64 t371,.int .i64 t372,.int .i64 t373,.slice Ao34 t374.length co34,.slice Ao35 t377.length co35,.slice Ao36 t380.length co36] 34 (0,0)) (by (with_reducible repeat (first|refine bN_ ?_ _|refine bW_ ?_|refine bA_ ?_ _));exact BK385.out) NB385_0.out (by simp));have n5_:=aM_ (KeepBut.trans (by repeat (first|(with_reducible first|exact HK.out|apply KeepBut.set_|apply kN_|apply keep_drew|apply kA_|refine keep_far ?_ GW370.out _|refine keep_far ?_ GW385.out _)|exact HK.out)) hk (.inl rfl));have n6_:=aM_ (hb);have n7_:=aM_ (hi);clear BK370;clear HO376;clear HO379;clear HO382;clear BK385;clear HK;clear HB;clear HI0;have BK370:=n0_;have HO376:=n1_;have HO379:=n2_;have HO382:=n3_;have BK385:=n4_;have HK:=n5_;have HB:=n6_;have HI0:=n7_;clear n0_ n1_ n2_ n3_ n4_ n5_ n6_ n7_;(try clear hb);(try clear hb2);(try clear hk);(try clear hi)))
     have n0_:=aM_ (rW_ HO376.out)
     have n1_:=aM_ (rW_ HO379.out)
     have n2_:=aM_ (rW_ HO382.out)
     have n3_:=aM_ (bW_ BK370.out)
     have n4_:=aM_ (bW_ BK385.out)
     have n5_:=aM_ (yW_ HI0.out)
     have n6_:=aM_ (keep_drew HK.out)
     have n7_:=aM_ (below_drew1 HB.out)
     clear HO376
     clear HO379
     clear HO382
     clear BK370
     clear BK385
     clear HI0
     clear HK
     clear HB
     have HO376:=n0_
     have HO379:=n1_
     have HO382:=n2_
     have BK370:=n3_
     have BK385:=n4_
     have HI0:=n5_
     have HK:=n6_
     have HB:=n7_
     clear n0_ n1_ n2_ n3_ n4_ n5_ n6_ n7_
     refine start_ (n:=10) (S:=fun w'=>w'.cell? ⟨gb385,0,none⟩=some (.int .i64 t371)∧w'.cell? ⟨gb385,1,none⟩=some (.int .i64 t372)∧w'.cell? ⟨gb385,2,none⟩=some (.int .i64 t373)∧w'.cell? ⟨gb385,3,none⟩=some (.slice Ao34 t374.length co34)∧w'.cell? ⟨gb385,4,none⟩=some (.slice Ao35 t377.length co35)∧w'.cell? ⟨gb385,5,none⟩=some (.slice Ao36 t380.length co36)) (ds:=[9]) #[false,false,false,false,false,false,false,false,false,false] (by kernel_rfl) rfl rfl ⟨(bC_ BK385.out 0).trans rfl,(bC_ BK385.out 1).trans rfl,(bC_ BK385.out 2).trans rfl,(bC_ BK385.out 3).trans rfl,(bC_ BK385.out 4).trans rfl,(bC_ BK385.out 5).trans rfl⟩ (fun hHeld=>?_);refine with_tabW spec_l1Cur_anyModel.tab7 spec_l1Cur_anyModel.bits7 (fun HT_ HW_=>?_)
     generalize w38.drew=w39 at HO376 HO379 HO382 BK370 BK385 HI0 HK HB hHeld ⊢
     refine pure_ (i:=0) (N:=some 19) (v:=?_) (a':=?_) #[true,false,false,false,false,false,false,false,false,false] rfl rfl (any_of HT_.out (by kernel_rfl)) (fun _ _ _ h=>h) (Or.inl ⟨by rfl,?_⟩) ?_ ?_
     rotate_left
     ·intro w'
      go_simp
      with_reducible rfl
     rotate_left
     ·simp only [Act.put,List.setIfInBounds_toArray,List.set_cons_zero,List.set_cons_succ,i64_w,i32_w]
      rfl
     refine pure_ (i:=2) (N:=some 21) (v:=?_) (a':=?_) #[true,false,true,false,false,false,false,false,false,false] rfl rfl (any_of HT_.out (by kernel_rfl)) (fun _ _ _ h=>h) (Or.inl ⟨by rfl,?_⟩) ?_ ?_
     rotate_left
     ·intro w'
      go_simp
      with_reducible rfl
     rotate_left
     ·simp only [Act.put,List.setIfInBounds_toArray,List.set_cons_zero,List.set_cons_succ,i64_w,i32_w]
      rfl
     refine pure_ (i:=3) (N:=some 22) (v:=?_) (a':=?_) #[true,false,true,true,false,false,false,false,false,false] rfl rfl (any_of HT_.out (by kernel_rfl)) (fun _ _ _ h=>h) (Or.inl ⟨by rfl,?_⟩) ?_ ?_
     rotate_left
     ·intro w'
      go_simp
      with_reducible rfl
     rotate_left
     ·simp only [Act.put,List.setIfInBounds_toArray,List.set_cons_zero,List.set_cons_succ,i64_w,i32_w]
      rfl
     refine pure_ (i:=5) (N:=some 24) (v:=?_) (a':=?_) #[true,false,true,true,false,true,false,false,false,false] rfl rfl (any_of HT_.out (by kernel_rfl)) (fun _ _ _ h=>h) (Or.inl ⟨by rfl,?_⟩) ?_ ?_
     rotate_left
     ·intro w'
      go_simp
      with_reducible rfl
     rotate_left
     ·simp only [Act.put,List.setIfInBounds_toArray,List.set_cons_zero,List.set_cons_succ,i64_w,i32_w]
      rfl
     refine take_ (i:=1) (N:=some 20) (v:=?_) (a':=?_) #[true,true,true,true,false,true,false,false,false,false] rfl rfl (take_ofW HT_.out HW_.out (by kernel_rfl)) (fun _ _ _ h=>h) (Or.inl ⟨by rfl,?_⟩) hHeld ?_ ?_
     rotate_left
     ·rintro w' ⟨s0,s1,s2,s3,s4,s5⟩
      go_simp
      with_reducible rfl
     rotate_left
     ·simp only [Act.put,List.setIfInBounds_toArray,List.set_cons_zero,List.set_cons_succ,i64_w,i32_w]
      rfl
     refine join_ (σ:=Value) 3 #[true,true,true,true,true,true,true,false,false,false] (fun s_=>[(23,.int .i64 t395),(25,s_)]) (fun s_ w'=>(w'.cell? ⟨gb385,0,none⟩=some (.int .i64 t371)∧w'.cell? ⟨gb385,1,none⟩=some (.int .i64 t372)∧w'.cell? ⟨gb385,2,none⟩=some (.int .i64 t373)∧w'.cell? ⟨gb385,3,none⟩=some (.slice Ao34 t374.length co34)∧w'.cell? ⟨gb385,4,none⟩=some (.slice Ao35 t377.length co35)∧w'.cell? ⟨gb385,5,none⟩=some (.slice Ao36 t380.length co36))∧(Kd.R (Kd.int .i64) 3 w' w.heap.size (fun k_=>some k_≠(.slice Ao35 t377.length co35:Value).ownBlock∧some k_≠(.slice Ao36 t380.length co36:Value).ownBlock∧some k_≠(s_:Value).ownBlock) (.slice Ao34 t374.length co34) t374)∧(Kd.R (Kd.int .i64) 3 w' w.heap.size (fun k_=>some k_≠(.slice Ao34 t374.length co34:Value).ownBlock∧some k_≠(.slice Ao36 t380.length co36:Value).ownBlock∧some k_≠(s_:Value).ownBlock) (.slice Ao35 t377.length co35) t377)∧(Kd.R (Kd.int .i64) 3 w' w.heap.size (fun k_=>some k_≠(.slice Ao34 t374.length co34:Value).ownBlock∧some k_≠(.slice Ao35 t377.length co35:Value).ownBlock∧some k_≠(s_:Value).ownBlock) (.slice Ao36 t380.length co36) t380)∧(Kd.R (Kd.int .i64) 3 w' w.heap.size (fun k_=>some k_≠(.slice Ao34 t374.length co34:Value).ownBlock∧some k_≠(.slice Ao35 t377.length co35:Value).ownBlock∧some k_≠(.slice Ao36 t380.length co36:Value).ownBlock) s_ y398)∧(w'.heap[gb370]?=some (.cells #[.int .i64 0,.int .i64 0,.int .i64 0,.slice none 0 0,.slice none 0 0,.slice none 0 0] 34 (0,0)))∧(w'.heap[gb385]?=some (.cells #[.int .i64 t371,.int .i64 t372,.int .i64 t373,.slice Ao34 t374.length co34,.slice Ao35 t377.length co35,.slice Ao36 t380.length co36] 34 (0,0)))∧(IsS146 w0 w' g s0_0 t396 t397)∧(KeepBut w w' g none)∧(Below w0.heap.size w0 w')) ?_ ?_
     rotate_left
     ·intro hCont
      refine two_ (i:=4) (j:=6) (Ni:=some 23) (Nj:=some 25) #[true,true,true,true,true,true,false,false,false,false] #[true,true,true,true,false,true,true,false,false,false] rfl rfl rfl rfl (two_of HT_.out (by kernel_rfl)) (by decide) (by decide) (fun K hK=>?_) (fun K hK=>?_)
      ·skip
       refine goes_ Try.func135 (by kernel_rfl) rfl #[.pointer (some ⟨g,0,none⟩),.int .i64 t386] (by rfl) rfl rfl (by (try simp only [List.map_toArray,List.map_cons,List.map_nil]);first|done|rfl|(simp only [List.length_drop,List.length_take];rfl)) ?_
       with_reducible refine (spec_l1Cur_pick.calls g s0_0 t388 t389 t386 t395 t396 t397 w0 _ ?side1 ?side2 A23.out).mono ?_
       (case side1=>repeat (first|(with_reducible first|exact HI0.out|apply yA_|apply yN_|apply yW_|apply y1_|apply y2_|refine yF_ ?_ NB0_370.out _|refine yF_ ?_ NB0_385.out _)|exact HI0.out))
       (case side2=>repeat (first|(with_reducible first|exact HB.out|apply lA_|apply lN_|apply below_drew1|refine bS_ ?_ (IsS146.ge HI0.out)|refine bS_ ?_ GE370.out|refine bS_ ?_ GE385.out)|exact HB.out))
       rintro e w40 ⟨rfl,hi,hb,hk⟩
       refine ⟨_,rfl,?_⟩
       have n0_:=aM_ (KeepBut.blk hk (g':=gb370) (o:=.cells #[.int .i64 0,.int .i64 0,.int .i64 0,.slice none 0 0,.slice none 0 0,.slice none 0 0] 34 (0,0)) (by (with_reducible repeat (first|refine bN_ ?_ _|refine bW_ ?_|refine bA_ ?_ _));exact BK370.out) NB370_0.out (by simp))
       have n1_:=aM_ (Kd.R_mono (Kd.R_keep (IsS146.apart (show IsS146 w0 _ g s0_0 t388 t389 from by repeat (first|(with_reducible first|exact HI0.out|apply yA_|apply yN_|apply yW_|apply y1_|apply y2_|refine yF_ ?_ NB0_370.out _|refine yF_ ?_ NB0_385.out _)|exact HI0.out)) (by (with_reducible repeat (first|apply rA_|apply rN_|apply rW_));exact HO376.out) (by decide)) hk (fun _ h=>h.2)) (fun _ h=>h.1))
       have n2_:=aM_ (Kd.R_mono (Kd.R_keep (IsS146.apart (show IsS146 w0 _ g s0_0 t388 t389 from by repeat (first|(with_reducible first|exact HI0.out|apply yA_|apply yN_|apply yW_|apply y1_|apply y2_|refine yF_ ?_ NB0_370.out _|refine yF_ ?_ NB0_385.out _)|exact HI0.out)) (by (with_reducible repeat (first|apply rA_|apply rN_|apply rW_));exact HO379.out) (by decide)) hk (fun _ h=>h.2)) (fun _ h=>h.1))
       have n3_:=aM_ (Kd.R_mono (Kd.R_keep (IsS146.apart (show IsS146 w0 _ g s0_0 t388 t389 from by repeat (first|(with_reducible first|exact HI0.out|apply yA_|apply yN_|apply yW_|apply y1_|apply y2_|refine yF_ ?_ NB0_370.out _|refine yF_ ?_ NB0_385.out _)|exact HI0.out)) (by (with_reducible repeat (first|apply rA_|apply rN_|apply rW_));exact HO382.out) (by decide)) hk (fun _ h=>h.2)) (fun _ h=>h.1))
       have n4_:=aM_ (KeepBut.blk hk (g':=gb385) (o:=.cells #[.int .i64 t371,.int .i64 t372,.int .i64 t373,.slice Ao34 t374.length co34,.slice Ao35 t377.length co35,.slice Ao36 t380.length co36] 34 (0,0)) (by (with_reducible repeat (first|refine bN_ ?_ _|refine bW_ ?_|refine bA_ ?_ _));exact BK385.out) NB385_0.out (by simp))
       have n5_:=aM_ (KeepBut.trans (by repeat (first|(with_reducible first|exact HK.out|apply KeepBut.set_|apply kN_|apply keep_drew|apply kA_|refine keep_far ?_ GW370.out _|refine keep_far ?_ GW385.out _)|exact HK.out)) hk (.inl rfl))
       have n6_:=aM_ (hb)
       have n7_:=aM_ (hi)
       clear BK370
       clear HO376
       clear HO379
       clear HO382
       clear BK385
       clear HK
       clear HB
       clear HI0
       have BK370:=n0_
       have HO376:=n1_
       have HO379:=n2_
       have HO382:=n3_
       have BK385:=n4_
       have HK:=n5_
       have HB:=n6_
       have HI0:=n7_
       clear n0_ n1_ n2_ n3_ n4_ n5_ n6_ n7_
       (try clear hb)
       (try clear hb2)
       (try clear hk)
       (try clear hi)
       refine hK.out _ _ ⟨(bC_ BK385.out 0).trans rfl,(bC_ BK385.out 1).trans rfl,(bC_ BK385.out 2).trans rfl,(bC_ BK385.out 3).trans rfl,(bC_ BK385.out 4).trans rfl,(bC_ BK385.out 5).trans rfl⟩ (fun hHeld=>?_)
       clear hK K
       refine norm_ (a':=?_) ?_ ?_
       rotate_left
       ·show Act.put _ (some 23) _=_
        simp only [Act.put,List.setIfInBounds_toArray,List.set_cons_zero,List.set_cons_succ,i64_w,i32_w]
        rfl
       refine one_ (i:=6) (N:=some 25) #[true,true,true,true,true,true,true,false,false,false] rfl rfl (one_of HT_.out (by kernel_rfl)) (by decide) (fun K hK=>?_)
       refine Kd.R_lit_step (Kd.int .i64) _ 3 ?hg (N:=25) ?hd (xs:=([(-1),10000,10001]:List Int)) (inner:=[.int .i64 (-1),.int .i64 10000,.int .i64 10001]) (ok:=fun _=>True) (okp:=fun _=>True) ?hr ?hp (fun _ hk=>hk) trivial (Below.refl _ _) (Nat.le_refl _) (by simp) ?_;(case hd=>rfl);(case hg=>rfl);(case hr=>first|(go_simp;done)|(go_simp;rfl));(case hp=>exact (Reps.one (show Kd.M (Kd.int .i64) _ _ _ (-1) [.int .i64 (-1)] from rfl) (Reps.one (show Kd.M (Kd.int .i64) _ _ _ 10000 [.int .i64 10000] from rfl) (Reps.one (show Kd.M (Kd.int .i64) _ _ _ 10001 [.int .i64 10001] from rfl) (Reps.none _ _)))))
       intro v399 w41 ho42 hb hg_ hnew_
       clear hg_ hnew_
       (first|rw [← Ny398.out] at ho42|(simp only [Int.reduceToNat] at ho42;rw [← Ny398.out] at ho42))
       have n0_:=aM_ (Kd.R_elder' (by (with_reducible repeat (first|apply rA_|apply rN_|apply rW_));exact HO376.out) (Kd.R_base ho42) hb)
       have n1_:=aM_ (Kd.R_elder' (by (with_reducible repeat (first|apply rA_|apply rN_|apply rW_));exact HO379.out) (Kd.R_base ho42) hb)
       have n2_:=aM_ (Kd.R_elder' (by (with_reducible repeat (first|apply rA_|apply rN_|apply rW_));exact HO382.out) (Kd.R_base ho42) hb)
       have n3_:=aM_ (Kd.R_lower (Kd.R_new' (Kd.R_new' (Kd.R_new' ho42 (Kd.R_lt (by (with_reducible repeat (first|apply rA_|apply rN_|apply rW_));exact HO376.out))) (Kd.R_lt (by (with_reducible repeat (first|apply rA_|apply rN_|apply rW_));exact HO379.out))) (Kd.R_lt (by (with_reducible repeat (first|apply rA_|apply rN_|apply rW_));exact HO382.out))) (keep_size (w:=w) (g:=g) (row:=none) (by repeat (first|(with_reducible first|exact HK.out|apply KeepBut.set_|apply kN_|apply keep_drew|apply kA_|refine keep_far ?_ GW370.out _|refine keep_far ?_ GW385.out _)|exact HK.out))))
       have n4_:=aM_ (IsS146.below (by repeat (first|(with_reducible first|exact HI0.out|apply yA_|apply yN_|apply yW_|apply y1_|apply y2_|refine yF_ ?_ NB0_370.out _|refine yF_ ?_ NB0_385.out _)|exact HI0.out)) hb)
       have n5_:=aM_ (blk_below (g:=gb370) (o:=.cells #[.int .i64 0,.int .i64 0,.int .i64 0,.slice none 0 0,.slice none 0 0,.slice none 0 0] 34 (0,0)) (by (with_reducible repeat (first|refine bN_ ?_ _|refine bW_ ?_|refine bA_ ?_ _));exact BK370.out) hb)
       have n6_:=aM_ (blk_below (g:=gb385) (o:=.cells #[.int .i64 t371,.int .i64 t372,.int .i64 t373,.slice Ao34 t374.length co34,.slice Ao35 t377.length co35,.slice Ao36 t380.length co36] 34 (0,0)) (by (with_reducible repeat (first|refine bN_ ?_ _|refine bW_ ?_|refine bA_ ?_ _));exact BK385.out) hb)
       have n7_:=aM_ (KeepBut.trans (by repeat (first|(with_reducible first|exact HK.out|apply KeepBut.set_|apply kN_|apply keep_drew|apply kA_|refine keep_far ?_ GW370.out _|refine keep_far ?_ GW385.out _)|exact HK.out)) (KeepBut.of_below hb g none) (.inl rfl))
       have n8_:=aM_ (below_step (by repeat (first|(with_reducible first|exact HB.out|apply lA_|apply lN_|apply below_drew1|refine bS_ ?_ (IsS146.ge HI0.out)|refine bS_ ?_ GE370.out|refine bS_ ?_ GE385.out)|exact HB.out)) hb)
       clear HO376
       clear HO379
       clear HO382
       clear HI0
       clear BK370
       clear BK385
       clear HK
       clear HB
       have HO376:=n0_
       have HO379:=n1_
       have HO382:=n2_
       have HO400:=n3_
       have HI0:=n4_
       have BK370:=n5_
       have BK385:=n6_
       have HK:=n7_
       have HB:=n8_
       clear n0_ n1_ n2_ n3_ n4_ n5_ n6_ n7_ n8_
       clear hb ho42
       refine hK.out _ _ ⟨(bC_ BK385.out 0).trans rfl,(bC_ BK385.out 1).trans rfl,(bC_ BK385.out 2).trans rfl,(bC_ BK385.out 3).trans rfl,(bC_ BK385.out 4).trans rfl,(bC_ BK385.out 5).trans rfl⟩ (fun hHeld=>?_)
       clear hK K
       refine norm_ (a':=?_) ?_ ?_
       rotate_left
       ·show Act.put _ (some 25) _=_
        simp only [Act.put,List.setIfInBounds_toArray,List.set_cons_zero,List.set_cons_succ,i64_w,i32_w]
        rfl
       exact norm_ (by simp only [putAll,Act.put,List.setIfInBounds_toArray,List.set_cons_zero,List.set_cons_succ]) (hCont (v399) _ ⟨hHeld,(by (with_reducible repeat (first|apply rA_|apply rN_|apply rW_));exact Kd.R_mono HO376.out (fun _ hk=>⟨hk.1.1,⟨hk.1.2,hk.2⟩⟩)),(by (with_reducible repeat (first|apply rA_|apply rN_|apply rW_));exact Kd.R_mono HO379.out (fun _ hk=>⟨hk.1.1,⟨hk.1.2,hk.2⟩⟩)),(by (with_reducible repeat (first|apply rA_|apply rN_|apply rW_));exact Kd.R_mono HO382.out (fun _ hk=>⟨hk.1.1,⟨hk.1.2,hk.2⟩⟩)),(by (with_reducible repeat (first|apply rA_|apply rN_|apply rW_));exact Kd.R_mono HO400.out (fun _ hk=>⟨hk.1.1.2,⟨hk.1.2,hk.2⟩⟩)),(by (with_reducible repeat (first|refine bN_ ?_ _|refine bW_ ?_|refine bA_ ?_ _));exact BK370.out),(by (with_reducible repeat (first|refine bN_ ?_ _|refine bW_ ?_|refine bA_ ?_ _));exact BK385.out),(by repeat (first|(with_reducible first|exact HI0.out|apply yA_|apply yN_|apply yW_|apply y1_|apply y2_|refine yF_ ?_ NB0_370.out _|refine yF_ ?_ NB0_385.out _)|exact HI0.out)),(by repeat (first|(with_reducible first|exact HK.out|apply KeepBut.set_|apply kN_|apply keep_drew|apply kA_|refine keep_far ?_ GW370.out _|refine keep_far ?_ GW385.out _)|exact HK.out)),(by repeat (first|(with_reducible first|exact HB.out|apply lA_|apply lN_|apply below_drew1|refine bS_ ?_ (IsS146.ge HI0.out)|refine bS_ ?_ GE370.out|refine bS_ ?_ GE385.out)|exact HB.out))⟩)
      ·skip
       refine Kd.R_lit_step (Kd.int .i64) _ 3 ?hg (N:=25) ?hd (xs:=([(-1),10000,10001]:List Int)) (inner:=[.int .i64 (-1),.int .i64 10000,.int .i64 10001]) (ok:=fun _=>True) (okp:=fun _=>True) ?hr ?hp (fun _ hk=>hk) trivial (Below.refl _ _) (Nat.le_refl _) (by simp) ?_;(case hd=>rfl);(case hg=>rfl);(case hr=>first|(go_simp;done)|(go_simp;rfl));(case hp=>exact (Reps.one (show Kd.M (Kd.int .i64) _ _ _ (-1) [.int .i64 (-1)] from rfl) (Reps.one (show Kd.M (Kd.int .i64) _ _ _ 10000 [.int .i64 10000] from rfl) (Reps.one (show Kd.M (Kd.int .i64) _ _ _ 10001 [.int .i64 10001] from rfl) (Reps.none _ _)))))
       intro v399 w40 ho41 hb hg_ hnew_
       clear hg_ hnew_
       (first|rw [← Ny398.out] at ho41|(simp only [Int.reduceToNat] at ho41;rw [← Ny398.out] at ho41))
       have n0_:=aM_ (Kd.R_elder' (by (with_reducible repeat (first|apply rA_|apply rN_|apply rW_));exact HO376.out) (Kd.R_base ho41) hb)
       have n1_:=aM_ (Kd.R_elder' (by (with_reducible repeat (first|apply rA_|apply rN_|apply rW_));exact HO379.out) (Kd.R_base ho41) hb)
       have n2_:=aM_ (Kd.R_elder' (by (with_reducible repeat (first|apply rA_|apply rN_|apply rW_));exact HO382.out) (Kd.R_base ho41) hb)
       have n3_:=aM_ (Kd.R_lower (Kd.R_new' (Kd.R_new' (Kd.R_new' ho41 (Kd.R_lt (by (with_reducible repeat (first|apply rA_|apply rN_|apply rW_));exact HO376.out))) (Kd.R_lt (by (with_reducible repeat (first|apply rA_|apply rN_|apply rW_));exact HO379.out))) (Kd.R_lt (by (with_reducible repeat (first|apply rA_|apply rN_|apply rW_));exact HO382.out))) (keep_size (w:=w) (g:=g) (row:=none) (by repeat (first|(with_reducible first|exact HK.out|apply KeepBut.set_|apply kN_|apply keep_drew|apply kA_|refine keep_far ?_ GW370.out _|refine keep_far ?_ GW385.out _)|exact HK.out))))
       have n4_:=aM_ (IsS146.below (by repeat (first|(with_reducible first|exact HI0.out|apply yA_|apply yN_|apply yW_|apply y1_|apply y2_|refine yF_ ?_ NB0_370.out _|refine yF_ ?_ NB0_385.out _)|exact HI0.out)) hb)
       have n5_:=aM_ (blk_below (g:=gb370) (o:=.cells #[.int .i64 0,.int .i64 0,.int .i64 0,.slice none 0 0,.slice none 0 0,.slice none 0 0] 34 (0,0)) (by (with_reducible repeat (first|refine bN_ ?_ _|refine bW_ ?_|refine bA_ ?_ _));exact BK370.out) hb)
       have n6_:=aM_ (blk_below (g:=gb385) (o:=.cells #[.int .i64 t371,.int .i64 t372,.int .i64 t373,.slice Ao34 t374.length co34,.slice Ao35 t377.length co35,.slice Ao36 t380.length co36] 34 (0,0)) (by (with_reducible repeat (first|refine bN_ ?_ _|refine bW_ ?_|refine bA_ ?_ _));exact BK385.out) hb)
       have n7_:=aM_ (KeepBut.trans (by repeat (first|(with_reducible first|exact HK.out|apply KeepBut.set_|apply kN_|apply keep_drew|apply kA_|refine keep_far ?_ GW370.out _|refine keep_far ?_ GW385.out _)|exact HK.out)) (KeepBut.of_below hb g none) (.inl rfl))
       have n8_:=aM_ (below_step (by repeat (first|(with_reducible first|exact HB.out|apply lA_|apply lN_|apply below_drew1|refine bS_ ?_ (IsS146.ge HI0.out)|refine bS_ ?_ GE370.out|refine bS_ ?_ GE385.out)|exact HB.out)) hb)
       clear HO376
       clear HO379
       clear HO382
       clear HI0
       clear BK370
       clear BK385
       clear HK
       clear HB
       have HO376:=n0_
       have HO379:=n1_
       have HO382:=n2_
       have HO400:=n3_
       have HI0:=n4_
       have BK370:=n5_
       have BK385:=n6_
       have HK:=n7_
       have HB:=n8_
       clear n0_ n1_ n2_ n3_ n4_ n5_ n6_ n7_ n8_
       clear hb ho41
       refine hK.out _ _ ⟨(bC_ BK385.out 0).trans rfl,(bC_ BK385.out 1).trans rfl,(bC_ BK385.out 2).trans rfl,(bC_ BK385.out 3).trans rfl,(bC_ BK385.out 4).trans rfl,(bC_ BK385.out 5).trans rfl⟩ (fun hHeld=>?_)
       clear hK K
       refine norm_ (a':=?_) ?_ ?_
       rotate_left
       ·show Act.put _ (some 25) _=_
        simp only [Act.put,List.setIfInBounds_toArray,List.set_cons_zero,List.set_cons_succ,i64_w,i32_w]
        rfl
       refine one_ (i:=4) (N:=some 23) #[true,true,true,true,true,true,true,false,false,false] rfl rfl (one_of HT_.out (by kernel_rfl)) (by decide) (fun K hK=>?_)
       refine goes_ Try.func135 (by kernel_rfl) rfl #[.pointer (some ⟨g,0,none⟩),.int .i64 t386] (by rfl) rfl rfl (by (try simp only [List.map_toArray,List.map_cons,List.map_nil]);first|done|rfl|(simp only [List.length_drop,List.length_take];rfl)) ?_
       with_reducible refine (spec_l1Cur_pick.calls g s0_0 t388 t389 t386 t395 t396 t397 w0 _ ?side1 ?side2 A23.out).mono ?_
       (case side1=>repeat (first|(with_reducible first|exact HI0.out|apply yA_|apply yN_|apply yW_|apply y1_|apply y2_|refine yF_ ?_ NB0_370.out _|refine yF_ ?_ NB0_385.out _)|exact HI0.out))
       (case side2=>repeat (first|(with_reducible first|exact HB.out|apply lA_|apply lN_|apply below_drew1|refine bS_ ?_ (IsS146.ge HI0.out)|refine bS_ ?_ GE370.out|refine bS_ ?_ GE385.out)|exact HB.out))
       rintro e w42 ⟨rfl,hi,hb,hk⟩
       refine ⟨_,rfl,?_⟩
       have n0_:=aM_ (KeepBut.blk hk (g':=gb370) (o:=.cells #[.int .i64 0,.int .i64 0,.int .i64 0,.slice none 0 0,.slice none 0 0,.slice none 0 0] 34 (0,0)) (by (with_reducible repeat (first|refine bN_ ?_ _|refine bW_ ?_|refine bA_ ?_ _));exact BK370.out) NB370_0.out (by simp))
       have n1_:=aM_ (Kd.R_mono (Kd.R_keep (IsS146.apart (show IsS146 w0 _ g s0_0 t388 t389 from by repeat (first|(with_reducible first|exact HI0.out|apply yA_|apply yN_|apply yW_|apply y1_|apply y2_|refine yF_ ?_ NB0_370.out _|refine yF_ ?_ NB0_385.out _)|exact HI0.out)) (by (with_reducible repeat (first|apply rA_|apply rN_|apply rW_));exact HO376.out) (by decide)) hk (fun _ h=>h.2)) (fun _ h=>h.1))
       have n2_:=aM_ (Kd.R_mono (Kd.R_keep (IsS146.apart (show IsS146 w0 _ g s0_0 t388 t389 from by repeat (first|(with_reducible first|exact HI0.out|apply yA_|apply yN_|apply yW_|apply y1_|apply y2_|refine yF_ ?_ NB0_370.out _|refine yF_ ?_ NB0_385.out _)|exact HI0.out)) (by (with_reducible repeat (first|apply rA_|apply rN_|apply rW_));exact HO379.out) (by decide)) hk (fun _ h=>h.2)) (fun _ h=>h.1))
       have n3_:=aM_ (Kd.R_mono (Kd.R_keep (IsS146.apart (show IsS146 w0 _ g s0_0 t388 t389 from by repeat (first|(with_reducible first|exact HI0.out|apply yA_|apply yN_|apply yW_|apply y1_|apply y2_|refine yF_ ?_ NB0_370.out _|refine yF_ ?_ NB0_385.out _)|exact HI0.out)) (by (with_reducible repeat (first|apply rA_|apply rN_|apply rW_));exact HO382.out) (by decide)) hk (fun _ h=>h.2)) (fun _ h=>h.1))
       have n4_:=aM_ (KeepBut.blk hk (g':=gb385) (o:=.cells #[.int .i64 t371,.int .i64 t372,.int .i64 t373,.slice Ao34 t374.length co34,.slice Ao35 t377.length co35,.slice Ao36 t380.length co36] 34 (0,0)) (by (with_reducible repeat (first|refine bN_ ?_ _|refine bW_ ?_|refine bA_ ?_ _));exact BK385.out) NB385_0.out (by simp))
       have n5_:=aM_ (Kd.R_mono (Kd.R_keep (IsS146.apart (show IsS146 w0 _ g s0_0 t388 t389 from by repeat (first|(with_reducible first|exact HI0.out|apply yA_|apply yN_|apply yW_|apply y1_|apply y2_|refine yF_ ?_ NB0_370.out _|refine yF_ ?_ NB0_385.out _)|exact HI0.out)) (by (with_reducible repeat (first|apply rA_|apply rN_|apply rW_));exact HO400.out) (by decide)) hk (fun _ h=>h.2)) (fun _ h=>h.1))
       have n6_:=aM_ (KeepBut.trans (by repeat (first|(with_reducible first|exact HK.out|apply KeepBut.set_|apply kN_|apply keep_drew|apply kA_|refine keep_far ?_ GW370.out _|refine keep_far ?_ GW385.out _)|exact HK.out)) hk (.inl rfl))
       have n7_:=aM_ (hb)
       have n8_:=aM_ (hi)
       clear BK370
       clear HO376
       clear HO379
       clear HO382
       clear BK385
       clear HO400
       clear HK
       clear HB
       clear HI0
       have BK370:=n0_
       have HO376:=n1_
       have HO379:=n2_
       have HO382:=n3_
       have BK385:=n4_
       have HO400:=n5_
       have HK:=n6_
       have HB:=n7_
       have HI0:=n8_
       clear n0_ n1_ n2_ n3_ n4_ n5_ n6_ n7_ n8_
       (try clear hb)
       (try clear hb2)
       (try clear hk)
       (try clear hi)
       refine hK.out _ _ ⟨(bC_ BK385.out 0).trans rfl,(bC_ BK385.out 1).trans rfl,(bC_ BK385.out 2).trans rfl,(bC_ BK385.out 3).trans rfl,(bC_ BK385.out 4).trans rfl,(bC_ BK385.out 5).trans rfl⟩ (fun hHeld=>?_)
       clear hK K
       refine norm_ (a':=?_) ?_ ?_
       rotate_left
       ·show Act.put _ (some 23) _=_
        simp only [Act.put,List.setIfInBounds_toArray,List.set_cons_zero,List.set_cons_succ,i64_w,i32_w]
        rfl
       exact norm_ (by simp only [putAll,Act.put,List.setIfInBounds_toArray,List.set_cons_zero,List.set_cons_succ]) (hCont (v399) _ ⟨hHeld,(by (with_reducible repeat (first|apply rA_|apply rN_|apply rW_));exact Kd.R_mono HO376.out (fun _ hk=>⟨hk.1.1,⟨hk.1.2,hk.2⟩⟩)),(by (with_reducible repeat (first|apply rA_|apply rN_|apply rW_));exact Kd.R_mono HO379.out (fun _ hk=>⟨hk.1.1,⟨hk.1.2,hk.2⟩⟩)),(by (with_reducible repeat (first|apply rA_|apply rN_|apply rW_));exact Kd.R_mono HO382.out (fun _ hk=>⟨hk.1.1,⟨hk.1.2,hk.2⟩⟩)),(by (with_reducible repeat (first|apply rA_|apply rN_|apply rW_));exact Kd.R_mono HO400.out (fun _ hk=>⟨hk.1.1.2,⟨hk.1.2,hk.2⟩⟩)),(by (with_reducible repeat (first|refine bN_ ?_ _|refine bW_ ?_|refine bA_ ?_ _));exact BK370.out),(by (with_reducible repeat (first|refine bN_ ?_ _|refine bW_ ?_|refine bA_ ?_ _));exact BK385.out),(by repeat (first|(with_reducible first|exact HI0.out|apply yA_|apply yN_|apply yW_|apply y1_|apply y2_|refine yF_ ?_ NB0_370.out _|refine yF_ ?_ NB0_385.out _)|exact HI0.out)),(by repeat (first|(with_reducible first|exact HK.out|apply KeepBut.set_|apply kN_|apply keep_drew|apply kA_|refine keep_far ?_ GW370.out _|refine keep_far ?_ GW385.out _)|exact HK.out)),(by repeat (first|(with_reducible first|exact HB.out|apply lA_|apply lN_|apply below_drew1|refine bS_ ?_ (IsS146.ge HI0.out)|refine bS_ ?_ GE370.out|refine bS_ ?_ GE385.out)|exact HB.out))⟩)
     rintro v399 w43 ⟨hS_,h0_,h1_,h2_,h3_,h4_,h5_,h6_,h7_,h8_⟩
     have n0_:Aside0 (Kd.R (Kd.int .i64) 3 w43 w.heap.size (fun k_=>some k_≠(.slice Ao35 t377.length co35:Value).ownBlock∧some k_≠(.slice Ao36 t380.length co36:Value).ownBlock∧some k_≠(v399:Value).ownBlock) (.slice Ao34 t374.length co34) t374):=⟨h0_⟩
     have n1_:Aside0 (Kd.R (Kd.int .i64) 3 w43 w.heap.size (fun k_=>some k_≠(.slice Ao34 t374.length co34:Value).ownBlock∧some k_≠(.slice Ao36 t380.length co36:Value).ownBlock∧some k_≠(v399:Value).ownBlock) (.slice Ao35 t377.length co35) t377):=⟨h1_⟩
     have n2_:Aside0 (Kd.R (Kd.int .i64) 3 w43 w.heap.size (fun k_=>some k_≠(.slice Ao34 t374.length co34:Value).ownBlock∧some k_≠(.slice Ao35 t377.length co35:Value).ownBlock∧some k_≠(v399:Value).ownBlock) (.slice Ao36 t380.length co36) t380):=⟨h2_⟩
     have n3_:Aside0 (Kd.R (Kd.int .i64) 3 w43 w.heap.size (fun k_=>some k_≠(.slice Ao34 t374.length co34:Value).ownBlock∧some k_≠(.slice Ao35 t377.length co35:Value).ownBlock∧some k_≠(.slice Ao36 t380.length co36:Value).ownBlock) v399 y398):=⟨h3_⟩
     have n4_:Aside0 (w43.heap[gb370]?=some (.cells #[.int .i64 0,.int .i64 0,.int .i64 0,.slice none 0 0,.slice none 0 0,.slice none 0 0] 34 (0,0))):=⟨h4_⟩
     have n5_:Aside0 (w43.heap[gb385]?=some (.cells #[.int .i64 t371,.int .i64 t372,.int .i64 t373,.slice Ao34 t374.length co34,.slice Ao35 t377.length co35,.slice Ao36 t380.length co36] 34 (0,0))):=⟨h5_⟩
     have n6_:Aside0 (IsS146 w0 w43 g s0_0 t396 t397):=⟨h6_⟩
     have n7_:Aside0 (KeepBut w w43 g none):=⟨h7_⟩
     have n8_:Aside0 (Below w0.heap.size w0 w43):=⟨h8_⟩
     clear HO376
     clear HO379
     clear HO382
     clear BK370
     clear BK385
     clear HI0
     clear HK
     clear HB
     clear h0_ h1_ h2_ h3_ h4_ h5_ h6_ h7_ h8_
     have HO376:=n0_
     have HO379:=n1_
     have HO382:=n2_
     have HO400:=n3_
     have BK370:=n4_
     have BK385:=n5_
     have HI0:=n6_
     have HK:=n7_
     have HB:=n8_
     clear n0_ n1_ n2_ n3_ n4_ n5_ n6_ n7_ n8_
     have hHeld:w43.cell? ⟨gb385,0,none⟩=some (.int .i64 t371)∧w43.cell? ⟨gb385,1,none⟩=some (.int .i64 t372)∧w43.cell? ⟨gb385,2,none⟩=some (.int .i64 t373)∧w43.cell? ⟨gb385,3,none⟩=some (.slice Ao34 t374.length co34)∧w43.cell? ⟨gb385,4,none⟩=some (.slice Ao35 t377.length co35)∧w43.cell? ⟨gb385,5,none⟩=some (.slice Ao36 t380.length co36):=hS_
     obtain ⟨Ao44,co44,eo44⟩:=Kd.R_slice HO400.out
     (first|subst eo44|(injection eo44 with f1_ f2_ f3_;have f4_:=f1_.symm;have f5_:=f3_.symm;clear f1_ f2_ f3_;subst f4_;subst f5_))
     refine norm_ (a':=?_) ?_ ?_
     rotate_left
     ·simp only [putAll,Act.put,List.setIfInBounds_toArray,List.set_cons_zero,List.set_cons_succ]
      rfl
     refine one_ (i:=7) (N:=some 26) #[true,true,true,true,true,true,true,true,false,false] rfl rfl (one_of HT_.out (by kernel_rfl)) (by decide) (fun K hK=>?_)
     refine goes_ Try.func128 (by kernel_rfl) rfl #[.pointer (some ⟨g,0,none⟩),.slice Ao44 y398.length co44] (by rfl) rfl rfl (by (try simp only [List.map_toArray,List.map_cons,List.map_nil]);first|done|rfl|(simp only [List.length_drop,List.length_take];rfl)) ?_
     with_reducible refine (spec_l1Cur_among.calls g s0_0 t396 t397 _ _ y398 t401 t402 t403 w0 _ ?side1 ?side2 ?side3 ?side4 ?side5 A24.out).mono ?_
     (case side1=>repeat (first|(with_reducible first|exact HI0.out|apply yA_|apply yN_|apply yW_|apply y1_|apply y2_|refine yF_ ?_ NB0_370.out _|refine yF_ ?_ NB0_385.out _)|exact HI0.out))
     (case side2=>repeat (first|(with_reducible first|exact HB.out|apply lA_|apply lN_|apply below_drew1|refine bS_ ?_ (IsS146.ge HI0.out)|refine bS_ ?_ GE370.out|refine bS_ ?_ GE385.out)|exact HB.out))
     (case side3=>repeat (first|exact (Kd.R_reads' HO400.out).2.2|(with_reducible refine Kd.C_alloc ?_ _)|(with_reducible refine Kd.C_drewN ?_ _)|(with_reducible refine Kd.C_drew ?_)))
     (case side4=>exact (Kd.R_reads' HO400.out).2.1)
     (case side5=>exact far_slice (IsS146.own_ne HI0.out HO400.out (by decide)))
     rintro e w45 ⟨rfl,hi,hb,hk⟩
     refine ⟨_,rfl,?_⟩
     have n0_:=aM_ (KeepBut.blk hk (g':=gb370) (o:=.cells #[.int .i64 0,.int .i64 0,.int .i64 0,.slice none 0 0,.slice none 0 0,.slice none 0 0] 34 (0,0)) (by (with_reducible repeat (first|refine bN_ ?_ _|refine bW_ ?_|refine bA_ ?_ _));exact BK370.out) NB370_0.out (by simp))
     have n1_:=aM_ (Kd.R_mono (Kd.R_keep (IsS146.apart (show IsS146 w0 _ g s0_0 t396 t397 from by repeat (first|(with_reducible first|exact HI0.out|apply yA_|apply yN_|apply yW_|apply y1_|apply y2_|refine yF_ ?_ NB0_370.out _|refine yF_ ?_ NB0_385.out _)|exact HI0.out)) (by (with_reducible repeat (first|apply rA_|apply rN_|apply rW_));exact HO376.out) (by decide)) hk (fun _ h=>h.2)) (fun _ h=>h.1))
     have n2_:=aM_ (Kd.R_mono (Kd.R_keep (IsS146.apart (show IsS146 w0 _ g s0_0 t396 t397 from by repeat (first|(with_reducible first|exact HI0.out|apply yA_|apply yN_|apply yW_|apply y1_|apply y2_|refine yF_ ?_ NB0_370.out _|refine yF_ ?_ NB0_385.out _)|exact HI0.out)) (by (with_reducible repeat (first|apply rA_|apply rN_|apply rW_));exact HO379.out) (by decide)) hk (fun _ h=>h.2)) (fun _ h=>h.1))
     have n3_:=aM_ (Kd.R_mono (Kd.R_keep (IsS146.apart (show IsS146 w0 _ g s0_0 t396 t397 from by repeat (first|(with_reducible first|exact HI0.out|apply yA_|apply yN_|apply yW_|apply y1_|apply y2_|refine yF_ ?_ NB0_370.out _|refine yF_ ?_ NB0_385.out _)|exact HI0.out)) (by (with_reducible repeat (first|apply rA_|apply rN_|apply rW_));exact HO382.out) (by decide)) hk (fun _ h=>h.2)) (fun _ h=>h.1))
     have n4_:=aM_ (KeepBut.blk hk (g':=gb385) (o:=.cells #[.int .i64 t371,.int .i64 t372,.int .i64 t373,.slice Ao34 t374.length co34,.slice Ao35 t377.length co35,.slice Ao36 t380.length co36] 34 (0,0)) (by (with_reducible repeat (first|refine bN_ ?_ _|refine bW_ ?_|refine bA_ ?_ _));exact BK385.out) NB385_0.out (by simp))
     have n5_:=aM_ (Kd.R_mono (Kd.R_keep (IsS146.apart (show IsS146 w0 _ g s0_0 t396 t397 from by repeat (first|(with_reducible first|exact HI0.out|apply yA_|apply yN_|apply yW_|apply y1_|apply y2_|refine yF_ ?_ NB0_370.out _|refine yF_ ?_ NB0_385.out _)|exact HI0.out)) (by (with_reducible repeat (first|apply rA_|apply rN_|apply rW_));exact HO400.out) (by decide)) hk (fun _ h=>h.2)) (fun _ h=>h.1))
     have n6_:=aM_ (KeepBut.trans (by repeat (first|(with_reducible first|exact HK.out|apply KeepBut.set_|apply kN_|apply keep_drew|apply kA_|refine keep_far ?_ GW370.out _|refine keep_far ?_ GW385.out _)|exact HK.out)) hk (.inl rfl))
     have n7_:=aM_ (hb)
     have n8_:=aM_ (hi)
     clear BK370
     clear HO376
     clear HO379
     clear HO382
     clear BK385
     clear HO400
     clear HK
     clear HB
     clear HI0
     have BK370:=n0_
     have HO376:=n1_
     have HO379:=n2_
     have HO382:=n3_
     have BK385:=n4_
     have HO400:=n5_
     have HK:=n6_
     have HB:=n7_
     have HI0:=n8_
     clear n0_ n1_ n2_ n3_ n4_ n5_ n6_ n7_ n8_
     (try clear hb)
     (try clear hb2)
     (try clear hk)
     (try clear hi)
     have p27:0≤(t395:Int):=of_decide_eq_true (by first|(with_reducible assumption)|assumption)
     have q27:(t395:Int) < ((t374.length:Int):Int):=of_decide_eq_true (by first|(with_reducible assumption)|assumption)
     obtain ⟨go27,co27,eo27,gb27,gl27,cl27,HG27⟩:=Kd.R_form HO376.out (by omega)
     (first|cases eo27|(injection eo27 with ea_ en_ ec_;(first|subst ea_|(injection ea_ with ea_;subst ea_));subst ec_;clear en_))
     have GB27:=aM_ gb27
     have GG27:=aM_ HG27
     clear gb27 gl27 HG27
     obtain ⟨hx27_0,hf27_0⟩:=Kd.R_celln 0 HO376.out (t395:Int) p27 q27
     replace p27:=eq_true p27
     replace q27:=eq_true q27
     have HN0_go27:=aM_ (show g≠go27 from by have h_:=IsS146.own_ne HI0.out HO376.out (by decide);intro e_;exact h_ (by rw [e_];rfl))
     have HP46:=Kd.R_putn HO376.out (t395:Int) t401
     rw [← Ny404.out] at HP46
     have HQ46:=aM_ HP46
     clear HP46
     refine hK.out _ _ ⟨(bC_ BK385.out 0).trans rfl,(bC_ BK385.out 1).trans rfl,(bC_ BK385.out 2).trans rfl,(bC_ BK385.out 3).trans rfl,(bC_ BK385.out 4).trans rfl,(bC_ BK385.out 5).trans rfl⟩ (fun hHeld=>?_)
     clear hK K
     refine norm_ (a':=?_) ?_ ?_
     rotate_left
     ·show Act.put _ (some 26) _=_
      simp only [Act.put,List.setIfInBounds_toArray,List.set_cons_zero,List.set_cons_succ,i64_w,i32_w]
      rfl
     refine pure_ (i:=8) (N:=some 27) (v:=?_) (a':=?_) #[true,true,true,true,true,true,true,true,true,false] rfl rfl (any_of HT_.out (by kernel_rfl)) (fun _ _ _ h=>h) (Or.inl ⟨by rfl,?_⟩) ?_ ?_
     rotate_left
     ·intro w'
      go_simp
      with_reducible rfl
     rotate_left
     ·simp only [Act.put,List.setIfInBounds_toArray,List.set_cons_zero,List.set_cons_succ,i64_w,i32_w]
      rfl
     refine last_ (i:=9) (N:=none) #[true,true,true,true,true,true,true,true,true,true] rfl rfl (one_of HT_.out (by kernel_rfl)) (by decide) (fun K hK=>?_)
     refine skip_ (w1:=?_) (by rfl) rfl ?_ ?_
     rotate_left
     ·go_simp
      rfl
     refine hK.out _ _ ?_
     clear hK K
     refine done_ (done_of HT_.out (by kernel_rfl)) ?_
     have n0_:Aside0 (Kd.R (Kd.int .i64) 3 (w45.setCell ⟨go27,(t395:Int).toNat,none⟩ (.int .i64 t401)) w.heap.size (fun k_=>some k_≠(.slice Ao35 t377.length co35:Value).ownBlock∧some k_≠(.slice Ao36 t380.length co36:Value).ownBlock∧some k_≠(.slice Ao44 y398.length co44:Value).ownBlock) (.slice (some ⟨go27,0,none⟩) t374.length co34) y404):=⟨by (with_reducible repeat (first|apply rA_|apply rN_|apply rW_));exact HQ46.out⟩
     have n1_:Aside0 (Kd.R (Kd.int .i64) 3 (w45.setCell ⟨go27,(t395:Int).toNat,none⟩ (.int .i64 t401)) w.heap.size (fun k_=>some k_≠(.slice (some ⟨go27,0,none⟩) t374.length co34:Value).ownBlock∧some k_≠(.slice Ao36 t380.length co36:Value).ownBlock∧some k_≠(.slice Ao44 y398.length co44:Value).ownBlock) (.slice Ao35 t377.length co35) t377):=⟨by (with_reducible repeat (first|apply rA_|apply rN_|apply rW_));exact Kd.R_mono (rF_ (p:=⟨go27,(t395:Int).toNat,none⟩) (Kd.R_mono HO379.out (fun k_ hk=>(⟨hk,fun e_=>hk.1 (by rw [e_];rfl)⟩:_∧k_≠go27))) (fun _ hk=>hk.2) (.int .i64 t401)) (fun _ hk=>⟨hk.1.1,⟨hk.1.2.1,hk.1.2.2⟩⟩)⟩
     have n2_:Aside0 (Kd.R (Kd.int .i64) 3 (w45.setCell ⟨go27,(t395:Int).toNat,none⟩ (.int .i64 t401)) w.heap.size (fun k_=>some k_≠(.slice (some ⟨go27,0,none⟩) t374.length co34:Value).ownBlock∧some k_≠(.slice Ao35 t377.length co35:Value).ownBlock∧some k_≠(.slice Ao44 y398.length co44:Value).ownBlock) (.slice Ao36 t380.length co36) t380):=⟨by (with_reducible repeat (first|apply rA_|apply rN_|apply rW_));exact Kd.R_mono (rF_ (p:=⟨go27,(t395:Int).toNat,none⟩) (Kd.R_mono HO382.out (fun k_ hk=>(⟨hk,fun e_=>hk.1 (by rw [e_];rfl)⟩:_∧k_≠go27))) (fun _ hk=>hk.2) (.int .i64 t401)) (fun _ hk=>⟨hk.1.1,⟨hk.1.2.1,hk.1.2.2⟩⟩)⟩
     have n3_:Aside0 (Kd.R (Kd.int .i64) 3 (w45.setCell ⟨go27,(t395:Int).toNat,none⟩ (.int .i64 t401)) w.heap.size (fun k_=>some k_≠(.slice (some ⟨go27,0,none⟩) t374.length co34:Value).ownBlock∧some k_≠(.slice Ao35 t377.length co35:Value).ownBlock∧some k_≠(.slice Ao36 t380.length co36:Value).ownBlock) (.slice Ao44 y398.length co44) y398):=⟨by (with_reducible repeat (first|apply rA_|apply rN_|apply rW_));exact Kd.R_mono (rF_ (p:=⟨go27,(t395:Int).toNat,none⟩) (Kd.R_mono HO400.out (fun k_ hk=>(⟨hk,fun e_=>hk.1 (by rw [e_];rfl)⟩:_∧k_≠go27))) (fun _ hk=>hk.2) (.int .i64 t401)) (fun _ hk=>⟨hk.1.1,⟨hk.1.2.1,hk.1.2.2⟩⟩)⟩
     have n4_:Aside0 ((w45.setCell ⟨go27,(t395:Int).toNat,none⟩ (.int .i64 t401)).heap[gb370]?=some (.cells #[.int .i64 0,.int .i64 0,.int .i64 0,.slice none 0 0,.slice none 0 0,.slice none 0 0] 34 (0,0))):=⟨by (with_reducible repeat (first|refine bN_ ?_ _|refine bW_ ?_|refine bA_ ?_ _));refine blk_far ?_ (by have h_:=Kd.R_ne HO376.out BK370.out (by decide);intro e_;exact h_ (by rw [e_];rfl)) _;(with_reducible repeat (first|refine bN_ ?_ _|refine bW_ ?_|refine bA_ ?_ _));exact BK370.out⟩
     have n5_:Aside0 ((w45.setCell ⟨go27,(t395:Int).toNat,none⟩ (.int .i64 t401)).heap[gb385]?=some (.cells #[.int .i64 t371,.int .i64 t372,.int .i64 t373,.slice (some ⟨go27,0,none⟩) t374.length co34,.slice Ao35 t377.length co35,.slice Ao36 t380.length co36] 34 (0,0))):=⟨by (with_reducible repeat (first|refine bN_ ?_ _|refine bW_ ?_|refine bA_ ?_ _));refine blk_far ?_ (by have h_:=Kd.R_ne HO376.out BK385.out (by decide);intro e_;exact h_ (by rw [e_];rfl)) _;(with_reducible repeat (first|refine bN_ ?_ _|refine bW_ ?_|refine bA_ ?_ _));exact BK385.out⟩
     have n6_:Aside0 (IsS146 w0 (w45.setCell ⟨go27,(t395:Int).toNat,none⟩ (.int .i64 t401)) g s0_0 t402 t403):=⟨by repeat (first|(with_reducible first|exact HI0.out|apply yA_|apply yN_|apply yW_|apply y1_|apply y2_|refine yF_ ?_ HN0_go27.out _|refine yF_ ?_ NB0_370.out _|refine yF_ ?_ NB0_385.out _)|exact HI0.out)⟩
     have n7_:Aside0 (KeepBut w (w45.setCell ⟨go27,(t395:Int).toNat,none⟩ (.int .i64 t401)) g none):=⟨by repeat (first|(with_reducible first|exact HK.out|apply KeepBut.set_|apply kN_|apply keep_drew|apply kA_|refine keep_far ?_ GB27.out _|refine keep_far ?_ GW370.out _|refine keep_far ?_ GW385.out _)|exact HK.out)⟩
     have n8_:Aside0 (Below w0.heap.size w0 (w45.setCell ⟨go27,(t395:Int).toNat,none⟩ (.int .i64 t401))):=⟨by repeat (first|(with_reducible first|exact HB.out|apply lA_|apply lN_|apply below_drew1|refine bS_ ?_ (Nat.le_trans HL.out GB27.out)|refine bS_ ?_ (IsS146.ge HI0.out)|refine bS_ ?_ GE370.out|refine bS_ ?_ GE385.out)|exact HB.out)⟩
     (try clear HO376)
     (try clear HO379)
     (try clear HO382)
     (try clear HO400)
     (try clear BK370)
     (try clear BK385)
     (try clear HI0)
     (try clear HK)
     (try clear HB)
     generalize (w45.setCell ⟨go27,(t395:Int).toNat,none⟩ (.int .i64 t401))=w47 at n0_ n1_ n2_ n3_ n4_ n5_ n6_ n7_ n8_ ⊢
     have HO376:=n0_
     have HO379:=n1_
     have HO382:=n2_
     have HO400:=n3_
     have BK370:=n4_
     have BK385:=n5_
     have HI0:=n6_
     have HK:=n7_
     have HB:=n8_
     clear n0_ n1_ n2_ n3_ n4_ n5_ n6_ n7_ n8_
     have hcz48_0:w47.cell? ⟨gb385,0,none⟩=some (.int .i64 t371):=(bC_ BK385.out 0).trans rfl
     have hcz48_1:w47.cell? ⟨gb385,1,none⟩=some (.int .i64 t372):=(bC_ BK385.out 1).trans rfl
     have hcz48_2:w47.cell? ⟨gb385,2,none⟩=some (.int .i64 t373):=(bC_ BK385.out 2).trans rfl
     have hcz48_3:w47.cell? ⟨gb385,3,none⟩=some (.slice (some ⟨go27,0,none⟩) t374.length co34):=(bC_ BK385.out 3).trans rfl
     have hcz48_4:w47.cell? ⟨gb385,4,none⟩=some (.slice Ao35 t377.length co35):=(bC_ BK385.out 4).trans rfl
     have hcz48_5:w47.cell? ⟨gb385,5,none⟩=some (.slice Ao36 t380.length co36):=(bC_ BK385.out 5).trans rfl
     have hfz48_0:=blk_frozen BK385.out 0
     have hfz48_1:=blk_frozen BK385.out 1
     have hfz48_2:=blk_frozen BK385.out 2
     have hfz48_3:=blk_frozen BK385.out 3
     have hfz48_4:=blk_frozen BK385.out 4
     have hfz48_5:=blk_frozen BK385.out 5
     have hnb49:=NB370_0.out
     have hnc49:=NB0_370.out
     have hcz50_0:w47.cell? ⟨gb370,0,none⟩=some (.int .i64 0):=(bC_ BK370.out 0).trans rfl
     have hcz50_1:w47.cell? ⟨gb370,1,none⟩=some (.int .i64 0):=(bC_ BK370.out 1).trans rfl
     have hcz50_2:w47.cell? ⟨gb370,2,none⟩=some (.int .i64 0):=(bC_ BK370.out 2).trans rfl
     have hcz50_3:w47.cell? ⟨gb370,3,none⟩=some (.slice none 0 0):=(bC_ BK370.out 3).trans rfl
     have hcz50_4:w47.cell? ⟨gb370,4,none⟩=some (.slice none 0 0):=(bC_ BK370.out 4).trans rfl
     have hcz50_5:w47.cell? ⟨gb370,5,none⟩=some (.slice none 0 0):=(bC_ BK370.out 5).trans rfl
     have hfz50_0:=blk_frozen BK370.out 0
     have hfz50_1:=blk_frozen BK370.out 1
     have hfz50_2:=blk_frozen BK370.out 2
     have hfz50_3:=blk_frozen BK370.out 3
     have hfz50_4:=blk_frozen BK370.out 4
     have hfz50_5:=blk_frozen BK370.out 5
     try go_wp2
     refine bodyPost_ret (results_cell_row rfl _ _ gb370 34 #[.int .i64 t371,.int .i64 t372,.int .i64 t373,.slice (some ⟨go27,0,none⟩) t374.length co34,.slice Ao35 t377.length co35,.slice Ao36 t380.length co36] (0,0) _ rfl (by (with_reducible repeat (first|refine bN_ ?_ _|refine bW_ ?_|refine bA_ ?_ _));refine blk_put (cs:=#[.int .i64 t371,.int .i64 t372,.int .i64 t373,.slice (some ⟨go27,0,none⟩) t374.length co34,.slice Ao35 t377.length co35,.slice none 0 0]) ?_ 5 _ rfl;(with_reducible repeat (first|refine bN_ ?_ _|refine bW_ ?_|refine bA_ ?_ _));refine blk_put (cs:=#[.int .i64 t371,.int .i64 t372,.int .i64 t373,.slice (some ⟨go27,0,none⟩) t374.length co34,.slice none 0 0,.slice none 0 0]) ?_ 4 _ rfl;(with_reducible repeat (first|refine bN_ ?_ _|refine bW_ ?_|refine bA_ ?_ _));refine blk_put (cs:=#[.int .i64 t371,.int .i64 t372,.int .i64 t373,.slice none 0 0,.slice none 0 0,.slice none 0 0]) ?_ 3 _ rfl;(with_reducible repeat (first|refine bN_ ?_ _|refine bW_ ?_|refine bA_ ?_ _));refine blk_put (cs:=#[.int .i64 t371,.int .i64 t372,.int .i64 0,.slice none 0 0,.slice none 0 0,.slice none 0 0]) ?_ 2 _ rfl;(with_reducible repeat (first|refine bN_ ?_ _|refine bW_ ?_|refine bA_ ?_ _));refine blk_put (cs:=#[.int .i64 t371,.int .i64 0,.int .i64 0,.slice none 0 0,.slice none 0 0,.slice none 0 0]) ?_ 1 _ rfl;(with_reducible repeat (first|refine bN_ ?_ _|refine bW_ ?_|refine bA_ ?_ _));refine blk_put (cs:=#[.int .i64 0,.int .i64 0,.int .i64 0,.slice none 0 0,.slice none 0 0,.slice none 0 0]) ?_ 0 _ rfl;(with_reducible repeat (first|refine bN_ ?_ _|refine bW_ ?_|refine bA_ ?_ _));exact BK370.out) Try.underlying34 rfl (by kernel_rfl)) rfl ?_
     exact ⟨_,_,_,by first|rfl|(simp [errW_none,errW_some] <;> rfl)|(simp [*,errW_none,errW_some] <;> rfl),by (with_reducible repeat (first|apply rA_|apply rN_|apply rW_));exact Kd.R_mono (rF_ (p:=⟨gb370,5,none⟩) (rF_ (p:=⟨gb370,4,none⟩) (rF_ (p:=⟨gb370,3,none⟩) (rF_ (p:=⟨gb370,2,none⟩) (rF_ (p:=⟨gb370,1,none⟩) (rF_ (p:=⟨gb370,0,none⟩) (Kd.R_types HO376.out BK370.out (by decide)) (fun _ hk=>hk.2) (.int .i64 t371)) (fun _ hk=>hk.2) (.int .i64 t372)) (fun _ hk=>hk.2) (.int .i64 t373)) (fun _ hk=>hk.2) (.slice (some ⟨go27,0,none⟩) t374.length co34)) (fun _ hk=>hk.2) (.slice Ao35 t377.length co35)) (fun _ hk=>hk.2) (.slice Ao36 t380.length co36)) (fun _ hk=>⟨hk.1.1,hk.1.2.1⟩),by (with_reducible repeat (first|apply rA_|apply rN_|apply rW_));exact Kd.R_mono (rF_ (p:=⟨gb370,5,none⟩) (rF_ (p:=⟨gb370,4,none⟩) (rF_ (p:=⟨gb370,3,none⟩) (rF_ (p:=⟨gb370,2,none⟩) (rF_ (p:=⟨gb370,1,none⟩) (rF_ (p:=⟨gb370,0,none⟩) (Kd.R_types HO379.out BK370.out (by decide)) (fun _ hk=>hk.2) (.int .i64 t371)) (fun _ hk=>hk.2) (.int .i64 t372)) (fun _ hk=>hk.2) (.int .i64 t373)) (fun _ hk=>hk.2) (.slice (some ⟨go27,0,none⟩) t374.length co34)) (fun _ hk=>hk.2) (.slice Ao35 t377.length co35)) (fun _ hk=>hk.2) (.slice Ao36 t380.length co36)) (fun _ hk=>⟨hk.1.1,hk.1.2.1⟩),by (with_reducible repeat (first|apply rA_|apply rN_|apply rW_));exact Kd.R_mono (rF_ (p:=⟨gb370,5,none⟩) (rF_ (p:=⟨gb370,4,none⟩) (rF_ (p:=⟨gb370,3,none⟩) (rF_ (p:=⟨gb370,2,none⟩) (rF_ (p:=⟨gb370,1,none⟩) (rF_ (p:=⟨gb370,0,none⟩) (Kd.R_types HO382.out BK370.out (by decide)) (fun _ hk=>hk.2) (.int .i64 t371)) (fun _ hk=>hk.2) (.int .i64 t372)) (fun _ hk=>hk.2) (.int .i64 t373)) (fun _ hk=>hk.2) (.slice (some ⟨go27,0,none⟩) t374.length co34)) (fun _ hk=>hk.2) (.slice Ao35 t377.length co35)) (fun _ hk=>hk.2) (.slice Ao36 t380.length co36)) (fun _ hk=>⟨hk.1.1,hk.1.2.1⟩),by repeat (first|(with_reducible first|exact HI0.out|apply yA_|apply yN_|apply yW_|apply y1_|apply y2_|refine yF_ ?_ NB0_370.out _|refine yF_ ?_ NB0_385.out _)|exact HI0.out),by repeat (first|(with_reducible first|exact HB.out|apply lA_|apply lN_|apply below_drew1|refine bS_ ?_ (IsS146.ge HI0.out)|refine bS_ ?_ GE370.out|refine bS_ ?_ GE385.out)|exact HB.out),by repeat (first|(with_reducible first|exact HK.out|apply KeepBut.set_|apply kN_|apply keep_drew|apply kA_|refine keep_far ?_ GW370.out _|refine keep_far ?_ GW385.out _)|exact HK.out)⟩
    ·rw [if_neg c26] at H
     exact absurd H (by simp)
   ·rw [if_neg c25] at H
    exact absurd H (by simp)
  ·rw [if_neg c22] at H
   have c22b0:(t387 == 1)=false:=beq_eq_false_iff_ne.mpr c22
   have c22b1:(t387 != 1)=true:=bne_iff_ne.mpr c22
   by_cases c51:t387=2
   ·rw [if_pos c51] at H
    have c51b0:(t387 == 2)=true:=beq_iff_eq.mpr c51
    have c51b1:(t387 != 2)=false:=bne_eq_false_iff_eq.mpr c51
    clear c51
    replace H:=Option.bind_eq_some_iff.mp H
    obtain ⟨⟨t405,t406,t407⟩,A520,H⟩:=H
    replace H:((spec_l1Cur_among.f s0_0 t406 t407 (([(-1),1000,1001]:List Int))).bind fun bt411=>(if 0≤t405 then (if t405 < (t377.length:Int) then (some (t371,t372,t373,t374,(t377.set (t405:Int).toNat bt411.1),t380,bt411.2.1,bt411.2.2)) else (none)) else (none)))=some (r1,r2,r3,r4,r5,r6,r7,r8):=H
    have A52:=aM_ A520
    clear A520
    obtain ⟨y408,hy408⟩:∃ y_:List Int,y_=(([(-1),1000,1001]:List Int)):=⟨_,rfl⟩
    replace H:((spec_l1Cur_among.f s0_0 t406 t407 y408).bind fun bt411=>(if 0≤t405 then (if t405 < (t377.length:Int) then (some (t371,t372,t373,t374,(t377.set (t405:Int).toNat bt411.1),t380,bt411.2.1,bt411.2.2)) else (none)) else (none)))=some (r1,r2,r3,r4,r5,r6,r7,r8):=by first|(rw [hy408];with_reducible exact H)|(have H2_:=(Option.bind_some _ _).symm.trans H;rw [hy408];with_reducible exact H2_)|(have H2_:=(Option.bind_some _ _).symm.trans H;with_reducible exact H2_)|with_reducible exact H|(rw [hy408];exact H)|exact H
    have Ny408:=aM_ hy408
    clear hy408
    replace H:=Option.bind_eq_some_iff.mp H
    obtain ⟨⟨t411,t412,t413⟩,A530,H⟩:=H
    replace H:(if 0≤t405 then (if t405 < (t377.length:Int) then (some (t371,t372,t373,t374,(t377.set (t405:Int).toNat t411),t380,t412,t413)) else (none)) else (none))=some (r1,r2,r3,r4,r5,r6,r7,r8):=H
    have A53:=aM_ A530
    clear A530
    by_cases c54:0≤t405
    ·rw [if_pos c54] at H
     have c54b0:decide (0≤t405)=true:=decide_eq_true c54
     clear c54
     by_cases c55:t405 < (t377.length:Int)
     ·rw [if_pos c55] at H
      have c55b0:decide (t405 < (t377.length:Int))=true:=decide_eq_true c55
      clear c55
      obtain ⟨y414,hy414⟩:∃ y_:List Int,y_=(t377.set (t405:Int).toNat t411):=⟨_,rfl⟩
      replace H:(some (t371,t372,t373,t374,y414,t380,t412,t413))=some (r1,r2,r3,r4,r5,r6,r7,r8):=by first|(rw [hy414];with_reducible exact H)|(have H2_:=(Option.bind_some _ _).symm.trans H;rw [hy414];with_reducible exact H2_)|(have H2_:=(Option.bind_some _ _).symm.trans H;with_reducible exact H2_)|with_reducible exact H|(rw [hy414];exact H)|exact H
      have Ny414:=aM_ hy414
      clear hy414
      simp only [Option.some.injEq,Prod.mk.injEq] at H
      obtain ⟨rfl,rfl,rfl,rfl,rfl,rfl,rfl,rfl⟩:=H
      go_enter Try.func134,Try.ntmps134
      try go_wp2_with (first|((with_reducible refine gate_dst (N:=2) rfl ?_);refine box_event ?hg (N:=2) ?hd (cs:=#[.int .i64 0,.int .i64 0,.int .i64 0,.slice none 0 0,.slice none 0 0,.slice none 0 0]) (t:=34) ?hr ?_;(case hd=>rfl);(case hg=>rfl);(case hr=>first|(go_simp;done)|(go_simp;rfl));intro gb370 hg w57 hbox hb;have n0_:=aM_ (IsS146.below (by repeat (first|(with_reducible first|exact HI0.out|apply yA_|apply yN_|apply yW_|apply y1_|apply y2_)|exact HI0.out)) hb);have n1_:=aM_ (KeepBut.trans (by repeat (first|(with_reducible first|exact HK.out|apply KeepBut.set_|apply kN_|apply keep_drew|apply kA_)|exact HK.out)) (KeepBut.of_below hb g none) (.inl rfl));have n2_:=aM_ (below_step (by repeat (first|(with_reducible first|exact HB.out|apply lA_|apply lN_|apply below_drew1|refine bS_ ?_ (IsS146.ge HI0.out))|exact HB.out)) hb);have n3_:=aM_ (hbox);have n4_:=aM_ ((by rw [hg];exact (keep_size (w:=w) (g:=g) (row:=none) (by repeat (first|(with_reducible first|exact HK.out|apply KeepBut.set_|apply kN_|apply keep_drew|apply kA_)|exact HK.out))):w.heap.size≤gb370));have n5_:=aM_ ((Nat.le_trans HW0.out (by rw [hg];exact (keep_size (w:=w) (g:=g) (row:=none) (by repeat (first|(with_reducible first|exact HK.out|apply KeepBut.set_|apply kN_|apply keep_drew|apply kA_)|exact HK.out))):w.heap.size≤gb370):w0.heap.size≤gb370));have n6_:=aM_ ((by rw [hg];exact Nat.ne_of_lt (IsS146.lt (show IsS146 w0 _ g s0_0 s0_1 s0_2 from by repeat (first|(with_reducible first|exact HI0.out|apply yA_|apply yN_|apply yW_|apply y1_|apply y2_)|exact HI0.out))):g≠gb370));have n7_:=aM_ ((by rw [hg];exact Nat.ne_of_gt (IsS146.lt (show IsS146 w0 _ g s0_0 s0_1 s0_2 from by repeat (first|(with_reducible first|exact HI0.out|apply yA_|apply yN_|apply yW_|apply y1_|apply y2_)|exact HI0.out))):gb370≠g));clear HI0;clear HK;clear HB;have HI0:=n0_;have HK:=n1_;have HB:=n2_;have BK370:=n3_;have GW370:=n4_;have GE370:=n5_;have NB0_370:=n6_;have NB370_0:=n7_;clear n0_ n1_ n2_ n3_ n4_ n5_ n6_ n7_;clear hb hbox hg)|((with_reducible refine gate_callee (f:=183) rfl ?_);refine goesL_ (some 6) rfl rfl Try.func183 (by kernel_rfl) rfl #[.pointer (some ⟨g,0,none⟩)] rfl (by (try simp only [List.map_toArray,List.map_cons,List.map_nil]);first|done|rfl|(simp only [List.length_drop,List.length_take];rfl)) ?_;(with_reducible refine (spec_l1Cur_model.calls k g s0_0 s0_1 s0_2 t371 t372 t373 t374 t377 t380 t383 t384 w0 _ ?side1 ?side2 A2.out).mono ?_);(case side1=>repeat (first|(with_reducible first|exact HI0.out|apply yA_|apply yN_|apply yW_|apply y1_|apply y2_|refine yF_ ?_ NB0_370.out _)|exact HI0.out));(case side2=>repeat (first|(with_reducible first|exact HB.out|apply lA_|apply lN_|apply below_drew1|refine bS_ ?_ (IsS146.ge HI0.out)|refine bS_ ?_ GE370.out)|exact HB.out));rintro e w58 ⟨v375,v378,v381,rfl,ho0,ho1,ho2,hi,hb,hk⟩;refine ⟨_,rfl,?_⟩;have n0_:=aM_ (KeepBut.blk hk (g':=gb370) (o:=.cells #[.int .i64 0,.int .i64 0,.int .i64 0,.slice none 0 0,.slice none 0 0,.slice none 0 0] 34 (0,0)) (by (with_reducible repeat (first|refine bN_ ?_ _|refine bW_ ?_|refine bA_ ?_ _));exact BK370.out) NB370_0.out (by simp));have n1_:=aM_ (Kd.R_lower ho0 (keep_size (w:=w) (g:=g) (row:=none) (by repeat (first|(with_reducible first|exact HK.out|apply KeepBut.set_|apply kN_|apply keep_drew|apply kA_|refine keep_far ?_ GW370.out _)|exact HK.out))));have n2_:=aM_ (Kd.R_lower ho1 (keep_size (w:=w) (g:=g) (row:=none) (by repeat (first|(with_reducible first|exact HK.out|apply KeepBut.set_|apply kN_|apply keep_drew|apply kA_|refine keep_far ?_ GW370.out _)|exact HK.out))));have n3_:=aM_ (Kd.R_lower ho2 (keep_size (w:=w) (g:=g) (row:=none) (by repeat (first|(with_reducible first|exact HK.out|apply KeepBut.set_|apply kN_|apply keep_drew|apply kA_|refine keep_far ?_ GW370.out _)|exact HK.out))));have n4_:=aM_ (KeepBut.trans (by repeat (first|(with_reducible first|exact HK.out|apply KeepBut.set_|apply kN_|apply keep_drew|apply kA_|refine keep_far ?_ GW370.out _)|exact HK.out)) hk (.inl rfl));have n5_:=aM_ (hb);have n6_:=aM_ (hi);clear BK370;clear HK;clear HB;clear HI0;have BK370:=n0_;have HO376:=n1_;have HO379:=n2_;have HO382:=n3_;have HK:=n4_;have HB:=n5_;have HI0:=n6_;clear n0_ n1_ n2_ n3_ n4_ n5_ n6_;(try clear hb);(try clear hb2);(try clear hk);(try clear hi);(try clear ho0);(try clear ho1);(try clear ho2))|((with_reducible refine gate_dst (N:=3) rfl ?_);refine box_event ?hg (N:=3) ?hd (cs:=#[.int .i64 0,.int .i64 0,.int .i64 0,.slice none 0 0,.slice none 0 0,.slice none 0 0]) (t:=34) ?hr ?_;(case hd=>rfl);(case hg=>rfl);(case hr=>first|(go_simp;done)|(go_simp;rfl));intro gb385 hg w59 hbox hb;have n0_:=aM_ (Kd.R_below (by (with_reducible repeat (first|apply rA_|apply rN_|apply rW_));exact HO376.out) hb);have n1_:=aM_ (Kd.R_below (by (with_reducible repeat (first|apply rA_|apply rN_|apply rW_));exact HO379.out) hb);have n2_:=aM_ (Kd.R_below (by (with_reducible repeat (first|apply rA_|apply rN_|apply rW_));exact HO382.out) hb);have n3_:=aM_ (IsS146.below (by repeat (first|(with_reducible first|exact HI0.out|apply yA_|apply yN_|apply yW_|apply y1_|apply y2_|refine yF_ ?_ NB0_370.out _)|exact HI0.out)) hb);have n4_:=aM_ (blk_below (g:=gb370) (o:=.cells #[.int .i64 0,.int .i64 0,.int .i64 0,.slice none 0 0,.slice none 0 0,.slice none 0 0] 34 (0,0)) (by (with_reducible repeat (first|refine bN_ ?_ _|refine bW_ ?_|refine bA_ ?_ _));exact BK370.out) hb);have n5_:=aM_ (KeepBut.trans (by repeat (first|(with_reducible first|exact HK.out|apply KeepBut.set_|apply kN_|apply keep_drew|apply kA_|refine keep_far ?_ GW370.out _)|exact HK.out)) (KeepBut.of_below hb g none) (.inl rfl));have n6_:=aM_ (below_step (by repeat (first|(with_reducible first|exact HB.out|apply lA_|apply lN_|apply below_drew1|refine bS_ ?_ (IsS146.ge HI0.out)|refine bS_ ?_ GE370.out)|exact HB.out)) hb);have n7_:=aM_ (hbox);have n8_:=aM_ ((by rw [hg];exact (keep_size (w:=w) (g:=g) (row:=none) (by repeat (first|(with_reducible first|exact HK.out|apply KeepBut.set_|apply kN_|apply keep_drew|apply kA_|refine keep_far ?_ GW370.out _)|exact HK.out))):w.heap.size≤gb385));have n9_:=aM_ ((Nat.le_trans HW0.out (by rw [hg];exact (keep_size (w:=w) (g:=g) (row:=none) (by repeat (first|(with_reducible first|exact HK.out|apply KeepBut.set_|apply kN_|apply keep_drew|apply kA_|refine keep_far ?_ GW370.out _)|exact HK.out))):w.heap.size≤gb385):w0.heap.size≤gb385));have n10_:=aM_ ((by rw [hg];exact Nat.ne_of_lt (blk_lt (g:=gb370) (o:=.cells #[.int .i64 0,.int .i64 0,.int .i64 0,.slice none 0 0,.slice none 0 0,.slice none 0 0] 34 (0,0)) (by (with_reducible repeat (first|refine bN_ ?_ _|refine bW_ ?_|refine bA_ ?_ _));exact BK370.out)):gb370≠gb385));have n11_:=aM_ ((by rw [hg];exact Nat.ne_of_gt (blk_lt (g:=gb370) (o:=.cells #[.int .i64 0,.int .i64 0,.int .i64 0,.slice none 0 0,.slice none 0 0,.slice none 0 0] 34 (0,0)) (by (with_reducible repeat (first|refine bN_ ?_ _|refine bW_ ?_|refine bA_ ?_ _));exact BK370.out)):gb385≠gb370));have n12_:=aM_ ((by rw [hg];exact Nat.ne_of_lt (IsS146.lt (show IsS146 w0 _ g s0_0 t383 t384 from by repeat (first|(with_reducible first|exact HI0.out|apply yA_|apply yN_|apply yW_|apply y1_|apply y2_|refine yF_ ?_ NB0_370.out _)|exact HI0.out))):g≠gb385));have n13_:=aM_ ((by rw [hg];exact Nat.ne_of_gt (IsS146.lt (show IsS146 w0 _ g s0_0 t383 t384 from by repeat (first|(with_reducible first|exact HI0.out|apply yA_|apply yN_|apply yW_|apply y1_|apply y2_|refine yF_ ?_ NB0_370.out _)|exact HI0.out))):gb385≠g));clear HO376;clear HO379;clear HO382;clear HI0;clear BK370;clear HK;clear HB;have HO376:=n0_;have HO379:=n1_;have HO382:=n2_;have HI0:=n3_;have BK370:=n4_;have HK:=n5_;have HB:=n6_;have BK385:=n7_;have GW385:=n8_;have GE385:=n9_;have NB370_385:=n10_;have NB385_370:=n11_;have NB0_385:=n12_;have NB385_0:=n13_;clear n0_ n1_ n2_ n3_ n4_ n5_ n6_ n7_ n8_ n9_ n10_ n11_ n12_ n13_;clear hb hbox hg;have hnb60:=NB385_370.out;have hnc60:=NB370_385.out;have hnb61:=NB385_0.out;have hnc61:=NB0_385.out;have hcz62_0:w59.cell? ⟨gb385,0,none⟩=some (.int .i64 0):=(bC_ BK385.out 0).trans rfl;have hcz62_1:w59.cell? ⟨gb385,1,none⟩=some (.int .i64 0):=(bC_ BK385.out 1).trans rfl;have hcz62_2:w59.cell? ⟨gb385,2,none⟩=some (.int .i64 0):=(bC_ BK385.out 2).trans rfl;have hcz62_3:w59.cell? ⟨gb385,3,none⟩=some (.slice none 0 0):=(bC_ BK385.out 3).trans rfl;have hcz62_4:w59.cell? ⟨gb385,4,none⟩=some (.slice none 0 0):=(bC_ BK385.out 4).trans rfl;have hcz62_5:w59.cell? ⟨gb385,5,none⟩=some (.slice none 0 0):=(bC_ BK385.out 5).trans rfl;have hfz62_0:=blk_frozen BK385.out 0;have hfz62_1:=blk_frozen BK385.out 1;have hfz62_2:=blk_frozen BK385.out 2;have hfz62_3:=blk_frozen BK385.out 3;have hfz62_4:=blk_frozen BK385.out 4;have hfz62_5:=blk_frozen BK385.out 5;obtain ⟨Ao63,co63,eo63⟩:=Kd.R_slice HO376.out;subst eo63;obtain ⟨Ao64,co64,eo64⟩:=Kd.R_slice HO379.out;subst eo64;obtain ⟨Ao65,co65,eo65⟩:=Kd.R_slice HO382.out;subst eo65)|((with_reducible refine gate_callee (f:=160) rfl ?_);refine goesL_ (some 9) rfl rfl Try.func160 (by kernel_rfl) rfl #[.agg #[.int .i64 t371,.int .i64 t372,.int .i64 t373]] rfl (by (try simp only [List.map_toArray,List.map_cons,List.map_nil]);first|done|rfl|(simp only [List.length_drop,List.length_take];rfl)) ?_;(with_reducible refine (spec_grCount.calls t371 t372 t373 t386 _ A3.out).mono ?_);rintro e w66 ⟨rfl,hb⟩;refine ⟨_,rfl,?_⟩;have n0_:=aM_ (Kd.R_below (by (with_reducible repeat (first|apply rA_|apply rN_|apply rW_));exact (Kd.R_mono (rF_ (p:=⟨gb385,5,none⟩) (rF_ (p:=⟨gb385,4,none⟩) (rF_ (p:=⟨gb385,3,none⟩) (rF_ (p:=⟨gb385,2,none⟩) (rF_ (p:=⟨gb385,1,none⟩) (rF_ (p:=⟨gb385,0,none⟩) (Kd.R_types HO376.out BK385.out (by decide)) (fun _ hk=>hk.2) (.int .i64 t371)) (fun _ hk=>hk.2) (.int .i64 t372)) (fun _ hk=>hk.2) (.int .i64 t373)) (fun _ hk=>hk.2) (.slice Ao63 t374.length co63)) (fun _ hk=>hk.2) (.slice Ao64 t377.length co64)) (fun _ hk=>hk.2) (.slice Ao65 t380.length co65)) (fun _ h_=>h_.1))) hb);have n1_:=aM_ (Kd.R_below (by (with_reducible repeat (first|apply rA_|apply rN_|apply rW_));exact (Kd.R_mono (rF_ (p:=⟨gb385,5,none⟩) (rF_ (p:=⟨gb385,4,none⟩) (rF_ (p:=⟨gb385,3,none⟩) (rF_ (p:=⟨gb385,2,none⟩) (rF_ (p:=⟨gb385,1,none⟩) (rF_ (p:=⟨gb385,0,none⟩) (Kd.R_types HO379.out BK385.out (by decide)) (fun _ hk=>hk.2) (.int .i64 t371)) (fun _ hk=>hk.2) (.int .i64 t372)) (fun _ hk=>hk.2) (.int .i64 t373)) (fun _ hk=>hk.2) (.slice Ao63 t374.length co63)) (fun _ hk=>hk.2) (.slice Ao64 t377.length co64)) (fun _ hk=>hk.2) (.slice Ao65 t380.length co65)) (fun _ h_=>h_.1))) hb);have n2_:=aM_ (Kd.R_below (by (with_reducible repeat (first|apply rA_|apply rN_|apply rW_));exact (Kd.R_mono (rF_ (p:=⟨gb385,5,none⟩) (rF_ (p:=⟨gb385,4,none⟩) (rF_ (p:=⟨gb385,3,none⟩) (rF_ (p:=⟨gb385,2,none⟩) (rF_ (p:=⟨gb385,1,none⟩) (rF_ (p:=⟨gb385,0,none⟩) (Kd.R_types HO382.out BK385.out (by decide)) (fun _ hk=>hk.2) (.int .i64 t371)) (fun _ hk=>hk.2) (.int .i64 t372)) (fun _ hk=>hk.2) (.int .i64 t373)) (fun _ hk=>hk.2) (.slice Ao63 t374.length co63)) (fun _ hk=>hk.2) (.slice Ao64 t377.length co64)) (fun _ hk=>hk.2) (.slice Ao65 t380.length co65)) (fun _ h_=>h_.1))) hb);have n3_:=aM_ (IsS146.below (show IsS146 w0 ((((((w59.setCell ⟨gb385,0,none⟩ (.int .i64 t371)).setCell ⟨gb385,1,none⟩ (.int .i64 t372)).setCell ⟨gb385,2,none⟩ (.int .i64 t373)).setCell ⟨gb385,3,none⟩ (.slice Ao63 t374.length co63)).setCell ⟨gb385,4,none⟩ (.slice Ao64 t377.length co64)).setCell ⟨gb385,5,none⟩ (.slice Ao65 t380.length co65)) g s0_0 t383 t384 from by repeat (first|(with_reducible first|exact HI0.out|apply yA_|apply yN_|apply yW_|apply y1_|apply y2_|refine yF_ ?_ NB0_370.out _|refine yF_ ?_ NB0_385.out _)|exact HI0.out)) hb);have n4_:=aM_ (blk_below (g:=gb370) (o:=.cells #[.int .i64 0,.int .i64 0,.int .i64 0,.slice none 0 0,.slice none 0 0,.slice none 0 0] 34 (0,0)) (by (with_reducible repeat (first|refine bN_ ?_ _|refine bW_ ?_|refine bA_ ?_ _));refine blk_far ?_ NB370_385.out _;(with_reducible repeat (first|refine bN_ ?_ _|refine bW_ ?_|refine bA_ ?_ _));refine blk_far ?_ NB370_385.out _;(with_reducible repeat (first|refine bN_ ?_ _|refine bW_ ?_|refine bA_ ?_ _));refine blk_far ?_ NB370_385.out _;(with_reducible repeat (first|refine bN_ ?_ _|refine bW_ ?_|refine bA_ ?_ _));refine blk_far ?_ NB370_385.out _;(with_reducible repeat (first|refine bN_ ?_ _|refine bW_ ?_|refine bA_ ?_ _));refine blk_far ?_ NB370_385.out _;(with_reducible repeat (first|refine bN_ ?_ _|refine bW_ ?_|refine bA_ ?_ _));refine blk_far ?_ NB370_385.out _;(with_reducible repeat (first|refine bN_ ?_ _|refine bW_ ?_|refine bA_ ?_ _));exact BK370.out) hb);have n5_:=aM_ (blk_below (g:=gb385) (o:=.cells #[.int .i64 t371,.int .i64 t372,.int .i64 t373,.slice Ao63 t374.length co63,.slice Ao64 t377.length co64,.slice Ao65 t380.length co65] 34 (0,0)) (by (with_reducible repeat (first|refine bN_ ?_ _|refine bW_ ?_|refine bA_ ?_ _));refine blk_put (cs:=#[.int .i64 t371,.int .i64 t372,.int .i64 t373,.slice Ao63 t374.length co63,.slice Ao64 t377.length co64,.slice none 0 0]) ?_ 5 _ rfl;(with_reducible repeat (first|refine bN_ ?_ _|refine bW_ ?_|refine bA_ ?_ _));refine blk_put (cs:=#[.int .i64 t371,.int .i64 t372,.int .i64 t373,.slice Ao63 t374.length co63,.slice none 0 0,.slice none 0 0]) ?_ 4 _ rfl;(with_reducible repeat (first|refine bN_ ?_ _|refine bW_ ?_|refine bA_ ?_ _));refine blk_put (cs:=#[.int .i64 t371,.int .i64 t372,.int .i64 t373,.slice none 0 0,.slice none 0 0,.slice none 0 0]) ?_ 3 _ rfl;(with_reducible repeat (first|refine bN_ ?_ _|refine bW_ ?_|refine bA_ ?_ _));refine blk_put (cs:=#[.int .i64 t371,.int .i64 t372,.int .i64 0,.slice none 0 0,.slice none 0 0,.slice none 0 0]) ?_ 2 _ rfl;(with_reducible repeat (first|refine bN_ ?_ _|refine bW_ ?_|refine bA_ ?_ _));refine blk_put (cs:=#[.int .i64 t371,.int .i64 0,.int .i64 0,.slice none 0 0,.slice none 0 0,.slice none 0 0]) ?_ 1 _ rfl;(with_reducible repeat (first|refine bN_ ?_ _|refine bW_ ?_|refine bA_ ?_ _));refine blk_put (cs:=#[.int .i64 0,.int .i64 0,.int .i64 0,.slice none 0 0,.slice none 0 0,.slice none 0 0]) ?_ 0 _ rfl;(with_reducible repeat (first|refine bN_ ?_ _|refine bW_ ?_|refine bA_ ?_ _));exact BK385.out) hb);have n6_:=aM_ (KeepBut.trans (by repeat (first|(with_reducible first|exact HK.out|apply KeepBut.set_|apply kN_|apply keep_drew|apply kA_|refine keep_far ?_ GW370.out _|refine keep_far ?_ GW385.out _)|exact HK.out)) (KeepBut.of_below hb g none) (.inl rfl));have n7_:=aM_ (below_step (by repeat (first|(with_reducible first|exact HB.out|apply lA_|apply lN_|apply below_drew1|refine bS_ ?_ (IsS146.ge HI0.out)|refine bS_ ?_ GE370.out|refine bS_ ?_ GE385.out)|exact HB.out)) hb);clear HO376;clear HO379;clear HO382;clear HI0;clear BK370;clear BK385;clear HK;clear HB;have HO376:=n0_;have HO379:=n1_;have HO382:=n2_;have HI0:=n3_;have BK370:=n4_;have BK385:=n5_;have HK:=n6_;have HB:=n7_;clear n0_ n1_ n2_ n3_ n4_ n5_ n6_ n7_;(try clear hb);(try clear hb2);(try clear hk);(try clear hi))|((with_reducible refine gate_callee (f:=135) rfl ?_);refine goesL_ (some 11) rfl rfl Try.func135 (by kernel_rfl) rfl #[.pointer (some ⟨g,0,none⟩),.int .i64 30] rfl (by (try simp only [List.map_toArray,List.map_cons,List.map_nil]);first|done|rfl|(simp only [List.length_drop,List.length_take];rfl)) ?_;(with_reducible refine (spec_l1Cur_pick.calls g s0_0 t383 t384 30 t387 t388 t389 w0 _ ?side1 ?side2 A4.out).mono ?_);(case side1=>repeat (first|(with_reducible first|exact HI0.out|apply yA_|apply yN_|apply yW_|apply y1_|apply y2_|refine yF_ ?_ NB0_370.out _|refine yF_ ?_ NB0_385.out _)|exact HI0.out));(case side2=>repeat (first|(with_reducible first|exact HB.out|apply lA_|apply lN_|apply below_drew1|refine bS_ ?_ (IsS146.ge HI0.out)|refine bS_ ?_ GE370.out|refine bS_ ?_ GE385.out)|exact HB.out));rintro e w67 ⟨rfl,hi,hb,hk⟩;refine ⟨_,rfl,?_⟩;have n0_:=aM_ (KeepBut.blk hk (g':=gb370) (o:=.cells #[.int .i64 0,.int .i64 0,.int .i64 0,.slice none 0 0,.slice none 0 0,.slice none 0 0] 34 (0,0)) (by (with_reducible repeat (first|refine bN_ ?_ _|refine bW_ ?_|refine bA_ ?_ _));exact BK370.out) NB370_0.out (by simp));have n1_:=aM_ (Kd.R_mono (Kd.R_keep (IsS146.apart (show IsS146 w0 _ g s0_0 t383 t384 from by repeat (first|(with_reducible first|exact HI0.out|apply yA_|apply yN_|apply yW_|apply y1_|apply y2_|refine yF_ ?_ NB0_370.out _|refine yF_ ?_ NB0_385.out _)|exact HI0.out)) (by (with_reducible repeat (first|apply rA_|apply rN_|apply rW_));exact HO376.out) (by decide)) hk (fun _ h=>h.2)) (fun _ h=>h.1));have n2_:=aM_ (Kd.R_mono (Kd.R_keep (IsS146.apart (show IsS146 w0 _ g s0_0 t383 t384 from by repeat (first|(with_reducible first|exact HI0.out|apply yA_|apply yN_|apply yW_|apply y1_|apply y2_|refine yF_ ?_ NB0_370.out _|refine yF_ ?_ NB0_385.out _)|exact HI0.out)) (by (with_reducible repeat (first|apply rA_|apply rN_|apply rW_));exact HO379.out) (by decide)) hk (fun _ h=>h.2)) (fun _ h=>h.1));have n3_:=aM_ (Kd.R_mono (Kd.R_keep (IsS146.apart (show IsS146 w0 _ g s0_0 t383 t384 from by repeat (first|(with_reducible first|exact HI0.out|apply yA_|apply yN_|apply yW_|apply y1_|apply y2_|refine yF_ ?_ NB0_370.out _|refine yF_ ?_ NB0_385.out _)|exact HI0.out)) (by (with_reducible repeat (first|apply rA_|apply rN_|apply rW_));exact HO382.out) (by decide)) hk (fun _ h=>h.2)) (fun _ h=>h.1));have n4_:=aM_ (KeepBut.blk hk (g':=gb385) (o:=.cells #[.int .i64 t371,.int .i64 t372,.int .i64 t373,.slice Ao63 t374.length co63,.slice Ao64 t377.length co64,.slice Ao65 t380.length co65] 34 (0,0)) (by (with_reducible repeat (first|refine bN_ ?_ _|refine bW_ ?_|refine bA_ ?_ _));exact BK385.out) NB385_0.out (by simp));have n5_:=aM_ (KeepBut.trans (by repeat (first|(with_reducible first|exact HK.out|apply KeepBut.set_|apply kN_|apply keep_drew|apply kA_|refine keep_far ?_ GW370.out _|refine keep_far ?_ GW385.out _)|exact HK.out)) hk (.inl rfl));have n6_:=aM_ (hb);have n7_:=aM_ (hi);clear BK370;clear HO376;clear HO379;clear HO382;clear BK385;clear HK;clear HB;clear HI0;have BK370:=n0_;have HO376:=n1_;have HO379:=n2_;have HO382:=n3_;have BK385:=n4_;have HK:=n5_;have HB:=n6_;have HI0:=n7_;clear n0_ n1_ n2_ n3_ n4_ n5_ n6_ n7_;(try clear hb);(try clear hb2);(try clear hk);(try clear hi)))
      have n0_:=aM_ (rW_ HO376.out)
      have n1_:=aM_ (rW_ HO379.out)
      have n2_:=aM_ (rW_ HO382.out)
      have n3_:=aM_ (bW_ BK370.out)
      have n4_:=aM_ (bW_ BK385.out)
      have n5_:=aM_ (yW_ HI0.out)
      have n6_:=aM_ (keep_drew HK.out)
      have n7_:=aM_ (below_drew1 HB.out)
      clear HO376
      clear HO379
      clear HO382
      clear BK370
      clear BK385
      clear HI0
      clear HK
      clear HB
      have HO376:=n0_
      have HO379:=n1_
      have HO382:=n2_
      have BK370:=n3_
      have BK385:=n4_
      have HI0:=n5_
      have HK:=n6_
      have HB:=n7_
      clear n0_ n1_ n2_ n3_ n4_ n5_ n6_ n7_
      refine start_ (n:=10) (S:=fun w'=>w'.cell? ⟨gb385,0,none⟩=some (.int .i64 t371)∧w'.cell? ⟨gb385,1,none⟩=some (.int .i64 t372)∧w'.cell? ⟨gb385,2,none⟩=some (.int .i64 t373)∧w'.cell? ⟨gb385,3,none⟩=some (.slice Ao63 t374.length co63)∧w'.cell? ⟨gb385,4,none⟩=some (.slice Ao64 t377.length co64)∧w'.cell? ⟨gb385,5,none⟩=some (.slice Ao65 t380.length co65)) (ds:=[9]) #[false,false,false,false,false,false,false,false,false,false] (by kernel_rfl) rfl rfl ⟨(bC_ BK385.out 0).trans rfl,(bC_ BK385.out 1).trans rfl,(bC_ BK385.out 2).trans rfl,(bC_ BK385.out 3).trans rfl,(bC_ BK385.out 4).trans rfl,(bC_ BK385.out 5).trans rfl⟩ (fun hHeld=>?_);refine with_tabW spec_l1Cur_anyModel.tab9 spec_l1Cur_anyModel.bits9 (fun HT_ HW_=>?_)
      generalize w67.drew=w68 at HO376 HO379 HO382 BK370 BK385 HI0 HK HB hHeld ⊢
      refine pure_ (i:=0) (N:=some 30) (v:=?_) (a':=?_) #[true,false,false,false,false,false,false,false,false,false] rfl rfl (any_of HT_.out (by kernel_rfl)) (fun _ _ _ h=>h) (Or.inl ⟨by rfl,?_⟩) ?_ ?_
      rotate_left
      ·intro w'
       go_simp
       with_reducible rfl
      rotate_left
      ·simp only [Act.put,List.setIfInBounds_toArray,List.set_cons_zero,List.set_cons_succ,i64_w,i32_w]
       rfl
      refine pure_ (i:=2) (N:=some 32) (v:=?_) (a':=?_) #[true,false,true,false,false,false,false,false,false,false] rfl rfl (any_of HT_.out (by kernel_rfl)) (fun _ _ _ h=>h) (Or.inl ⟨by rfl,?_⟩) ?_ ?_
      rotate_left
      ·intro w'
       go_simp
       with_reducible rfl
      rotate_left
      ·simp only [Act.put,List.setIfInBounds_toArray,List.set_cons_zero,List.set_cons_succ,i64_w,i32_w]
       rfl
      refine pure_ (i:=3) (N:=some 33) (v:=?_) (a':=?_) #[true,false,true,true,false,false,false,false,false,false] rfl rfl (any_of HT_.out (by kernel_rfl)) (fun _ _ _ h=>h) (Or.inl ⟨by rfl,?_⟩) ?_ ?_
      rotate_left
      ·intro w'
       go_simp
       with_reducible rfl
      rotate_left
      ·simp only [Act.put,List.setIfInBounds_toArray,List.set_cons_zero,List.set_cons_succ,i64_w,i32_w]
       rfl
      refine pure_ (i:=5) (N:=some 35) (v:=?_) (a':=?_) #[true,false,true,true,false,true,false,false,false,false] rfl rfl (any_of HT_.out (by kernel_rfl)) (fun _ _ _ h=>h) (Or.inl ⟨by rfl,?_⟩) ?_ ?_
      rotate_left
      ·intro w'
       go_simp
       with_reducible rfl
      rotate_left
      ·simp only [Act.put,List.setIfInBounds_toArray,List.set_cons_zero,List.set_cons_succ,i64_w,i32_w]
       rfl
      refine take_ (i:=1) (N:=some 31) (v:=?_) (a':=?_) #[true,true,true,true,false,true,false,false,false,false] rfl rfl (take_ofW HT_.out HW_.out (by kernel_rfl)) (fun _ _ _ h=>h) (Or.inl ⟨by rfl,?_⟩) hHeld ?_ ?_
      rotate_left
      ·rintro w' ⟨s0,s1,s2,s3,s4,s5⟩
       go_simp
       with_reducible rfl
      rotate_left
      ·simp only [Act.put,List.setIfInBounds_toArray,List.set_cons_zero,List.set_cons_succ,i64_w,i32_w]
       rfl
      refine join_ (σ:=Value) 3 #[true,true,true,true,true,true,true,false,false,false] (fun s_=>[(34,.int .i64 t405),(36,s_)]) (fun s_ w'=>(w'.cell? ⟨gb385,0,none⟩=some (.int .i64 t371)∧w'.cell? ⟨gb385,1,none⟩=some (.int .i64 t372)∧w'.cell? ⟨gb385,2,none⟩=some (.int .i64 t373)∧w'.cell? ⟨gb385,3,none⟩=some (.slice Ao63 t374.length co63)∧w'.cell? ⟨gb385,4,none⟩=some (.slice Ao64 t377.length co64)∧w'.cell? ⟨gb385,5,none⟩=some (.slice Ao65 t380.length co65))∧(Kd.R (Kd.int .i64) 3 w' w.heap.size (fun k_=>some k_≠(.slice Ao64 t377.length co64:Value).ownBlock∧some k_≠(.slice Ao65 t380.length co65:Value).ownBlock∧some k_≠(s_:Value).ownBlock) (.slice Ao63 t374.length co63) t374)∧(Kd.R (Kd.int .i64) 3 w' w.heap.size (fun k_=>some k_≠(.slice Ao63 t374.length co63:Value).ownBlock∧some k_≠(.slice Ao65 t380.length co65:Value).ownBlock∧some k_≠(s_:Value).ownBlock) (.slice Ao64 t377.length co64) t377)∧(Kd.R (Kd.int .i64) 3 w' w.heap.size (fun k_=>some k_≠(.slice Ao63 t374.length co63:Value).ownBlock∧some k_≠(.slice Ao64 t377.length co64:Value).ownBlock∧some k_≠(s_:Value).ownBlock) (.slice Ao65 t380.length co65) t380)∧(Kd.R (Kd.int .i64) 3 w' w.heap.size (fun k_=>some k_≠(.slice Ao63 t374.length co63:Value).ownBlock∧some k_≠(.slice Ao64 t377.length co64:Value).ownBlock∧some k_≠(.slice Ao65 t380.length co65:Value).ownBlock) s_ y408)∧(w'.heap[gb370]?=some (.cells #[.int .i64 0,.int .i64 0,.int .i64 0,.slice none 0 0,.slice none 0 0,.slice none 0 0] 34 (0,0)))∧(w'.heap[gb385]?=some (.cells #[.int .i64 t371,.int .i64 t372,.int .i64 t373,.slice Ao63 t374.length co63,.slice Ao64 t377.length co64,.slice Ao65 t380.length co65] 34 (0,0)))∧(IsS146 w0 w' g s0_0 t406 t407)∧(KeepBut w w' g none)∧(Below w0.heap.size w0 w')) ?_ ?_
      rotate_left
      ·intro hCont
       refine two_ (i:=4) (j:=6) (Ni:=some 34) (Nj:=some 36) #[true,true,true,true,true,true,false,false,false,false] #[true,true,true,true,false,true,true,false,false,false] rfl rfl rfl rfl (two_of HT_.out (by kernel_rfl)) (by decide) (by decide) (fun K hK=>?_) (fun K hK=>?_)
       ·skip
        refine goes_ Try.func135 (by kernel_rfl) rfl #[.pointer (some ⟨g,0,none⟩),.int .i64 t386] (by rfl) rfl rfl (by (try simp only [List.map_toArray,List.map_cons,List.map_nil]);first|done|rfl|(simp only [List.length_drop,List.length_take];rfl)) ?_
        with_reducible refine (spec_l1Cur_pick.calls g s0_0 t388 t389 t386 t405 t406 t407 w0 _ ?side1 ?side2 A52.out).mono ?_
        (case side1=>repeat (first|(with_reducible first|exact HI0.out|apply yA_|apply yN_|apply yW_|apply y1_|apply y2_|refine yF_ ?_ NB0_370.out _|refine yF_ ?_ NB0_385.out _)|exact HI0.out))
        (case side2=>repeat (first|(with_reducible first|exact HB.out|apply lA_|apply lN_|apply below_drew1|refine bS_ ?_ (IsS146.ge HI0.out)|refine bS_ ?_ GE370.out|refine bS_ ?_ GE385.out)|exact HB.out))
        rintro e w69 ⟨rfl,hi,hb,hk⟩
        refine ⟨_,rfl,?_⟩
        have n0_:=aM_ (KeepBut.blk hk (g':=gb370) (o:=.cells #[.int .i64 0,.int .i64 0,.int .i64 0,.slice none 0 0,.slice none 0 0,.slice none 0 0] 34 (0,0)) (by (with_reducible repeat (first|refine bN_ ?_ _|refine bW_ ?_|refine bA_ ?_ _));exact BK370.out) NB370_0.out (by simp))
        have n1_:=aM_ (Kd.R_mono (Kd.R_keep (IsS146.apart (show IsS146 w0 _ g s0_0 t388 t389 from by repeat (first|(with_reducible first|exact HI0.out|apply yA_|apply yN_|apply yW_|apply y1_|apply y2_|refine yF_ ?_ NB0_370.out _|refine yF_ ?_ NB0_385.out _)|exact HI0.out)) (by (with_reducible repeat (first|apply rA_|apply rN_|apply rW_));exact HO376.out) (by decide)) hk (fun _ h=>h.2)) (fun _ h=>h.1))
        have n2_:=aM_ (Kd.R_mono (Kd.R_keep (IsS146.apart (show IsS146 w0 _ g s0_0 t388 t389 from by repeat (first|(with_reducible first|exact HI0.out|apply yA_|apply yN_|apply yW_|apply y1_|apply y2_|refine yF_ ?_ NB0_370.out _|refine yF_ ?_ NB0_385.out _)|exact HI0.out)) (by (with_reducible repeat (first|apply rA_|apply rN_|apply rW_));exact HO379.out) (by decide)) hk (fun _ h=>h.2)) (fun _ h=>h.1))
        have n3_:=aM_ (Kd.R_mono (Kd.R_keep (IsS146.apart (show IsS146 w0 _ g s0_0 t388 t389 from by repeat (first|(with_reducible first|exact HI0.out|apply yA_|apply yN_|apply yW_|apply y1_|apply y2_|refine yF_ ?_ NB0_370.out _|refine yF_ ?_ NB0_385.out _)|exact HI0.out)) (by (with_reducible repeat (first|apply rA_|apply rN_|apply rW_));exact HO382.out) (by decide)) hk (fun _ h=>h.2)) (fun _ h=>h.1))
        have n4_:=aM_ (KeepBut.blk hk (g':=gb385) (o:=.cells #[.int .i64 t371,.int .i64 t372,.int .i64 t373,.slice Ao63 t374.length co63,.slice Ao64 t377.length co64,.slice Ao65 t380.length co65] 34 (0,0)) (by (with_reducible repeat (first|refine bN_ ?_ _|refine bW_ ?_|refine bA_ ?_ _));exact BK385.out) NB385_0.out (by simp))
        have n5_:=aM_ (KeepBut.trans (by repeat (first|(with_reducible first|exact HK.out|apply KeepBut.set_|apply kN_|apply keep_drew|apply kA_|refine keep_far ?_ GW370.out _|refine keep_far ?_ GW385.out _)|exact HK.out)) hk (.inl rfl))
        have n6_:=aM_ (hb)
        have n7_:=aM_ (hi)
        clear BK370
        clear HO376
        clear HO379
        clear HO382
        clear BK385
        clear HK
        clear HB
        clear HI0
        have BK370:=n0_
        have HO376:=n1_
        have HO379:=n2_
        have HO382:=n3_
        have BK385:=n4_
        have HK:=n5_
        have HB:=n6_
        have HI0:=n7_
        clear n0_ n1_ n2_ n3_ n4_ n5_ n6_ n7_
        (try clear hb)
        (try clear hb2)
        (try clear hk)
        (try clear hi)
        refine hK.out _ _ ⟨(bC_ BK385.out 0).trans rfl,(bC_ BK385.out 1).trans rfl,(bC_ BK385.out 2).trans rfl,(bC_ BK385.out 3).trans rfl,(bC_ BK385.out 4).trans rfl,(bC_ BK385.out 5).trans rfl⟩ (fun hHeld=>?_)
        clear hK K
        refine norm_ (a':=?_) ?_ ?_
        rotate_left
        ·show Act.put _ (some 34) _=_
         simp only [Act.put,List.setIfInBounds_toArray,List.set_cons_zero,List.set_cons_succ,i64_w,i32_w]
         rfl
        refine one_ (i:=6) (N:=some 36) #[true,true,true,true,true,true,true,false,false,false] rfl rfl (one_of HT_.out (by kernel_rfl)) (by decide) (fun K hK=>?_)
        refine Kd.R_lit_step (Kd.int .i64) _ 3 ?hg (N:=36) ?hd (xs:=([(-1),1000,1001]:List Int)) (inner:=[.int .i64 (-1),.int .i64 1000,.int .i64 1001]) (ok:=fun _=>True) (okp:=fun _=>True) ?hr ?hp (fun _ hk=>hk) trivial (Below.refl _ _) (Nat.le_refl _) (by simp) ?_;(case hd=>rfl);(case hg=>rfl);(case hr=>first|(go_simp;done)|(go_simp;rfl));(case hp=>exact (Reps.one (show Kd.M (Kd.int .i64) _ _ _ (-1) [.int .i64 (-1)] from rfl) (Reps.one (show Kd.M (Kd.int .i64) _ _ _ 1000 [.int .i64 1000] from rfl) (Reps.one (show Kd.M (Kd.int .i64) _ _ _ 1001 [.int .i64 1001] from rfl) (Reps.none _ _)))))
        intro v409 w70 ho71 hb hg_ hnew_
        clear hg_ hnew_
        (first|rw [← Ny408.out] at ho71|(simp only [Int.reduceToNat] at ho71;rw [← Ny408.out] at ho71))
        have n0_:=aM_ (Kd.R_elder' (by (with_reducible repeat (first|apply rA_|apply rN_|apply rW_));exact HO376.out) (Kd.R_base ho71) hb)
        have n1_:=aM_ (Kd.R_elder' (by (with_reducible repeat (first|apply rA_|apply rN_|apply rW_));exact HO379.out) (Kd.R_base ho71) hb)
        have n2_:=aM_ (Kd.R_elder' (by (with_reducible repeat (first|apply rA_|apply rN_|apply rW_));exact HO382.out) (Kd.R_base ho71) hb)
        have n3_:=aM_ (Kd.R_lower (Kd.R_new' (Kd.R_new' (Kd.R_new' ho71 (Kd.R_lt (by (with_reducible repeat (first|apply rA_|apply rN_|apply rW_));exact HO376.out))) (Kd.R_lt (by (with_reducible repeat (first|apply rA_|apply rN_|apply rW_));exact HO379.out))) (Kd.R_lt (by (with_reducible repeat (first|apply rA_|apply rN_|apply rW_));exact HO382.out))) (keep_size (w:=w) (g:=g) (row:=none) (by repeat (first|(with_reducible first|exact HK.out|apply KeepBut.set_|apply kN_|apply keep_drew|apply kA_|refine keep_far ?_ GW370.out _|refine keep_far ?_ GW385.out _)|exact HK.out))))
        have n4_:=aM_ (IsS146.below (by repeat (first|(with_reducible first|exact HI0.out|apply yA_|apply yN_|apply yW_|apply y1_|apply y2_|refine yF_ ?_ NB0_370.out _|refine yF_ ?_ NB0_385.out _)|exact HI0.out)) hb)
        have n5_:=aM_ (blk_below (g:=gb370) (o:=.cells #[.int .i64 0,.int .i64 0,.int .i64 0,.slice none 0 0,.slice none 0 0,.slice none 0 0] 34 (0,0)) (by (with_reducible repeat (first|refine bN_ ?_ _|refine bW_ ?_|refine bA_ ?_ _));exact BK370.out) hb)
        have n6_:=aM_ (blk_below (g:=gb385) (o:=.cells #[.int .i64 t371,.int .i64 t372,.int .i64 t373,.slice Ao63 t374.length co63,.slice Ao64 t377.length co64,.slice Ao65 t380.length co65] 34 (0,0)) (by (with_reducible repeat (first|refine bN_ ?_ _|refine bW_ ?_|refine bA_ ?_ _));exact BK385.out) hb)
        have n7_:=aM_ (KeepBut.trans (by repeat (first|(with_reducible first|exact HK.out|apply KeepBut.set_|apply kN_|apply keep_drew|apply kA_|refine keep_far ?_ GW370.out _|refine keep_far ?_ GW385.out _)|exact HK.out)) (KeepBut.of_below hb g none) (.inl rfl))
        have n8_:=aM_ (below_step (by repeat (first|(with_reducible first|exact HB.out|apply lA_|apply lN_|apply below_drew1|refine bS_ ?_ (IsS146.ge HI0.out)|refine bS_ ?_ GE370.out|refine bS_ ?_ GE385.out)|exact HB.out)) hb)
        clear HO376
        clear HO379
        clear HO382
        clear HI0
        clear BK370
        clear BK385
        clear HK
        clear HB
        have HO376:=n0_
        have HO379:=n1_
        have HO382:=n2_
        have HO410:=n3_
        have HI0:=n4_
        have BK370:=n5_
        have BK385:=n6_
        have HK:=n7_
        have HB:=n8_
        clear n0_ n1_ n2_ n3_ n4_ n5_ n6_ n7_ n8_
        clear hb ho71
        refine hK.out _ _ ⟨(bC_ BK385.out 0).trans rfl,(bC_ BK385.out 1).trans rfl,(bC_ BK385.out 2).trans rfl,(bC_ BK385.out 3).trans rfl,(bC_ BK385.out 4).trans rfl,(bC_ BK385.out 5).trans rfl⟩ (fun hHeld=>?_)
        clear hK K
        refine norm_ (a':=?_) ?_ ?_
        rotate_left
        ·show Act.put _ (some 36) _=_
         simp only [Act.put,List.setIfInBounds_toArray,List.set_cons_zero,List.set_cons_succ,i64_w,i32_w]
         rfl
        exact norm_ (by simp only [putAll,Act.put,List.setIfInBounds_toArray,List.set_cons_zero,List.set_cons_succ]) (hCont (v409) _ ⟨hHeld,(by (with_reducible repeat (first|apply rA_|apply rN_|apply rW_));exact Kd.R_mono HO376.out (fun _ hk=>⟨hk.1.1,⟨hk.1.2,hk.2⟩⟩)),(by (with_reducible repeat (first|apply rA_|apply rN_|apply rW_));exact Kd.R_mono HO379.out (fun _ hk=>⟨hk.1.1,⟨hk.1.2,hk.2⟩⟩)),(by (with_reducible repeat (first|apply rA_|apply rN_|apply rW_));exact Kd.R_mono HO382.out (fun _ hk=>⟨hk.1.1,⟨hk.1.2,hk.2⟩⟩)),(by (with_reducible repeat (first|apply rA_|apply rN_|apply rW_));exact Kd.R_mono HO410.out (fun _ hk=>⟨hk.1.1.2,⟨hk.1.2,hk.2⟩⟩)),(by (with_reducible repeat (first|refine bN_ ?_ _|refine bW_ ?_|refine bA_ ?_ _));exact BK370.out),(by (with_reducible repeat (first|refine bN_ ?_ _|refine bW_ ?_|refine bA_ ?_ _));exact BK385.out),(by repeat (first|(with_reducible first|exact HI0.out|apply yA_|apply yN_|apply yW_|apply y1_|apply y2_|refine yF_ ?_ NB0_370.out _|refine yF_ ?_ NB0_385.out _)|exact HI0.out)),(by repeat (first|(with_reducible first|exact HK.out|apply KeepBut.set_|apply kN_|apply keep_drew|apply kA_|refine keep_far ?_ GW370.out _|refine keep_far ?_ GW385.out _)|exact HK.out)),(by repeat (first|(with_reducible first|exact HB.out|apply lA_|apply lN_|apply below_drew1|refine bS_ ?_ (IsS146.ge HI0.out)|refine bS_ ?_ GE370.out|refine bS_ ?_ GE385.out)|exact HB.out))⟩)
       ·skip
        refine Kd.R_lit_step (Kd.int .i64) _ 3 ?hg (N:=36) ?hd (xs:=([(-1),1000,1001]:List Int)) (inner:=[.int .i64 (-1),.int .i64 1000,.int .i64 1001]) (ok:=fun _=>True) (okp:=fun _=>True) ?hr ?hp (fun _ hk=>hk) trivial (Below.refl _ _) (Nat.le_refl _) (by simp) ?_;(case hd=>rfl);(case hg=>rfl);(case hr=>first|(go_simp;done)|(go_simp;rfl));(case hp=>exact (Reps.one (show Kd.M (Kd.int .i64) _ _ _ (-1) [.int .i64 (-1)] from rfl) (Reps.one (show Kd.M (Kd.int .i64) _ _ _ 1000 [.int .i64 1000] from rfl) (Reps.one (show Kd.M (Kd.int .i64) _ _ _ 1001 [.int .i64 1001] from rfl) (Reps.none _ _)))))
        intro v409 w69 ho70 hb hg_ hnew_
        clear hg_ hnew_
        (first|rw [← Ny408.out] at ho70|(simp only [Int.reduceToNat] at ho70;rw [← Ny408.out] at ho70))
        have n0_:=aM_ (Kd.R_elder' (by (with_reducible repeat (first|apply rA_|apply rN_|apply rW_));exact HO376.out) (Kd.R_base ho70) hb)
        have n1_:=aM_ (Kd.R_elder' (by (with_reducible repeat (first|apply rA_|apply rN_|apply rW_));exact HO379.out) (Kd.R_base ho70) hb)
        have n2_:=aM_ (Kd.R_elder' (by (with_reducible repeat (first|apply rA_|apply rN_|apply rW_));exact HO382.out) (Kd.R_base ho70) hb)
        have n3_:=aM_ (Kd.R_lower (Kd.R_new' (Kd.R_new' (Kd.R_new' ho70 (Kd.R_lt (by (with_reducible repeat (first|apply rA_|apply rN_|apply rW_));exact HO376.out))) (Kd.R_lt (by (with_reducible repeat (first|apply rA_|apply rN_|apply rW_));exact HO379.out))) (Kd.R_lt (by (with_reducible repeat (first|apply rA_|apply rN_|apply rW_));exact HO382.out))) (keep_size (w:=w) (g:=g) (row:=none) (by repeat (first|(with_reducible first|exact HK.out|apply KeepBut.set_|apply kN_|apply keep_drew|apply kA_|refine keep_far ?_ GW370.out _|refine keep_far ?_ GW385.out _)|exact HK.out))))
        have n4_:=aM_ (IsS146.below (by repeat (first|(with_reducible first|exact HI0.out|apply yA_|apply yN_|apply yW_|apply y1_|apply y2_|refine yF_ ?_ NB0_370.out _|refine yF_ ?_ NB0_385.out _)|exact HI0.out)) hb)
        have n5_:=aM_ (blk_below (g:=gb370) (o:=.cells #[.int .i64 0,.int .i64 0,.int .i64 0,.slice none 0 0,.slice none 0 0,.slice none 0 0] 34 (0,0)) (by (with_reducible repeat (first|refine bN_ ?_ _|refine bW_ ?_|refine bA_ ?_ _));exact BK370.out) hb)
        have n6_:=aM_ (blk_below (g:=gb385) (o:=.cells #[.int .i64 t371,.int .i64 t372,.int .i64 t373,.slice Ao63 t374.length co63,.slice Ao64 t377.length co64,.slice Ao65 t380.length co65] 34 (0,0)) (by (with_reducible repeat (first|refine bN_ ?_ _|refine bW_ ?_|refine bA_ ?_ _));exact BK385.out) hb)
        have n7_:=aM_ (KeepBut.trans (by repeat (first|(with_reducible first|exact HK.out|apply KeepBut.set_|apply kN_|apply keep_drew|apply kA_|refine keep_far ?_ GW370.out _|refine keep_far ?_ GW385.out _)|exact HK.out)) (KeepBut.of_below hb g none) (.inl rfl))
        have n8_:=aM_ (below_step (by repeat (first|(with_reducible first|exact HB.out|apply lA_|apply lN_|apply below_drew1|refine bS_ ?_ (IsS146.ge HI0.out)|refine bS_ ?_ GE370.out|refine bS_ ?_ GE385.out)|exact HB.out)) hb)
        clear HO376
        clear HO379
        clear HO382
        clear HI0
        clear BK370
        clear BK385
        clear HK
        clear HB
        have HO376:=n0_
        have HO379:=n1_
        have HO382:=n2_
        have HO410:=n3_
        have HI0:=n4_
        have BK370:=n5_
        have BK385:=n6_
        have HK:=n7_
        have HB:=n8_
        clear n0_ n1_ n2_ n3_ n4_ n5_ n6_ n7_ n8_
        clear hb ho70
        refine hK.out _ _ ⟨(bC_ BK385.out 0).trans rfl,(bC_ BK385.out 1).trans rfl,(bC_ BK385.out 2).trans rfl,(bC_ BK385.out 3).trans rfl,(bC_ BK385.out 4).trans rfl,(bC_ BK385.out 5).trans rfl⟩ (fun hHeld=>?_)
        clear hK K
        refine norm_ (a':=?_) ?_ ?_
        rotate_left
        ·show Act.put _ (some 36) _=_
         simp only [Act.put,List.setIfInBounds_toArray,List.set_cons_zero,List.set_cons_succ,i64_w,i32_w]
         rfl
        refine one_ (i:=4) (N:=some 34) #[true,true,true,true,true,true,true,false,false,false] rfl rfl (one_of HT_.out (by kernel_rfl)) (by decide) (fun K hK=>?_)
        refine goes_ Try.func135 (by kernel_rfl) rfl #[.pointer (some ⟨g,0,none⟩),.int .i64 t386] (by rfl) rfl rfl (by (try simp only [List.map_toArray,List.map_cons,List.map_nil]);first|done|rfl|(simp only [List.length_drop,List.length_take];rfl)) ?_
        with_reducible refine (spec_l1Cur_pick.calls g s0_0 t388 t389 t386 t405 t406 t407 w0 _ ?side1 ?side2 A52.out).mono ?_
        (case side1=>repeat (first|(with_reducible first|exact HI0.out|apply yA_|apply yN_|apply yW_|apply y1_|apply y2_|refine yF_ ?_ NB0_370.out _|refine yF_ ?_ NB0_385.out _)|exact HI0.out))
        (case side2=>repeat (first|(with_reducible first|exact HB.out|apply lA_|apply lN_|apply below_drew1|refine bS_ ?_ (IsS146.ge HI0.out)|refine bS_ ?_ GE370.out|refine bS_ ?_ GE385.out)|exact HB.out))
        rintro e w71 ⟨rfl,hi,hb,hk⟩
        refine ⟨_,rfl,?_⟩
        have n0_:=aM_ (KeepBut.blk hk (g':=gb370) (o:=.cells #[.int .i64 0,.int .i64 0,.int .i64 0,.slice none 0 0,.slice none 0 0,.slice none 0 0] 34 (0,0)) (by (with_reducible repeat (first|refine bN_ ?_ _|refine bW_ ?_|refine bA_ ?_ _));exact BK370.out) NB370_0.out (by simp))
        have n1_:=aM_ (Kd.R_mono (Kd.R_keep (IsS146.apart (show IsS146 w0 _ g s0_0 t388 t389 from by repeat (first|(with_reducible first|exact HI0.out|apply yA_|apply yN_|apply yW_|apply y1_|apply y2_|refine yF_ ?_ NB0_370.out _|refine yF_ ?_ NB0_385.out _)|exact HI0.out)) (by (with_reducible repeat (first|apply rA_|apply rN_|apply rW_));exact HO376.out) (by decide)) hk (fun _ h=>h.2)) (fun _ h=>h.1))
        have n2_:=aM_ (Kd.R_mono (Kd.R_keep (IsS146.apart (show IsS146 w0 _ g s0_0 t388 t389 from by repeat (first|(with_reducible first|exact HI0.out|apply yA_|apply yN_|apply yW_|apply y1_|apply y2_|refine yF_ ?_ NB0_370.out _|refine yF_ ?_ NB0_385.out _)|exact HI0.out)) (by (with_reducible repeat (first|apply rA_|apply rN_|apply rW_));exact HO379.out) (by decide)) hk (fun _ h=>h.2)) (fun _ h=>h.1))
        have n3_:=aM_ (Kd.R_mono (Kd.R_keep (IsS146.apart (show IsS146 w0 _ g s0_0 t388 t389 from by repeat (first|(with_reducible first|exact HI0.out|apply yA_|apply yN_|apply yW_|apply y1_|apply y2_|refine yF_ ?_ NB0_370.out _|refine yF_ ?_ NB0_385.out _)|exact HI0.out)) (by (with_reducible repeat (first|apply rA_|apply rN_|apply rW_));exact HO382.out) (by decide)) hk (fun _ h=>h.2)) (fun _ h=>h.1))
        have n4_:=aM_ (KeepBut.blk hk (g':=gb385) (o:=.cells #[.int .i64 t371,.int .i64 t372,.int .i64 t373,.slice Ao63 t374.length co63,.slice Ao64 t377.length co64,.slice Ao65 t380.length co65] 34 (0,0)) (by (with_reducible repeat (first|refine bN_ ?_ _|refine bW_ ?_|refine bA_ ?_ _));exact BK385.out) NB385_0.out (by simp))
        have n5_:=aM_ (Kd.R_mono (Kd.R_keep (IsS146.apart (show IsS146 w0 _ g s0_0 t388 t389 from by repeat (first|(with_reducible first|exact HI0.out|apply yA_|apply yN_|apply yW_|apply y1_|apply y2_|refine yF_ ?_ NB0_370.out _|refine yF_ ?_ NB0_385.out _)|exact HI0.out)) (by (with_reducible repeat (first|apply rA_|apply rN_|apply rW_));exact HO410.out) (by decide)) hk (fun _ h=>h.2)) (fun _ h=>h.1))
        have n6_:=aM_ (KeepBut.trans (by repeat (first|(with_reducible first|exact HK.out|apply KeepBut.set_|apply kN_|apply keep_drew|apply kA_|refine keep_far ?_ GW370.out _|refine keep_far ?_ GW385.out _)|exact HK.out)) hk (.inl rfl))
        have n7_:=aM_ (hb)
        have n8_:=aM_ (hi)
        clear BK370
        clear HO376
        clear HO379
        clear HO382
        clear BK385
        clear HO410
        clear HK
        clear HB
        clear HI0
        have BK370:=n0_
        have HO376:=n1_
        have HO379:=n2_
        have HO382:=n3_
        have BK385:=n4_
        have HO410:=n5_
        have HK:=n6_
        have HB:=n7_
        have HI0:=n8_
        clear n0_ n1_ n2_ n3_ n4_ n5_ n6_ n7_ n8_
        (try clear hb)
        (try clear hb2)
        (try clear hk)
        (try clear hi)
        refine hK.out _ _ ⟨(bC_ BK385.out 0).trans rfl,(bC_ BK385.out 1).trans rfl,(bC_ BK385.out 2).trans rfl,(bC_ BK385.out 3).trans rfl,(bC_ BK385.out 4).trans rfl,(bC_ BK385.out 5).trans rfl⟩ (fun hHeld=>?_)
        clear hK K
        refine norm_ (a':=?_) ?_ ?_
        rotate_left
        ·show Act.put _ (some 34) _=_
         simp only [Act.put,List.setIfInBounds_toArray,List.set_cons_zero,List.set_cons_succ,i64_w,i32_w]
         rfl
        exact norm_ (by simp only [putAll,Act.put,List.setIfInBounds_toArray,List.set_cons_zero,List.set_cons_succ]) (hCont (v409) _ ⟨hHeld,(by (with_reducible repeat (first|apply rA_|apply rN_|apply rW_));exact Kd.R_mono HO376.out (fun _ hk=>⟨hk.1.1,⟨hk.1.2,hk.2⟩⟩)),(by (with_reducible repeat (first|apply rA_|apply rN_|apply rW_));exact Kd.R_mono HO379.out (fun _ hk=>⟨hk.1.1,⟨hk.1.2,hk.2⟩⟩)),(by (with_reducible repeat (first|apply rA_|apply rN_|apply rW_));exact Kd.R_mono HO382.out (fun _ hk=>⟨hk.1.1,⟨hk.1.2,hk.2⟩⟩)),(by (with_reducible repeat (first|apply rA_|apply rN_|apply rW_));exact Kd.R_mono HO410.out (fun _ hk=>⟨hk.1.1.2,⟨hk.1.2,hk.2⟩⟩)),(by (with_reducible repeat (first|refine bN_ ?_ _|refine bW_ ?_|refine bA_ ?_ _));exact BK370.out),(by (with_reducible repeat (first|refine bN_ ?_ _|refine bW_ ?_|refine bA_ ?_ _));exact BK385.out),(by repeat (first|(with_reducible first|exact HI0.out|apply yA_|apply yN_|apply yW_|apply y1_|apply y2_|refine yF_ ?_ NB0_370.out _|refine yF_ ?_ NB0_385.out _)|exact HI0.out)),(by repeat (first|(with_reducible first|exact HK.out|apply KeepBut.set_|apply kN_|apply keep_drew|apply kA_|refine keep_far ?_ GW370.out _|refine keep_far ?_ GW385.out _)|exact HK.out)),(by repeat (first|(with_reducible first|exact HB.out|apply lA_|apply lN_|apply below_drew1|refine bS_ ?_ (IsS146.ge HI0.out)|refine bS_ ?_ GE370.out|refine bS_ ?_ GE385.out)|exact HB.out))⟩)
      rintro v409 w72 ⟨hS_,h0_,h1_,h2_,h3_,h4_,h5_,h6_,h7_,h8_⟩
      have n0_:Aside0 (Kd.R (Kd.int .i64) 3 w72 w.heap.size (fun k_=>some k_≠(.slice Ao64 t377.length co64:Value).ownBlock∧some k_≠(.slice Ao65 t380.length co65:Value).ownBlock∧some k_≠(v409:Value).ownBlock) (.slice Ao63 t374.length co63) t374):=⟨h0_⟩
      have n1_:Aside0 (Kd.R (Kd.int .i64) 3 w72 w.heap.size (fun k_=>some k_≠(.slice Ao63 t374.length co63:Value).ownBlock∧some k_≠(.slice Ao65 t380.length co65:Value).ownBlock∧some k_≠(v409:Value).ownBlock) (.slice Ao64 t377.length co64) t377):=⟨h1_⟩
      have n2_:Aside0 (Kd.R (Kd.int .i64) 3 w72 w.heap.size (fun k_=>some k_≠(.slice Ao63 t374.length co63:Value).ownBlock∧some k_≠(.slice Ao64 t377.length co64:Value).ownBlock∧some k_≠(v409:Value).ownBlock) (.slice Ao65 t380.length co65) t380):=⟨h2_⟩
      have n3_:Aside0 (Kd.R (Kd.int .i64) 3 w72 w.heap.size (fun k_=>some k_≠(.slice Ao63 t374.length co63:Value).ownBlock∧some k_≠(.slice Ao64 t377.length co64:Value).ownBlock∧some k_≠(.slice Ao65 t380.length co65:Value).ownBlock) v409 y408):=⟨h3_⟩
      have n4_:Aside0 (w72.heap[gb370]?=some (.cells #[.int .i64 0,.int .i64 0,.int .i64 0,.slice none 0 0,.slice none 0 0,.slice none 0 0] 34 (0,0))):=⟨h4_⟩
      have n5_:Aside0 (w72.heap[gb385]?=some (.cells #[.int .i64 t371,.int .i64 t372,.int .i64 t373,.slice Ao63 t374.length co63,.slice Ao64 t377.length co64,.slice Ao65 t380.length co65] 34 (0,0))):=⟨h5_⟩
      have n6_:Aside0 (IsS146 w0 w72 g s0_0 t406 t407):=⟨h6_⟩
      have n7_:Aside0 (KeepBut w w72 g none):=⟨h7_⟩
      have n8_:Aside0 (Below w0.heap.size w0 w72):=⟨h8_⟩
      clear HO376
      clear HO379
      clear HO382
      clear BK370
      clear BK385
      clear HI0
      clear HK
      clear HB
      clear h0_ h1_ h2_ h3_ h4_ h5_ h6_ h7_ h8_
      have HO376:=n0_
      have HO379:=n1_
      have HO382:=n2_
      have HO410:=n3_
      have BK370:=n4_
      have BK385:=n5_
      have HI0:=n6_
      have HK:=n7_
      have HB:=n8_
      clear n0_ n1_ n2_ n3_ n4_ n5_ n6_ n7_ n8_
      have hHeld:w72.cell? ⟨gb385,0,none⟩=some (.int .i64 t371)∧w72.cell? ⟨gb385,1,none⟩=some (.int .i64 t372)∧w72.cell? ⟨gb385,2,none⟩=some (.int .i64 t373)∧w72.cell? ⟨gb385,3,none⟩=some (.slice Ao63 t374.length co63)∧w72.cell? ⟨gb385,4,none⟩=some (.slice Ao64 t377.length co64)∧w72.cell? ⟨gb385,5,none⟩=some (.slice Ao65 t380.length co65):=hS_
      obtain ⟨Ao73,co73,eo73⟩:=Kd.R_slice HO410.out
      (first|subst eo73|(injection eo73 with f1_ f2_ f3_;have f4_:=f1_.symm;have f5_:=f3_.symm;clear f1_ f2_ f3_;subst f4_;subst f5_))
      refine norm_ (a':=?_) ?_ ?_
      rotate_left
      ·simp only [putAll,Act.put,List.setIfInBounds_toArray,List.set_cons_zero,List.set_cons_succ]
       rfl
      refine one_ (i:=7) (N:=some 37) #[true,true,true,true,true,true,true,true,false,false] rfl rfl (one_of HT_.out (by kernel_rfl)) (by decide) (fun K hK=>?_)
      refine goes_ Try.func128 (by kernel_rfl) rfl #[.pointer (some ⟨g,0,none⟩),.slice Ao73 y408.length co73] (by rfl) rfl rfl (by (try simp only [List.map_toArray,List.map_cons,List.map_nil]);first|done|rfl|(simp only [List.length_drop,List.length_take];rfl)) ?_
      with_reducible refine (spec_l1Cur_among.calls g s0_0 t406 t407 _ _ y408 t411 t412 t413 w0 _ ?side1 ?side2 ?side3 ?side4 ?side5 A53.out).mono ?_
      (case side1=>repeat (first|(with_reducible first|exact HI0.out|apply yA_|apply yN_|apply yW_|apply y1_|apply y2_|refine yF_ ?_ NB0_370.out _|refine yF_ ?_ NB0_385.out _)|exact HI0.out))
      (case side2=>repeat (first|(with_reducible first|exact HB.out|apply lA_|apply lN_|apply below_drew1|refine bS_ ?_ (IsS146.ge HI0.out)|refine bS_ ?_ GE370.out|refine bS_ ?_ GE385.out)|exact HB.out))
      (case side3=>repeat (first|exact (Kd.R_reads' HO410.out).2.2|(with_reducible refine Kd.C_alloc ?_ _)|(with_reducible refine Kd.C_drewN ?_ _)|(with_reducible refine Kd.C_drew ?_)))
      (case side4=>exact (Kd.R_reads' HO410.out).2.1)
      (case side5=>exact far_slice (IsS146.own_ne HI0.out HO410.out (by decide)))
      rintro e w74 ⟨rfl,hi,hb,hk⟩
      refine ⟨_,rfl,?_⟩
      have n0_:=aM_ (KeepBut.blk hk (g':=gb370) (o:=.cells #[.int .i64 0,.int .i64 0,.int .i64 0,.slice none 0 0,.slice none 0 0,.slice none 0 0] 34 (0,0)) (by (with_reducible repeat (first|refine bN_ ?_ _|refine bW_ ?_|refine bA_ ?_ _));exact BK370.out) NB370_0.out (by simp))
      have n1_:=aM_ (Kd.R_mono (Kd.R_keep (IsS146.apart (show IsS146 w0 _ g s0_0 t406 t407 from by repeat (first|(with_reducible first|exact HI0.out|apply yA_|apply yN_|apply yW_|apply y1_|apply y2_|refine yF_ ?_ NB0_370.out _|refine yF_ ?_ NB0_385.out _)|exact HI0.out)) (by (with_reducible repeat (first|apply rA_|apply rN_|apply rW_));exact HO376.out) (by decide)) hk (fun _ h=>h.2)) (fun _ h=>h.1))
      have n2_:=aM_ (Kd.R_mono (Kd.R_keep (IsS146.apart (show IsS146 w0 _ g s0_0 t406 t407 from by repeat (first|(with_reducible first|exact HI0.out|apply yA_|apply yN_|apply yW_|apply y1_|apply y2_|refine yF_ ?_ NB0_370.out _|refine yF_ ?_ NB0_385.out _)|exact HI0.out)) (by (with_reducible repeat (first|apply rA_|apply rN_|apply rW_));exact HO379.out) (by decide)) hk (fun _ h=>h.2)) (fun _ h=>h.1))
      have n3_:=aM_ (Kd.R_mono (Kd.R_keep (IsS146.apart (show IsS146 w0 _ g s0_0 t406 t407 from by repeat (first|(with_reducible first|exact HI0.out|apply yA_|apply yN_|apply yW_|apply y1_|apply y2_|refine yF_ ?_ NB0_370.out _|refine yF_ ?_ NB0_385.out _)|exact HI0.out)) (by (with_reducible repeat (first|apply rA_|apply rN_|apply rW_));exact HO382.out) (by decide)) hk (fun _ h=>h.2)) (fun _ h=>h.1))
      have n4_:=aM_ (KeepBut.blk hk (g':=gb385) (o:=.cells #[.int .i64 t371,.int .i64 t372,.int .i64 t373,.slice Ao63 t374.length co63,.slice Ao64 t377.length co64,.slice Ao65 t380.length co65] 34 (0,0)) (by (with_reducible repeat (first|refine bN_ ?_ _|refine bW_ ?_|refine bA_ ?_ _));exact BK385.out) NB385_0.out (by simp))
      have n5_:=aM_ (Kd.R_mono (Kd.R_keep (IsS146.apart (show IsS146 w0 _ g s0_0 t406 t407 from by repeat (first|(with_reducible first|exact HI0.out|apply yA_|apply yN_|apply yW_|apply y1_|apply y2_|refine yF_ ?_ NB0_370.out _|refine yF_ ?_ NB0_385.out _)|exact HI0.out)) (by (with_reducible repeat (first|apply rA_|apply rN_|apply rW_));exact HO410.out) (by decide)) hk (fun _ h=>h.2)) (fun _ h=>h.1))
      have n6_:=aM_ (KeepBut.trans (by repeat (first|(with_reducible first|exact HK.out|apply KeepBut.set_|apply kN_|apply keep_drew|apply kA_|refine keep_far ?_ GW370.out _|refine keep_far ?_ GW385.out _)|exact HK.out)) hk (.inl rfl))
      have n7_:=aM_ (hb)
      have n8_:=aM_ (hi)
      clear BK370
      clear HO376
      clear HO379
      clear HO382
      clear BK385
      clear HO410
      clear HK
      clear HB
      clear HI0
      have BK370:=n0_
      have HO376:=n1_
      have HO379:=n2_
      have HO382:=n3_
      have BK385:=n4_
      have HO410:=n5_
      have HK:=n6_
      have HB:=n7_
      have HI0:=n8_
      clear n0_ n1_ n2_ n3_ n4_ n5_ n6_ n7_ n8_
      (try clear hb)
      (try clear hb2)
      (try clear hk)
      (try clear hi)
      have p56:0≤(t405:Int):=of_decide_eq_true (by first|(with_reducible assumption)|assumption)
      have q56:(t405:Int) < ((t377.length:Int):Int):=of_decide_eq_true (by first|(with_reducible assumption)|assumption)
      obtain ⟨go56,co56,eo56,gb56,gl56,cl56,HG56⟩:=Kd.R_form HO379.out (by omega)
      (first|cases eo56|(injection eo56 with ea_ en_ ec_;(first|subst ea_|(injection ea_ with ea_;subst ea_));subst ec_;clear en_))
      have GB56:=aM_ gb56
      have GG56:=aM_ HG56
      clear gb56 gl56 HG56
      obtain ⟨hx56_0,hf56_0⟩:=Kd.R_celln 0 HO379.out (t405:Int) p56 q56
      replace p56:=eq_true p56
      replace q56:=eq_true q56
      have HN0_go56:=aM_ (show g≠go56 from by have h_:=IsS146.own_ne HI0.out HO379.out (by decide);intro e_;exact h_ (by rw [e_];rfl))
      have HP75:=Kd.R_putn HO379.out (t405:Int) t411
      rw [← Ny414.out] at HP75
      have HQ75:=aM_ HP75
      clear HP75
      refine hK.out _ _ ⟨(bC_ BK385.out 0).trans rfl,(bC_ BK385.out 1).trans rfl,(bC_ BK385.out 2).trans rfl,(bC_ BK385.out 3).trans rfl,(bC_ BK385.out 4).trans rfl,(bC_ BK385.out 5).trans rfl⟩ (fun hHeld=>?_)
      clear hK K
      refine norm_ (a':=?_) ?_ ?_
      rotate_left
      ·show Act.put _ (some 37) _=_
       simp only [Act.put,List.setIfInBounds_toArray,List.set_cons_zero,List.set_cons_succ,i64_w,i32_w]
       rfl
      refine pure_ (i:=8) (N:=some 38) (v:=?_) (a':=?_) #[true,true,true,true,true,true,true,true,true,false] rfl rfl (any_of HT_.out (by kernel_rfl)) (fun _ _ _ h=>h) (Or.inl ⟨by rfl,?_⟩) ?_ ?_
      rotate_left
      ·intro w'
       go_simp
       with_reducible rfl
      rotate_left
      ·simp only [Act.put,List.setIfInBounds_toArray,List.set_cons_zero,List.set_cons_succ,i64_w,i32_w]
       rfl
      refine last_ (i:=9) (N:=none) #[true,true,true,true,true,true,true,true,true,true] rfl rfl (one_of HT_.out (by kernel_rfl)) (by decide) (fun K hK=>?_)
      refine skip_ (w1:=?_) (by rfl) rfl ?_ ?_
      rotate_left
      ·go_simp
       rfl
      refine hK.out _ _ ?_
      clear hK K
      refine done_ (done_of HT_.out (by kernel_rfl)) ?_
      have n0_:Aside0 (Kd.R (Kd.int .i64) 3 (w74.setCell ⟨go56,(t405:Int).toNat,none⟩ (.int .i64 t411)) w.heap.size (fun k_=>some k_≠(.slice (some ⟨go56,0,none⟩) t377.length co64:Value).ownBlock∧some k_≠(.slice Ao65 t380.length co65:Value).ownBlock∧some k_≠(.slice Ao73 y408.length co73:Value).ownBlock) (.slice Ao63 t374.length co63) t374):=⟨by (with_reducible repeat (first|apply rA_|apply rN_|apply rW_));exact Kd.R_mono (rF_ (p:=⟨go56,(t405:Int).toNat,none⟩) (Kd.R_mono HO376.out (fun k_ hk=>(⟨hk,fun e_=>hk.1 (by rw [e_];rfl)⟩:_∧k_≠go56))) (fun _ hk=>hk.2) (.int .i64 t411)) (fun _ hk=>⟨hk.1.1,⟨hk.1.2.1,hk.1.2.2⟩⟩)⟩
      have n1_:Aside0 (Kd.R (Kd.int .i64) 3 (w74.setCell ⟨go56,(t405:Int).toNat,none⟩ (.int .i64 t411)) w.heap.size (fun k_=>some k_≠(.slice Ao63 t374.length co63:Value).ownBlock∧some k_≠(.slice Ao65 t380.length co65:Value).ownBlock∧some k_≠(.slice Ao73 y408.length co73:Value).ownBlock) (.slice (some ⟨go56,0,none⟩) t377.length co64) y414):=⟨by (with_reducible repeat (first|apply rA_|apply rN_|apply rW_));exact HQ75.out⟩
      have n2_:Aside0 (Kd.R (Kd.int .i64) 3 (w74.setCell ⟨go56,(t405:Int).toNat,none⟩ (.int .i64 t411)) w.heap.size (fun k_=>some k_≠(.slice Ao63 t374.length co63:Value).ownBlock∧some k_≠(.slice (some ⟨go56,0,none⟩) t377.length co64:Value).ownBlock∧some k_≠(.slice Ao73 y408.length co73:Value).ownBlock) (.slice Ao65 t380.length co65) t380):=⟨by (with_reducible repeat (first|apply rA_|apply rN_|apply rW_));exact Kd.R_mono (rF_ (p:=⟨go56,(t405:Int).toNat,none⟩) (Kd.R_mono HO382.out (fun k_ hk=>(⟨hk,fun e_=>hk.2.1 (by rw [e_];rfl)⟩:_∧k_≠go56))) (fun _ hk=>hk.2) (.int .i64 t411)) (fun _ hk=>⟨hk.1.1,⟨hk.1.2.1,hk.1.2.2⟩⟩)⟩
      have n3_:Aside0 (Kd.R (Kd.int .i64) 3 (w74.setCell ⟨go56,(t405:Int).toNat,none⟩ (.int .i64 t411)) w.heap.size (fun k_=>some k_≠(.slice Ao63 t374.length co63:Value).ownBlock∧some k_≠(.slice (some ⟨go56,0,none⟩) t377.length co64:Value).ownBlock∧some k_≠(.slice Ao65 t380.length co65:Value).ownBlock) (.slice Ao73 y408.length co73) y408):=⟨by (with_reducible repeat (first|apply rA_|apply rN_|apply rW_));exact Kd.R_mono (rF_ (p:=⟨go56,(t405:Int).toNat,none⟩) (Kd.R_mono HO410.out (fun k_ hk=>(⟨hk,fun e_=>hk.2.1 (by rw [e_];rfl)⟩:_∧k_≠go56))) (fun _ hk=>hk.2) (.int .i64 t411)) (fun _ hk=>⟨hk.1.1,⟨hk.1.2.1,hk.1.2.2⟩⟩)⟩
      have n4_:Aside0 ((w74.setCell ⟨go56,(t405:Int).toNat,none⟩ (.int .i64 t411)).heap[gb370]?=some (.cells #[.int .i64 0,.int .i64 0,.int .i64 0,.slice none 0 0,.slice none 0 0,.slice none 0 0] 34 (0,0))):=⟨by (with_reducible repeat (first|refine bN_ ?_ _|refine bW_ ?_|refine bA_ ?_ _));refine blk_far ?_ (by have h_:=Kd.R_ne HO379.out BK370.out (by decide);intro e_;exact h_ (by rw [e_];rfl)) _;(with_reducible repeat (first|refine bN_ ?_ _|refine bW_ ?_|refine bA_ ?_ _));exact BK370.out⟩
      have n5_:Aside0 ((w74.setCell ⟨go56,(t405:Int).toNat,none⟩ (.int .i64 t411)).heap[gb385]?=some (.cells #[.int .i64 t371,.int .i64 t372,.int .i64 t373,.slice Ao63 t374.length co63,.slice (some ⟨go56,0,none⟩) t377.length co64,.slice Ao65 t380.length co65] 34 (0,0))):=⟨by (with_reducible repeat (first|refine bN_ ?_ _|refine bW_ ?_|refine bA_ ?_ _));refine blk_far ?_ (by have h_:=Kd.R_ne HO379.out BK385.out (by decide);intro e_;exact h_ (by rw [e_];rfl)) _;(with_reducible repeat (first|refine bN_ ?_ _|refine bW_ ?_|refine bA_ ?_ _));exact BK385.out⟩
      have n6_:Aside0 (IsS146 w0 (w74.setCell ⟨go56,(t405:Int).toNat,none⟩ (.int .i64 t411)) g s0_0 t412 t413):=⟨by repeat (first|(with_reducible first|exact HI0.out|apply yA_|apply yN_|apply yW_|apply y1_|apply y2_|refine yF_ ?_ HN0_go56.out _|refine yF_ ?_ NB0_370.out _|refine yF_ ?_ NB0_385.out _)|exact HI0.out)⟩
      have n7_:Aside0 (KeepBut w (w74.setCell ⟨go56,(t405:Int).toNat,none⟩ (.int .i64 t411)) g none):=⟨by repeat (first|(with_reducible first|exact HK.out|apply KeepBut.set_|apply kN_|apply keep_drew|apply kA_|refine keep_far ?_ GB56.out _|refine keep_far ?_ GW370.out _|refine keep_far ?_ GW385.out _)|exact HK.out)⟩
      have n8_:Aside0 (Below w0.heap.size w0 (w74.setCell ⟨go56,(t405:Int).toNat,none⟩ (.int .i64 t411))):=⟨by repeat (first|(with_reducible first|exact HB.out|apply lA_|apply lN_|apply below_drew1|refine bS_ ?_ (Nat.le_trans HL.out GB56.out)|refine bS_ ?_ (IsS146.ge HI0.out)|refine bS_ ?_ GE370.out|refine bS_ ?_ GE385.out)|exact HB.out)⟩
      (try clear HO376)
      (try clear HO379)
      (try clear HO382)
      (try clear HO410)
      (try clear BK370)
      (try clear BK385)
      (try clear HI0)
      (try clear HK)
      (try clear HB)
      generalize (w74.setCell ⟨go56,(t405:Int).toNat,none⟩ (.int .i64 t411))=w76 at n0_ n1_ n2_ n3_ n4_ n5_ n6_ n7_ n8_ ⊢
      have HO376:=n0_
      have HO379:=n1_
      have HO382:=n2_
      have HO410:=n3_
      have BK370:=n4_
      have BK385:=n5_
      have HI0:=n6_
      have HK:=n7_
      have HB:=n8_
      clear n0_ n1_ n2_ n3_ n4_ n5_ n6_ n7_ n8_
      have hcz77_0:w76.cell? ⟨gb385,0,none⟩=some (.int .i64 t371):=(bC_ BK385.out 0).trans rfl
      have hcz77_1:w76.cell? ⟨gb385,1,none⟩=some (.int .i64 t372):=(bC_ BK385.out 1).trans rfl
      have hcz77_2:w76.cell? ⟨gb385,2,none⟩=some (.int .i64 t373):=(bC_ BK385.out 2).trans rfl
      have hcz77_3:w76.cell? ⟨gb385,3,none⟩=some (.slice Ao63 t374.length co63):=(bC_ BK385.out 3).trans rfl
      have hcz77_4:w76.cell? ⟨gb385,4,none⟩=some (.slice (some ⟨go56,0,none⟩) t377.length co64):=(bC_ BK385.out 4).trans rfl
      have hcz77_5:w76.cell? ⟨gb385,5,none⟩=some (.slice Ao65 t380.length co65):=(bC_ BK385.out 5).trans rfl
      have hfz77_0:=blk_frozen BK385.out 0
      have hfz77_1:=blk_frozen BK385.out 1
      have hfz77_2:=blk_frozen BK385.out 2
      have hfz77_3:=blk_frozen BK385.out 3
      have hfz77_4:=blk_frozen BK385.out 4
      have hfz77_5:=blk_frozen BK385.out 5
      have hnb78:=NB370_0.out
      have hnc78:=NB0_370.out
      have hcz79_0:w76.cell? ⟨gb370,0,none⟩=some (.int .i64 0):=(bC_ BK370.out 0).trans rfl
      have hcz79_1:w76.cell? ⟨gb370,1,none⟩=some (.int .i64 0):=(bC_ BK370.out 1).trans rfl
      have hcz79_2:w76.cell? ⟨gb370,2,none⟩=some (.int .i64 0):=(bC_ BK370.out 2).trans rfl
      have hcz79_3:w76.cell? ⟨gb370,3,none⟩=some (.slice none 0 0):=(bC_ BK370.out 3).trans rfl
      have hcz79_4:w76.cell? ⟨gb370,4,none⟩=some (.slice none 0 0):=(bC_ BK370.out 4).trans rfl
      have hcz79_5:w76.cell? ⟨gb370,5,none⟩=some (.slice none 0 0):=(bC_ BK370.out 5).trans rfl
      have hfz79_0:=blk_frozen BK370.out 0
      have hfz79_1:=blk_frozen BK370.out 1
      have hfz79_2:=blk_frozen BK370.out 2
      have hfz79_3:=blk_frozen BK370.out 3
      have hfz79_4:=blk_frozen BK370.out 4
      have hfz79_5:=blk_frozen BK370.out 5
      try go_wp2
      refine bodyPost_ret (results_cell_row rfl _ _ gb370 34 #[.int .i64 t371,.int .i64 t372,.int .i64 t373,.slice Ao63 t374.length co63,.slice (some ⟨go56,0,none⟩) t377.length co64,.slice Ao65 t380.length co65] (0,0) _ rfl (by (with_reducible repeat (first|refine bN_ ?_ _|refine bW_ ?_|refine bA_ ?_ _));refine blk_put (cs:=#[.int .i64 t371,.int .i64 t372,.int .i64 t373,.slice Ao63 t374.length co63,.slice (some ⟨go56,0,none⟩) t377.length co64,.slice none 0 0]) ?_ 5 _ rfl;(with_reducible repeat (first|refine bN_ ?_ _|refine bW_ ?_|refine bA_ ?_ _));refine blk_put (cs:=#[.int .i64 t371,.int .i64 t372,.int .i64 t373,.slice Ao63 t374.length co63,.slice none 0 0,.slice none 0 0]) ?_ 4 _ rfl;(with_reducible repeat (first|refine bN_ ?_ _|refine bW_ ?_|refine bA_ ?_ _));refine blk_put (cs:=#[.int .i64 t371,.int .i64 t372,.int .i64 t373,.slice none 0 0,.slice none 0 0,.slice none 0 0]) ?_ 3 _ rfl;(with_reducible repeat (first|refine bN_ ?_ _|refine bW_ ?_|refine bA_ ?_ _));refine blk_put (cs:=#[.int .i64 t371,.int .i64 t372,.int .i64 0,.slice none 0 0,.slice none 0 0,.slice none 0 0]) ?_ 2 _ rfl;(with_reducible repeat (first|refine bN_ ?_ _|refine bW_ ?_|refine bA_ ?_ _));refine blk_put (cs:=#[.int .i64 t371,.int .i64 0,.int .i64 0,.slice none 0 0,.slice none 0 0,.slice none 0 0]) ?_ 1 _ rfl;(with_reducible repeat (first|refine bN_ ?_ _|refine bW_ ?_|refine bA_ ?_ _));refine blk_put (cs:=#[.int .i64 0,.int .i64 0,.int .i64 0,.slice none 0 0,.slice none 0 0,.slice none 0 0]) ?_ 0 _ rfl;(with_reducible repeat (first|refine bN_ ?_ _|refine bW_ ?_|refine bA_ ?_ _));exact BK370.out) Try.underlying34 rfl (by kernel_rfl)) rfl ?_
      exact ⟨_,_,_,by first|rfl|(simp [errW_none,errW_some] <;> rfl)|(simp [*,errW_none,errW_some] <;> rfl),by (with_reducible repeat (first|apply rA_|apply rN_|apply rW_));exact Kd.R_mono (rF_ (p:=⟨gb370,5,none⟩) (rF_ (p:=⟨gb370,4,none⟩) (rF_ (p:=⟨gb370,3,none⟩) (rF_ (p:=⟨gb370,2,none⟩) (rF_ (p:=⟨gb370,1,none⟩) (rF_ (p:=⟨gb370,0,none⟩) (Kd.R_types HO376.out BK370.out (by decide)) (fun _ hk=>hk.2) (.int .i64 t371)) (fun _ hk=>hk.2) (.int .i64 t372)) (fun _ hk=>hk.2) (.int .i64 t373)) (fun _ hk=>hk.2) (.slice Ao63 t374.length co63)) (fun _ hk=>hk.2) (.slice (some ⟨go56,0,none⟩) t377.length co64)) (fun _ hk=>hk.2) (.slice Ao65 t380.length co65)) (fun _ hk=>⟨hk.1.1,hk.1.2.1⟩),by (with_reducible repeat (first|apply rA_|apply rN_|apply rW_));exact Kd.R_mono (rF_ (p:=⟨gb370,5,none⟩) (rF_ (p:=⟨gb370,4,none⟩) (rF_ (p:=⟨gb370,3,none⟩) (rF_ (p:=⟨gb370,2,none⟩) (rF_ (p:=⟨gb370,1,none⟩) (rF_ (p:=⟨gb370,0,none⟩) (Kd.R_types HO379.out BK370.out (by decide)) (fun _ hk=>hk.2) (.int .i64 t371)) (fun _ hk=>hk.2) (.int .i64 t372)) (fun _ hk=>hk.2) (.int .i64 t373)) (fun _ hk=>hk.2) (.slice Ao63 t374.length co63)) (fun _ hk=>hk.2) (.slice (some ⟨go56,0,none⟩) t377.length co64)) (fun _ hk=>hk.2) (.slice Ao65 t380.length co65)) (fun _ hk=>⟨hk.1.1,hk.1.2.1⟩),by (with_reducible repeat (first|apply rA_|apply rN_|apply rW_));exact Kd.R_mono (rF_ (p:=⟨gb370,5,none⟩) (rF_ (p:=⟨gb370,4,none⟩) (rF_ (p:=⟨gb370,3,none⟩) (rF_ (p:=⟨gb370,2,none⟩) (rF_ (p:=⟨gb370,1,none⟩) (rF_ (p:=⟨gb370,0,none⟩) (Kd.R_types HO382.out BK370.out (by decide)) (fun _ hk=>hk.2) (.int .i64 t371)) (fun _ hk=>hk.2) (.int .i64 t372)) (fun _ hk=>hk.2) (.int .i64 t373)) (fun _ hk=>hk.2) (.slice Ao63 t374.length co63)) (fun _ hk=>hk.2) (.slice (some ⟨go56,0,none⟩) t377.length co64)) (fun _ hk=>hk.2) (.slice Ao65 t380.length co65)) (fun _ hk=>⟨hk.1.1,hk.1.2.1⟩),by repeat (first|(with_reducible first|exact HI0.out|apply yA_|apply yN_|apply yW_|apply y1_|apply y2_|refine yF_ ?_ NB0_370.out _|refine yF_ ?_ NB0_385.out _)|exact HI0.out),by repeat (first|(with_reducible first|exact HB.out|apply lA_|apply lN_|apply below_drew1|refine bS_ ?_ (IsS146.ge HI0.out)|refine bS_ ?_ GE370.out|refine bS_ ?_ GE385.out)|exact HB.out),by repeat (first|(with_reducible first|exact HK.out|apply KeepBut.set_|apply kN_|apply keep_drew|apply kA_|refine keep_far ?_ GW370.out _|refine keep_far ?_ GW385.out _)|exact HK.out)⟩
     ·rw [if_neg c55] at H
      exact absurd H (by simp)
    ·rw [if_neg c54] at H
     exact absurd H (by simp)
   ·rw [if_neg c51] at H
    have c51b0:(t387 == 2)=false:=beq_eq_false_iff_ne.mpr c51
    have c51b1:(t387 != 2)=true:=bne_iff_ne.mpr c51
    by_cases c80:t387=3
    ·rw [if_pos c80] at H
     have c80b0:(t387 == 3)=true:=beq_iff_eq.mpr c80
     have c80b1:(t387 != 3)=false:=bne_eq_false_iff_eq.mpr c80
     clear c80
     replace H:=Option.bind_eq_some_iff.mp H
     obtain ⟨⟨t415,t416,t417⟩,A810,H⟩:=H
     replace H:((spec_l1Cur_among.f s0_0 t416 t417 (([(-1),4,5]:List Int))).bind fun bt421=>(if 0≤t415 then (if t415 < (t380.length:Int) then (some (t371,t372,t373,t374,t377,(t380.set (t415:Int).toNat bt421.1),bt421.2.1,bt421.2.2)) else (none)) else (none)))=some (r1,r2,r3,r4,r5,r6,r7,r8):=H
     have A81:=aM_ A810
     clear A810
     obtain ⟨y418,hy418⟩:∃ y_:List Int,y_=(([(-1),4,5]:List Int)):=⟨_,rfl⟩
     replace H:((spec_l1Cur_among.f s0_0 t416 t417 y418).bind fun bt421=>(if 0≤t415 then (if t415 < (t380.length:Int) then (some (t371,t372,t373,t374,t377,(t380.set (t415:Int).toNat bt421.1),bt421.2.1,bt421.2.2)) else (none)) else (none)))=some (r1,r2,r3,r4,r5,r6,r7,r8):=by first|(rw [hy418];with_reducible exact H)|(have H2_:=(Option.bind_some _ _).symm.trans H;rw [hy418];with_reducible exact H2_)|(have H2_:=(Option.bind_some _ _).symm.trans H;with_reducible exact H2_)|with_reducible exact H|(rw [hy418];exact H)|exact H
     have Ny418:=aM_ hy418
     clear hy418
     replace H:=Option.bind_eq_some_iff.mp H
     obtain ⟨⟨t421,t422,t423⟩,A820,H⟩:=H
     replace H:(if 0≤t415 then (if t415 < (t380.length:Int) then (some (t371,t372,t373,t374,t377,(t380.set (t415:Int).toNat t421),t422,t423)) else (none)) else (none))=some (r1,r2,r3,r4,r5,r6,r7,r8):=H
     have A82:=aM_ A820
     clear A820
     by_cases c83:0≤t415
     ·rw [if_pos c83] at H
      have c83b0:decide (0≤t415)=true:=decide_eq_true c83
      clear c83
      by_cases c84:t415 < (t380.length:Int)
      ·rw [if_pos c84] at H
       have c84b0:decide (t415 < (t380.length:Int))=true:=decide_eq_true c84
       clear c84
       obtain ⟨y424,hy424⟩:∃ y_:List Int,y_=(t380.set (t415:Int).toNat t421):=⟨_,rfl⟩
       replace H:(some (t371,t372,t373,t374,t377,y424,t422,t423))=some (r1,r2,r3,r4,r5,r6,r7,r8):=by first|(rw [hy424];with_reducible exact H)|(have H2_:=(Option.bind_some _ _).symm.trans H;rw [hy424];with_reducible exact H2_)|(have H2_:=(Option.bind_some _ _).symm.trans H;with_reducible exact H2_)|with_reducible exact H|(rw [hy424];exact H)|exact H
       have Ny424:=aM_ hy424
       clear hy424
       simp only [Option.some.injEq,Prod.mk.injEq] at H
       obtain ⟨rfl,rfl,rfl,rfl,rfl,rfl,rfl,rfl⟩:=H
       go_enter Try.func134,Try.ntmps134
       try go_wp2_with (first|((with_reducible refine gate_dst (N:=2) rfl ?_);refine box_event ?hg (N:=2) ?hd (cs:=#[.int .i64 0,.int .i64 0,.int .i64 0,.slice none 0 0,.slice none 0 0,.slice none 0 0]) (t:=34) ?hr ?_;(case hd=>rfl);(case hg=>rfl);(case hr=>first|(go_simp;done)|(go_simp;rfl));intro gb370 hg w86 hbox hb;have n0_:=aM_ (IsS146.below (by repeat (first|(with_reducible first|exact HI0.out|apply yA_|apply yN_|apply yW_|apply y1_|apply y2_)|exact HI0.out)) hb);have n1_:=aM_ (KeepBut.trans (by repeat (first|(with_reducible first|exact HK.out|apply KeepBut.set_|apply kN_|apply keep_drew|apply kA_)|exact HK.out)) (KeepBut.of_below hb g none) (.inl rfl));have n2_:=aM_ (below_step (by repeat (first|(with_reducible first|exact HB.out|apply lA_|apply lN_|apply below_drew1|refine bS_ ?_ (IsS146.ge HI0.out))|exact HB.out)) hb);have n3_:=aM_ (hbox);have n4_:=aM_ ((by rw [hg];exact (keep_size (w:=w) (g:=g) (row:=none) (by repeat (first|(with_reducible first|exact HK.out|apply KeepBut.set_|apply kN_|apply keep_drew|apply kA_)|exact HK.out))):w.heap.size≤gb370));have n5_:=aM_ ((Nat.le_trans HW0.out (by rw [hg];exact (keep_size (w:=w) (g:=g) (row:=none) (by repeat (first|(with_reducible first|exact HK.out|apply KeepBut.set_|apply kN_|apply keep_drew|apply kA_)|exact HK.out))):w.heap.size≤gb370):w0.heap.size≤gb370));have n6_:=aM_ ((by rw [hg];exact Nat.ne_of_lt (IsS146.lt (show IsS146 w0 _ g s0_0 s0_1 s0_2 from by repeat (first|(with_reducible first|exact HI0.out|apply yA_|apply yN_|apply yW_|apply y1_|apply y2_)|exact HI0.out))):g≠gb370));have n7_:=aM_ ((by rw [hg];exact Nat.ne_of_gt (IsS146.lt (show IsS146 w0 _ g s0_0 s0_1 s0_2 from by repeat (first|(with_reducible first|exact HI0.out|apply yA_|apply yN_|apply yW_|apply y1_|apply y2_)|exact HI0.out))):gb370≠g));clear HI0;clear HK;clear HB;have HI0:=n0_;have HK:=n1_;have HB:=n2_;have BK370:=n3_;have GW370:=n4_;have GE370:=n5_;have NB0_370:=n6_;have NB370_0:=n7_;clear n0_ n1_ n2_ n3_ n4_ n5_ n6_ n7_;clear hb hbox hg)|((with_reducible refine gate_callee (f:=183) rfl ?_);refine goesL_ (some 6) rfl rfl Try.func183 (by kernel_rfl) rfl #[.pointer (some ⟨g,0,none⟩)] rfl (by (try simp only [List.map_toArray,List.map_cons,List.map_nil]);first|done|rfl|(simp only [List.length_drop,List.length_take];rfl)) ?_;(with_reducible refine (spec_l1Cur_model.calls k g s0_0 s0_1 s0_2 t371 t372 t373 t374 t377 t380 t383 t384 w0 _ ?side1 ?side2 A2.out).mono ?_);(case side1=>repeat (first|(with_reducible first|exact HI0.out|apply yA_|apply yN_|apply yW_|apply y1_|apply y2_|refine yF_ ?_ NB0_370.out _)|exact HI0.out));(case side2=>repeat (first|(with_reducible first|exact HB.out|apply lA_|apply lN_|apply below_drew1|refine bS_ ?_ (IsS146.ge HI0.out)|refine bS_ ?_ GE370.out)|exact HB.out));rintro e w87 ⟨v375,v378,v381,rfl,ho0,ho1,ho2,hi,hb,hk⟩;refine ⟨_,rfl,?_⟩;have n0_:=aM_ (KeepBut.blk hk (g':=gb370) (o:=.cells #[.int .i64 0,.int .i64 0,.int .i64 0,.slice none 0 0,.slice none 0 0,.slice none 0 0] 34 (0,0)) (by (with_reducible repeat (first|refine bN_ ?_ _|refine bW_ ?_|refine bA_ ?_ _));exact BK370.out) NB370_0.out (by simp));have n1_:=aM_ (Kd.R_lower ho0 (keep_size (w:=w) (g:=g) (row:=none) (by repeat (first|(with_reducible first|exact HK.out|apply KeepBut.set_|apply kN_|apply keep_drew|apply kA_|refine keep_far ?_ GW370.out _)|exact HK.out))));have n2_:=aM_ (Kd.R_lower ho1 (keep_size (w:=w) (g:=g) (row:=none) (by repeat (first|(with_reducible first|exact HK.out|apply KeepBut.set_|apply kN_|apply keep_drew|apply kA_|refine keep_far ?_ GW370.out _)|exact HK.out))));have n3_:=aM_ (Kd.R_lower ho2 (keep_size (w:=w) (g:=g) (row:=none) (by repeat (first|(with_reducible first|exact HK.out|apply KeepBut.set_|apply kN_|apply keep_drew|apply kA_|refine keep_far ?_ GW370.out _)|exact HK.out))));have n4_:=aM_ (KeepBut.trans (by repeat (first|(with_reducible first|exact HK.out|apply KeepBut.set_|apply kN_|apply keep_drew|apply kA_|refine keep_far ?_ GW370.out _)|exact HK.out)) hk (.inl rfl));have n5_:=aM_ (hb);have n6_:=aM_ (hi);clear BK370;clear HK;clear HB;clear HI0;have BK370:=n0_;have HO376:=n1_;have HO379:=n2_;have HO382:=n3_;have HK:=n4_;have HB:=n5_;have HI0:=n6_;clear n0_ n1_ n2_ n3_ n4_ n5_ n6_;(try clear hb);(try clear hb2);(try clear hk);(try clear hi);(try clear ho0);(try clear ho1);(try clear ho2))|((with_reducible refine gate_dst (N:=3) rfl ?_);refine box_event ?hg (N:=3) ?hd (cs:=#[.int .i64 0,.int .i64 0,.int .i64 0,.slice none 0 0,.slice none 0 0,.slice none 0 0]) (t:=34) ?hr ?_;(case hd=>rfl);(case hg=>rfl);(case hr=>first|(go_simp;done)|(go_simp;rfl));intro gb385 hg w88 hbox hb;have n0_:=aM_ (Kd.R_below (by (with_reducible repeat (first|apply rA_|apply rN_|apply rW_));exact HO376.out) hb);have n1_:=aM_ (Kd.R_below (by (with_reducible repeat (first|apply rA_|apply rN_|apply rW_));exact HO379.out) hb);have n2_:=aM_ (Kd.R_below (by (with_reducible repeat (first|apply rA_|apply rN_|apply rW_));exact HO382.out) hb);have n3_:=aM_ (IsS146.below (by repeat (first|(with_reducible first|exact HI0.out|apply yA_|apply yN_|apply yW_|apply y1_|apply y2_|refine yF_ ?_ NB0_370.out _)|exact HI0.out)) hb);have n4_:=aM_ (blk_below (g:=gb370) (o:=.cells #[.int .i64 0,.int .i64 0,.int .i64 0,.slice none 0 0,.slice none 0 0,.slice none 0 0] 34 (0,0)) (by (with_reducible repeat (first|refine bN_ ?_ _|refine bW_ ?_|refine bA_ ?_ _));exact BK370.out) hb);have n5_:=aM_ (KeepBut.trans (by repeat (first|(with_reducible first|exact HK.out|apply KeepBut.set_|apply kN_|apply keep_drew|apply kA_|refine keep_far ?_ GW370.out _)|exact HK.out)) (KeepBut.of_below hb g none) (.inl rfl));have n6_:=aM_ (below_step (by repeat (first|(with_reducible first|exact HB.out|apply lA_|apply lN_|apply below_drew1|refine bS_ ?_ (IsS146.ge HI0.out)|refine bS_ ?_ GE370.out)|exact HB.out)) hb);have n7_:=aM_ (hbox);have n8_:=aM_ ((by rw [hg];exact (keep_size (w:=w) (g:=g) (row:=none) (by repeat (first|(with_reducible first|exact HK.out|apply KeepBut.set_|apply kN_|apply keep_drew|apply kA_|refine keep_far ?_ GW370.out _)|exact HK.out))):w.heap.size≤gb385));have n9_:=aM_ ((Nat.le_trans HW0.out (by rw [hg];exact (keep_size (w:=w) (g:=g) (row:=none) (by repeat (first|(with_reducible first|exact HK.out|apply KeepBut.set_|apply kN_|apply keep_drew|apply kA_|refine keep_far ?_ GW370.out _)|exact HK.out))):w.heap.size≤gb385):w0.heap.size≤gb385));have n10_:=aM_ ((by rw [hg];exact Nat.ne_of_lt (blk_lt (g:=gb370) (o:=.cells #[.int .i64 0,.int .i64 0,.int .i64 0,.slice none 0 0,.slice none 0 0,.slice none 0 0] 34 (0,0)) (by (with_reducible repeat (first|refine bN_ ?_ _|refine bW_ ?_|refine bA_ ?_ _));exact BK370.out)):gb370≠gb385));have n11_:=aM_ ((by rw [hg];exact Nat.ne_of_gt (blk_lt (g:=gb370) (o:=.cells #[.int .i64 0,.int .i64 0,.int .i64 0,.slice none 0 0,.slice none 0 0,.slice none 0 0] 34 (0,0)) (by (with_reducible repeat (first|refine bN_ ?_ _|refine bW_ ?_|refine bA_ ?_ _));exact BK370.out)):gb385≠gb370));have n12_:=aM_ ((by rw [hg];exact Nat.ne_of_lt (IsS146.lt (show IsS146 w0 _ g s0_0 t383 t384 from by repeat (first|(with_reducible first|exact HI0.out|apply yA_|apply yN_|apply yW_|apply y1_|apply y2_|refine yF_ ?_ NB0_370.out _)|exact HI0.out))):g≠gb385));have n13_:=aM_ ((by rw [hg];exact Nat.ne_of_gt (IsS146.lt (show IsS146 w0 _ g s0_0 t383 t384 from by repeat (first|(with_reducible first|exact HI0.out|apply yA_|apply yN_|apply yW_|apply y1_|apply y2_|refine yF_ ?_ NB0_370.out _)|exact HI0.out))):gb385≠g));clear HO376;clear HO379;clear HO382;clear HI0;clear BK370;clear HK;clear HB;have HO376:=n0_;have HO379:=n1_;have HO382:=n2_;have HI0:=n3_;have BK370:=n4_;have HK:=n5_;have HB:=n6_;have BK385:=n7_;have GW385:=n8_;have GE385:=n9_;have NB370_385:=n10_;have NB385_370:=n11_;have NB0_385:=n12_;have NB385_0:=n13_;clear n0_ n1_ n2_ n3_ n4_ n5_ n6_ n7_ n8_ n9_ n10_ n11_ n12_ n13_;clear hb hbox hg;have hnb89:=NB385_370.out;have hnc89:=NB370_385.out;have hnb90:=NB385_0.out;have hnc90:=NB0_385.out;have hcz91_0:w88.cell? ⟨gb385,0,none⟩=some (.int .i64 0):=(bC_ BK385.out 0).trans rfl;have hcz91_1:w88.cell? ⟨gb385,1,none⟩=some (.int .i64 0):=(bC_ BK385.out 1).trans rfl;have hcz91_2:w88.cell? ⟨gb385,2,none⟩=some (.int .i64 0):=(bC_ BK385.out 2).trans rfl;have hcz91_3:w88.cell? ⟨gb385,3,none⟩=some (.slice none 0 0):=(bC_ BK385.out 3).trans rfl;have hcz91_4:w88.cell? ⟨gb385,4,none⟩=some (.slice none 0 0):=(bC_ BK385.out 4).trans rfl;have hcz91_5:w88.cell? ⟨gb385,5,none⟩=some (.slice none 0 0):=(bC_ BK385.out 5).trans rfl;have hfz91_0:=blk_frozen BK385.out 0;have hfz91_1:=blk_frozen BK385.out 1;have hfz91_2:=blk_frozen BK385.out 2;have hfz91_3:=blk_frozen BK385.out 3;have hfz91_4:=blk_frozen BK385.out 4;have hfz91_5:=blk_frozen BK385.out 5;obtain ⟨Ao92,co92,eo92⟩:=Kd.R_slice HO376.out;subst eo92;obtain ⟨Ao93,co93,eo93⟩:=Kd.R_slice HO379.out;subst eo93;obtain ⟨Ao94,co94,eo94⟩:=Kd.R_slice HO382.out;subst eo94)|((with_reducible refine gate_callee (f:=160) rfl ?_);refine goesL_ (some 9) rfl rfl Try.func160 (by kernel_rfl) rfl #[.agg #[.int .i64 t371,.int .i64 t372,.int .i64 t373]] rfl (by (try simp only [List.map_toArray,List.map_cons,List.map_nil]);first|done|rfl|(simp only [List.length_drop,List.length_take];rfl)) ?_;(with_reducible refine (spec_grCount.calls t371 t372 t373 t386 _ A3.out).mono ?_);rintro e w95 ⟨rfl,hb⟩;refine ⟨_,rfl,?_⟩;have n0_:=aM_ (Kd.R_below (by (with_reducible repeat (first|apply rA_|apply rN_|apply rW_));exact (Kd.R_mono (rF_ (p:=⟨gb385,5,none⟩) (rF_ (p:=⟨gb385,4,none⟩) (rF_ (p:=⟨gb385,3,none⟩) (rF_ (p:=⟨gb385,2,none⟩) (rF_ (p:=⟨gb385,1,none⟩) (rF_ (p:=⟨gb385,0,none⟩) (Kd.R_types HO376.out BK385.out (by decide)) (fun _ hk=>hk.2) (.int .i64 t371)) (fun _ hk=>hk.2) (.int .i64 t372)) (fun _ hk=>hk.2) (.int .i64 t373)) (fun _ hk=>hk.2) (.slice Ao92 t374.length co92)) (fun _ hk=>hk.2) (.slice Ao93 t377.length co93)) (fun _ hk=>hk.2) (.slice Ao94 t380.length co94)) (fun _ h_=>h_.1))) hb);have n1_:=aM_ (Kd.R_below (by (with_reducible repeat (first|apply rA_|apply rN_|apply rW_));exact (Kd.R_mono (rF_ (p:=⟨gb385,5,none⟩) (rF_ (p:=⟨gb385,4,none⟩) (rF_ (p:=⟨gb385,3,none⟩) (rF_ (p:=⟨gb385,2,none⟩) (rF_ (p:=⟨gb385,1,none⟩) (rF_ (p:=⟨gb385,0,none⟩) (Kd.R_types HO379.out BK385.out (by decide)) (fun _ hk=>hk.2) (.int .i64 t371)) (fun _ hk=>hk.2) (.int .i64 t372)) (fun _ hk=>hk.2) (.int .i64 t373)) (fun _ hk=>hk.2) (.slice Ao92 t374.length co92)) (fun _ hk=>hk.2) (.slice Ao93 t377.length co93)) (fun _ hk=>hk.2) (.slice Ao94 t380.length co94)) (fun _ h_=>h_.1))) hb);have n2_:=aM_ (Kd.R_below (by (with_reducible repeat (first|apply rA_|apply rN_|apply rW_));exact (Kd.R_mono (rF_ (p:=⟨gb385,5,none⟩) (rF_ (p:=⟨gb385,4,none⟩) (rF_ (p:=⟨gb385,3,none⟩) (rF_ (p:=⟨gb385,2,none⟩) (rF_ (p:=⟨gb385,1,none⟩) (rF_ (p:=⟨gb385,0,none⟩) (Kd.R_types HO382.out BK385.out (by decide)) (fun _ hk=>hk.2) (.int .i64 t371)) (fun _ hk=>hk.2) (.int .i64 t372)) (fun _ hk=>hk.2) (.int .i64 t373)) (fun _ hk=>hk.2) (.slice Ao92 t374.length co92)) (fun _ hk=>hk.2) (.slice Ao93 t377.length co93)) (fun _ hk=>hk.2) (.slice Ao94 t380.length co94)) (fun _ h_=>h_.1))) hb);have n3_:=aM_ (IsS146.below (show IsS146 w0 ((((((w88.setCell ⟨gb385,0,none⟩ (.int .i64 t371)).setCell ⟨gb385,1,none⟩ (.int .i64 t372)).setCell ⟨gb385,2,none⟩ (.int .i64 t373)).setCell ⟨gb385,3,none⟩ (.slice Ao92 t374.length co92)).setCell ⟨gb385,4,none⟩ (.slice Ao93 t377.length co93)).setCell ⟨gb385,5,none⟩ (.slice Ao94 t380.length co94)) g s0_0 t383 t384 from by repeat (first|(with_reducible first|exact HI0.out|apply yA_|apply yN_|apply yW_|apply y1_|apply y2_|refine yF_ ?_ NB0_370.out _|refine yF_ ?_ NB0_385.out _)|exact HI0.out)) hb);have n4_:=aM_ (blk_below (g:=gb370) (o:=.cells #[.int .i64 0,.int .i64 0,.int .i64 0,.slice none 0 0,.slice none 0 0,.slice none 0 0] 34 (0,0)) (by (with_reducible repeat (first|refine bN_ ?_ _|refine bW_ ?_|refine bA_ ?_ _));refine blk_far ?_ NB370_385.out _;(with_reducible repeat (first|refine bN_ ?_ _|refine bW_ ?_|refine bA_ ?_ _));refine blk_far ?_ NB370_385.out _;(with_reducible repeat (first|refine bN_ ?_ _|refine bW_ ?_|refine bA_ ?_ _));refine blk_far ?_ NB370_385.out _;(with_reducible repeat (first|refine bN_ ?_ _|refine bW_ ?_|refine bA_ ?_ _));refine blk_far ?_ NB370_385.out _;(with_reducible repeat (first|refine bN_ ?_ _|refine bW_ ?_|refine bA_ ?_ _));refine blk_far ?_ NB370_385.out _;(with_reducible repeat (first|refine bN_ ?_ _|refine bW_ ?_|refine bA_ ?_ _));refine blk_far ?_ NB370_385.out _;(with_reducible repeat (first|refine bN_ ?_ _|refine bW_ ?_|refine bA_ ?_ _));exact BK370.out) hb);have n5_:=aM_ (blk_below (g:=gb385) (o:=.cells #[.int .i64 t371,.int .i64 t372,.int .i64 t373,.slice Ao92 t374.length co92,.slice Ao93 t377.length co93,.slice Ao94 t380.length co94] 34 (0,0)) (by (with_reducible repeat (first|refine bN_ ?_ _|refine bW_ ?_|refine bA_ ?_ _));refine blk_put (cs:=#[.int .i64 t371,.int .i64 t372,.int .i64 t373,.slice Ao92 t374.length co92,.slice Ao93 t377.length co93,.slice none 0 0]) ?_ 5 _ rfl;(with_reducible repeat (first|refine bN_ ?_ _|refine bW_ ?_|refine bA_ ?_ _));refine blk_put (cs:=#[.int .i64 t371,.int .i64 t372,.int .i64 t373,.slice Ao92 t374.length co92,.slice none 0 0,.slice none 0 0]) ?_ 4 _ rfl;(with_reducible repeat (first|refine bN_ ?_ _|refine bW_ ?_|refine bA_ ?_ _));refine blk_put (cs:=#[.int .i64 t371,.int .i64 t372,.int .i64 t373,.slice none 0 0,.slice none 0 0,.slice none 0 0]) ?_ 3 _ rfl;(with_reducible repeat (first|refine bN_ ?_ _|refine bW_ ?_|refine bA_ ?_ _));refine blk_put (cs:=#[.int .i64 t371,.int .i64 t372,.int .i64 0,.slice none 0 0,.slice none 0 0,.slice none 0 0]) ?_ 2 _ rfl;(with_reducible repeat (first|refine bN_ ?_ _|refine bW_ ?_|refine bA_ ?_ _));refine blk_put (cs:=#[.int .i64 t371,.int .i64 0,.int .i64 0,.slice none 0 0,.slice none 0 0,.slice none 0 0]) ?_ 1 _ rfl;(with_reducible repeat (first|refine bN_ ?_ _|refine bW_ ?_|refine bA_ ?_ _));refine blk_put (cs:=#[.int .i64 0,.int .i64 0,.int .i64 0,.slice none 0 0,.slice none 0 0,.slice none 0 0]) ?_ 0 _ rfl;(with_reducible repeat (first|refine bN_ ?_ _|refine bW_ ?_|refine bA_ ?_ _));exact BK385.out) hb);have n6_:=aM_ (KeepBut.trans (by repeat (first|(with_reducible first|exact HK.out|apply KeepBut.set_|apply kN_|apply keep_drew|apply kA_|refine keep_far ?_ GW370.out _|refine keep_far ?_ GW385.out _)|exact HK.out)) (KeepBut.of_below hb g none) (.inl rfl));have n7_:=aM_ (below_step (by repeat (first|(with_reducible first|exact HB.out|apply lA_|apply lN_|apply below_drew1|refine bS_ ?_ (IsS146.ge HI0.out)|refine bS_ ?_ GE370.out|refine bS_ ?_ GE385.out)|exact HB.out)) hb);clear HO376;clear HO379;clear HO382;clear HI0;clear BK370;clear BK385;clear HK;clear HB;have HO376:=n0_;have HO379:=n1_;have HO382:=n2_;have HI0:=n3_;have BK370:=n4_;have BK385:=n5_;have HK:=n6_;have HB:=n7_;clear n0_ n1_ n2_ n3_ n4_ n5_ n6_ n7_;(try clear hb);(try clear hb2);(try clear hk);(try clear hi))|((with_reducible refine gate_callee (f:=135) rfl ?_);refine goesL_ (some 11) rfl rfl Try.func135 (by kernel_rfl) rfl #[.pointer (some ⟨g,0,none⟩),.int .i64 30] rfl (by (try simp only [List.map_toArray,List.map_cons,List.map_nil]);first|done|rfl|(simp only [List.length_drop,List.length_take];rfl)) ?_;(with_reducible refine (spec_l1Cur_pick.calls g s0_0 t383 t384 30 t387 t388 t389 w0 _ ?side1 ?side2 A4.out).mono ?_);(case side1=>repeat (first|(with_reducible first|exact HI0.out|apply yA_|apply yN_|apply yW_|apply y1_|apply y2_|refine yF_ ?_ NB0_370.out _|refine yF_ ?_ NB0_385.out _)|exact HI0.out));(case side2=>repeat (first|(with_reducible first|exact HB.out|apply lA_|apply lN_|apply below_drew1|refine bS_ ?_ (IsS146.ge HI0.out)|refine bS_ ?_ GE370.out|refine bS_ ?_ GE385.out)|exact HB.out));rintro e w96 ⟨rfl,hi,hb,hk⟩;refine ⟨_,rfl,?_⟩;have n0_:=aM_ (KeepBut.blk hk (g':=gb370) (o:=.cells #[.int .i64 0,.int .i64 0,.int .i64 0,.slice none 0 0,.slice none 0 0,.slice none 0 0] 34 (0,0)) (by (with_reducible repeat (first|refine bN_ ?_ _|refine bW_ ?_|refine bA_ ?_ _));exact BK370.out) NB370_0.out (by simp));have n1_:=aM_ (Kd.R_mono (Kd.R_keep (IsS146.apart (show IsS146 w0 _ g s0_0 t383 t384 from by repeat (first|(with_reducible first|exact HI0.out|apply yA_|apply yN_|apply yW_|apply y1_|apply y2_|refine yF_ ?_ NB0_370.out _|refine yF_ ?_ NB0_385.out _)|exact HI0.out)) (by (with_reducible repeat (first|apply rA_|apply rN_|apply rW_));exact HO376.out) (by decide)) hk (fun _ h=>h.2)) (fun _ h=>h.1));have n2_:=aM_ (Kd.R_mono (Kd.R_keep (IsS146.apart (show IsS146 w0 _ g s0_0 t383 t384 from by repeat (first|(with_reducible first|exact HI0.out|apply yA_|apply yN_|apply yW_|apply y1_|apply y2_|refine yF_ ?_ NB0_370.out _|refine yF_ ?_ NB0_385.out _)|exact HI0.out)) (by (with_reducible repeat (first|apply rA_|apply rN_|apply rW_));exact HO379.out) (by decide)) hk (fun _ h=>h.2)) (fun _ h=>h.1));have n3_:=aM_ (Kd.R_mono (Kd.R_keep (IsS146.apart (show IsS146 w0 _ g s0_0 t383 t384 from by repeat (first|(with_reducible first|exact HI0.out|apply yA_|apply yN_|apply yW_|apply y1_|apply y2_|refine yF_ ?_ NB0_370.out _|refine yF_ ?_ NB0_385.out _)|exact HI0.out)) (by (with_reducible repeat (first|apply rA_|apply rN_|apply rW_));exact HO382.out) (by decide)) hk (fun _ h=>h.2)) (fun _ h=>h.1));have n4_:=aM_ (KeepBut.blk hk (g':=gb385) (o:=.cells #[.int .i64 t371,.int .i64 t372,.int .i64 t373,.slice Ao92 t374.length co92,.slice Ao93 t377.length co93,.slice Ao94 t380.length co94] 34 (0,0)) (by (with_reducible repeat (first|refine bN_ ?_ _|refine bW_ ?_|refine bA_ ?_ _));exact BK385.out) NB385_0.out (by simp));have n5_:=aM_ (KeepBut.trans (by repeat (first|(with_reducible first|exact HK.out|apply KeepBut.set_|apply kN_|apply keep_drew|apply kA_|refine keep_far ?_ GW370.out _|refine keep_far ?_ GW385.out _)|exact HK.out)) hk (.inl rfl));have n6_:=aM_ (hb);have n7_:=aM_ (hi);clear BK370;clear HO376;clear HO379;clear HO382;clear BK385;clear HK;clear HB;clear HI0;have BK370:=n0_;have HO376:=n1_;have HO379:=n2_;have HO382:=n3_;have BK385:=n4_;have HK:=n5_;have HB:=n6_;have HI0:=n7_;clear n0_ n1_ n2_ n3_ n4_ n5_ n6_ n7_;(try clear hb);(try clear hb2);(try clear hk);(try clear hi)))
       have n0_:=aM_ (rW_ HO376.out)
       have n1_:=aM_ (rW_ HO379.out)
       have n2_:=aM_ (rW_ HO382.out)
       have n3_:=aM_ (bW_ BK370.out)
       have n4_:=aM_ (bW_ BK385.out)
       have n5_:=aM_ (yW_ HI0.out)
       have n6_:=aM_ (keep_drew HK.out)
       have n7_:=aM_ (below_drew1 HB.out)
       clear HO376
       clear HO379
       clear HO382
       clear BK370
       clear BK385
       clear HI0
       clear HK
       clear HB
       have HO376:=n0_
       have HO379:=n1_
       have HO382:=n2_
       have BK370:=n3_
       have BK385:=n4_
       have HI0:=n5_
       have HK:=n6_
       have HB:=n7_
       clear n0_ n1_ n2_ n3_ n4_ n5_ n6_ n7_
       refine start_ (n:=10) (S:=fun w'=>w'.cell? ⟨gb385,0,none⟩=some (.int .i64 t371)∧w'.cell? ⟨gb385,1,none⟩=some (.int .i64 t372)∧w'.cell? ⟨gb385,2,none⟩=some (.int .i64 t373)∧w'.cell? ⟨gb385,3,none⟩=some (.slice Ao92 t374.length co92)∧w'.cell? ⟨gb385,4,none⟩=some (.slice Ao93 t377.length co93)∧w'.cell? ⟨gb385,5,none⟩=some (.slice Ao94 t380.length co94)) (ds:=[9]) #[false,false,false,false,false,false,false,false,false,false] (by kernel_rfl) rfl rfl ⟨(bC_ BK385.out 0).trans rfl,(bC_ BK385.out 1).trans rfl,(bC_ BK385.out 2).trans rfl,(bC_ BK385.out 3).trans rfl,(bC_ BK385.out 4).trans rfl,(bC_ BK385.out 5).trans rfl⟩ (fun hHeld=>?_);refine with_tabW spec_l1Cur_anyModel.tab11 spec_l1Cur_anyModel.bits11 (fun HT_ HW_=>?_)
       generalize w96.drew=w97 at HO376 HO379 HO382 BK370 BK385 HI0 HK HB hHeld ⊢
       refine pure_ (i:=0) (N:=some 41) (v:=?_) (a':=?_) #[true,false,false,false,false,false,false,false,false,false] rfl rfl (any_of HT_.out (by kernel_rfl)) (fun _ _ _ h=>h) (Or.inl ⟨by rfl,?_⟩) ?_ ?_
       rotate_left
       ·intro w'
        go_simp
        with_reducible rfl
       rotate_left
       ·simp only [Act.put,List.setIfInBounds_toArray,List.set_cons_zero,List.set_cons_succ,i64_w,i32_w]
        rfl
       refine pure_ (i:=2) (N:=some 43) (v:=?_) (a':=?_) #[true,false,true,false,false,false,false,false,false,false] rfl rfl (any_of HT_.out (by kernel_rfl)) (fun _ _ _ h=>h) (Or.inl ⟨by rfl,?_⟩) ?_ ?_
       rotate_left
       ·intro w'
        go_simp
        with_reducible rfl
       rotate_left
       ·simp only [Act.put,List.setIfInBounds_toArray,List.set_cons_zero,List.set_cons_succ,i64_w,i32_w]
        rfl
       refine pure_ (i:=3) (N:=some 44) (v:=?_) (a':=?_) #[true,false,true,true,false,false,false,false,false,false] rfl rfl (any_of HT_.out (by kernel_rfl)) (fun _ _ _ h=>h) (Or.inl ⟨by rfl,?_⟩) ?_ ?_
       rotate_left
       ·intro w'
        go_simp
        with_reducible rfl
       rotate_left
       ·simp only [Act.put,List.setIfInBounds_toArray,List.set_cons_zero,List.set_cons_succ,i64_w,i32_w]
        rfl
       refine pure_ (i:=5) (N:=some 46) (v:=?_) (a':=?_) #[true,false,true,true,false,true,false,false,false,false] rfl rfl (any_of HT_.out (by kernel_rfl)) (fun _ _ _ h=>h) (Or.inl ⟨by rfl,?_⟩) ?_ ?_
       rotate_left
       ·intro w'
        go_simp
        with_reducible rfl
       rotate_left
       ·simp only [Act.put,List.setIfInBounds_toArray,List.set_cons_zero,List.set_cons_succ,i64_w,i32_w]
        rfl
       refine take_ (i:=1) (N:=some 42) (v:=?_) (a':=?_) #[true,true,true,true,false,true,false,false,false,false] rfl rfl (take_ofW HT_.out HW_.out (by kernel_rfl)) (fun _ _ _ h=>h) (Or.inl ⟨by rfl,?_⟩) hHeld ?_ ?_
       rotate_left
       ·rintro w' ⟨s0,s1,s2,s3,s4,s5⟩
        go_simp
        with_reducible rfl
       rotate_left
       ·simp only [Act.put,List.setIfInBounds_toArray,List.set_cons_zero,List.set_cons_succ,i64_w,i32_w]
        rfl
       refine join_ (σ:=Value) 3 #[true,true,true,true,true,true,true,false,false,false] (fun s_=>[(45,.int .i64 t415),(47,s_)]) (fun s_ w'=>(w'.cell? ⟨gb385,0,none⟩=some (.int .i64 t371)∧w'.cell? ⟨gb385,1,none⟩=some (.int .i64 t372)∧w'.cell? ⟨gb385,2,none⟩=some (.int .i64 t373)∧w'.cell? ⟨gb385,3,none⟩=some (.slice Ao92 t374.length co92)∧w'.cell? ⟨gb385,4,none⟩=some (.slice Ao93 t377.length co93)∧w'.cell? ⟨gb385,5,none⟩=some (.slice Ao94 t380.length co94))∧(Kd.R (Kd.int .i64) 3 w' w.heap.size (fun k_=>some k_≠(.slice Ao93 t377.length co93:Value).ownBlock∧some k_≠(.slice Ao94 t380.length co94:Value).ownBlock∧some k_≠(s_:Value).ownBlock) (.slice Ao92 t374.length co92) t374)∧(Kd.R (Kd.int .i64) 3 w' w.heap.size (fun k_=>some k_≠(.slice Ao92 t374.length co92:Value).ownBlock∧some k_≠(.slice Ao94 t380.length co94:Value).ownBlock∧some k_≠(s_:Value).ownBlock) (.slice Ao93 t377.length co93) t377)∧(Kd.R (Kd.int .i64) 3 w' w.heap.size (fun k_=>some k_≠(.slice Ao92 t374.length co92:Value).ownBlock∧some k_≠(.slice Ao93 t377.length co93:Value).ownBlock∧some k_≠(s_:Value).ownBlock) (.slice Ao94 t380.length co94) t380)∧(Kd.R (Kd.int .i64) 3 w' w.heap.size (fun k_=>some k_≠(.slice Ao92 t374.length co92:Value).ownBlock∧some k_≠(.slice Ao93 t377.length co93:Value).ownBlock∧some k_≠(.slice Ao94 t380.length co94:Value).ownBlock) s_ y418)∧(w'.heap[gb370]?=some (.cells #[.int .i64 0,.int .i64 0,.int .i64 0,.slice none 0 0,.slice none 0 0,.slice none 0 0] 34 (0,0)))∧(w'.heap[gb385]?=some (.cells #[.int .i64 t371,.int .i64 t372,.int .i64 t373,.slice Ao92 t374.length co92,.slice Ao93 t377.length co93,.slice Ao94 t380.length co94] 34 (0,0)))∧(IsS146 w0 w' g s0_0 t416 t417)∧(KeepBut w w' g none)∧(Below w0.heap.size w0 w')) ?_ ?_
       rotate_left
       ·intro hCont
        refine two_ (i:=4) (j:=6) (Ni:=some 45) (Nj:=some 47) #[true,true,true,true,true,true,false,false,false,false] #[true,true,true,true,false,true,true,false,false,false] rfl rfl rfl rfl (two_of HT_.out (by kernel_rfl)) (by decide) (by decide) (fun K hK=>?_) (fun K hK=>?_)
        ·skip
         refine goes_ Try.func135 (by kernel_rfl) rfl #[.pointer (some ⟨g,0,none⟩),.int .i64 t386] (by rfl) rfl rfl (by (try simp only [List.map_toArray,List.map_cons,List.map_nil]);first|done|rfl|(simp only [List.length_drop,List.length_take];rfl)) ?_
         with_reducible refine (spec_l1Cur_pick.calls g s0_0 t388 t389 t386 t415 t416 t417 w0 _ ?side1 ?side2 A81.out).mono ?_
         (case side1=>repeat (first|(with_reducible first|exact HI0.out|apply yA_|apply yN_|apply yW_|apply y1_|apply y2_|refine yF_ ?_ NB0_370.out _|refine yF_ ?_ NB0_385.out _)|exact HI0.out))
         (case side2=>repeat (first|(with_reducible first|exact HB.out|apply lA_|apply lN_|apply below_drew1|refine bS_ ?_ (IsS146.ge HI0.out)|refine bS_ ?_ GE370.out|refine bS_ ?_ GE385.out)|exact HB.out))
         rintro e w98 ⟨rfl,hi,hb,hk⟩
         refine ⟨_,rfl,?_⟩
         have n0_:=aM_ (KeepBut.blk hk (g':=gb370) (o:=.cells #[.int .i64 0,.int .i64 0,.int .i64 0,.slice none 0 0,.slice none 0 0,.slice none 0 0] 34 (0,0)) (by (with_reducible repeat (first|refine bN_ ?_ _|refine bW_ ?_|refine bA_ ?_ _));exact BK370.out) NB370_0.out (by simp))
         have n1_:=aM_ (Kd.R_mono (Kd.R_keep (IsS146.apart (show IsS146 w0 _ g s0_0 t388 t389 from by repeat (first|(with_reducible first|exact HI0.out|apply yA_|apply yN_|apply yW_|apply y1_|apply y2_|refine yF_ ?_ NB0_370.out _|refine yF_ ?_ NB0_385.out _)|exact HI0.out)) (by (with_reducible repeat (first|apply rA_|apply rN_|apply rW_));exact HO376.out) (by decide)) hk (fun _ h=>h.2)) (fun _ h=>h.1))
         have n2_:=aM_ (Kd.R_mono (Kd.R_keep (IsS146.apart (show IsS146 w0 _ g s0_0 t388 t389 from by repeat (first|(with_reducible first|exact HI0.out|apply yA_|apply yN_|apply yW_|apply y1_|apply y2_|refine yF_ ?_ NB0_370.out _|refine yF_ ?_ NB0_385.out _)|exact HI0.out)) (by (with_reducible repeat (first|apply rA_|apply rN_|apply rW_));exact HO379.out) (by decide)) hk (fun _ h=>h.2)) (fun _ h=>h.1))
         have n3_:=aM_ (Kd.R_mono (Kd.R_keep (IsS146.apart (show IsS146 w0 _ g s0_0 t388 t389 from by repeat (first|(with_reducible first|exact HI0.out|apply yA_|apply yN_|apply yW_|apply y1_|apply y2_|refine yF_ ?_ NB0_370.out _|refine yF_ ?_ NB0_385.out _)|exact HI0.out)) (by (with_reducible repeat (first|apply rA_|apply rN_|apply rW_));exact HO382.out) (by decide)) hk (fun _ h=>h.2)) (fun _ h=>h.1))
         have n4_:=aM_ (KeepBut.blk hk (g':=gb385) (o:=.cells #[.int .i64 t371,.int .i64 t372,.int .i64 t373,.slice Ao92 t374.length co92,.slice Ao93 t377.length co93,.slice Ao94 t380.length co94] 34 (0,0)) (by (with_reducible repeat (first|refine bN_ ?_ _|refine bW_ ?_|refine bA_ ?_ _));exact BK385.out) NB385_0.out (by simp))
         have n5_:=aM_ (KeepBut.trans (by repeat (first|(with_reducible first|exact HK.out|apply KeepBut.set_|apply kN_|apply keep_drew|apply kA_|refine keep_far ?_ GW370.out _|refine keep_far ?_ GW385.out _)|exact HK.out)) hk (.inl rfl))
         have n6_:=aM_ (hb)
         have n7_:=aM_ (hi)
         clear BK370
         clear HO376
         clear HO379
         clear HO382
         clear BK385
         clear HK
         clear HB
         clear HI0
         have BK370:=n0_
         have HO376:=n1_
         have HO379:=n2_
         have HO382:=n3_
         have BK385:=n4_
         have HK:=n5_
         have HB:=n6_
         have HI0:=n7_
         clear n0_ n1_ n2_ n3_ n4_ n5_ n6_ n7_
         (try clear hb)
         (try clear hb2)
         (try clear hk)
         (try clear hi)
         refine hK.out _ _ ⟨(bC_ BK385.out 0).trans rfl,(bC_ BK385.out 1).trans rfl,(bC_ BK385.out 2).trans rfl,(bC_ BK385.out 3).trans rfl,(bC_ BK385.out 4).trans rfl,(bC_ BK385.out 5).trans rfl⟩ (fun hHeld=>?_)
         clear hK K
         refine norm_ (a':=?_) ?_ ?_
         rotate_left
         ·show Act.put _ (some 45) _=_
          simp only [Act.put,List.setIfInBounds_toArray,List.set_cons_zero,List.set_cons_succ,i64_w,i32_w]
          rfl
         refine one_ (i:=6) (N:=some 47) #[true,true,true,true,true,true,true,false,false,false] rfl rfl (one_of HT_.out (by kernel_rfl)) (by decide) (fun K hK=>?_)
         refine Kd.R_lit_step (Kd.int .i64) _ 3 ?hg (N:=47) ?hd (xs:=([(-1),4,5]:List Int)) (inner:=[.int .i64 (-1),.int .i64 4,.int .i64 5]) (ok:=fun _=>True) (okp:=fun _=>True) ?hr ?hp (fun _ hk=>hk) trivial (Below.refl _ _) (Nat.le_refl _) (by simp) ?_;(case hd=>rfl);(case hg=>rfl);(case hr=>first|(go_simp;done)|(go_simp;rfl));(case hp=>exact (Reps.one (show Kd.M (Kd.int .i64) _ _ _ (-1) [.int .i64 (-1)] from rfl) (Reps.one (show Kd.M (Kd.int .i64) _ _ _ 4 [.int .i64 4] from rfl) (Reps.one (show Kd.M (Kd.int .i64) _ _ _ 5 [.int .i64 5] from rfl) (Reps.none _ _)))))
         intro v419 w99 ho100 hb hg_ hnew_
         clear hg_ hnew_
         (first|rw [← Ny418.out] at ho100|(simp only [Int.reduceToNat] at ho100;rw [← Ny418.out] at ho100))
         have n0_:=aM_ (Kd.R_elder' (by (with_reducible repeat (first|apply rA_|apply rN_|apply rW_));exact HO376.out) (Kd.R_base ho100) hb)
         have n1_:=aM_ (Kd.R_elder' (by (with_reducible repeat (first|apply rA_|apply rN_|apply rW_));exact HO379.out) (Kd.R_base ho100) hb)
         have n2_:=aM_ (Kd.R_elder' (by (with_reducible repeat (first|apply rA_|apply rN_|apply rW_));exact HO382.out) (Kd.R_base ho100) hb)
         have n3_:=aM_ (Kd.R_lower (Kd.R_new' (Kd.R_new' (Kd.R_new' ho100 (Kd.R_lt (by (with_reducible repeat (first|apply rA_|apply rN_|apply rW_));exact HO376.out))) (Kd.R_lt (by (with_reducible repeat (first|apply rA_|apply rN_|apply rW_));exact HO379.out))) (Kd.R_lt (by (with_reducible repeat (first|apply rA_|apply rN_|apply rW_));exact HO382.out))) (keep_size (w:=w) (g:=g) (row:=none) (by repeat (first|(with_reducible first|exact HK.out|apply KeepBut.set_|apply kN_|apply keep_drew|apply kA_|refine keep_far ?_ GW370.out _|refine keep_far ?_ GW385.out _)|exact HK.out))))
         have n4_:=aM_ (IsS146.below (by repeat (first|(with_reducible first|exact HI0.out|apply yA_|apply yN_|apply yW_|apply y1_|apply y2_|refine yF_ ?_ NB0_370.out _|refine yF_ ?_ NB0_385.out _)|exact HI0.out)) hb)
         have n5_:=aM_ (blk_below (g:=gb370) (o:=.cells #[.int .i64 0,.int .i64 0,.int .i64 0,.slice none 0 0,.slice none 0 0,.slice none 0 0] 34 (0,0)) (by (with_reducible repeat (first|refine bN_ ?_ _|refine bW_ ?_|refine bA_ ?_ _));exact BK370.out) hb)
         have n6_:=aM_ (blk_below (g:=gb385) (o:=.cells #[.int .i64 t371,.int .i64 t372,.int .i64 t373,.slice Ao92 t374.length co92,.slice Ao93 t377.length co93,.slice Ao94 t380.length co94] 34 (0,0)) (by (with_reducible repeat (first|refine bN_ ?_ _|refine bW_ ?_|refine bA_ ?_ _));exact BK385.out) hb)
         have n7_:=aM_ (KeepBut.trans (by repeat (first|(with_reducible first|exact HK.out|apply KeepBut.set_|apply kN_|apply keep_drew|apply kA_|refine keep_far ?_ GW370.out _|refine keep_far ?_ GW385.out _)|exact HK.out)) (KeepBut.of_below hb g none) (.inl rfl))
         have n8_:=aM_ (below_step (by repeat (first|(with_reducible first|exact HB.out|apply lA_|apply lN_|apply below_drew1|refine bS_ ?_ (IsS146.ge HI0.out)|refine bS_ ?_ GE370.out|refine bS_ ?_ GE385.out)|exact HB.out)) hb)
         clear HO376
         clear HO379
         clear HO382
         clear HI0
         clear BK370
         clear BK385
         clear HK
         clear HB
         have HO376:=n0_
         have HO379:=n1_
         have HO382:=n2_
         have HO420:=n3_
         have HI0:=n4_
         have BK370:=n5_
         have BK385:=n6_
         have HK:=n7_
         have HB:=n8_
         clear n0_ n1_ n2_ n3_ n4_ n5_ n6_ n7_ n8_
         clear hb ho100
         refine hK.out _ _ ⟨(bC_ BK385.out 0).trans rfl,(bC_ BK385.out 1).trans rfl,(bC_ BK385.out 2).trans rfl,(bC_ BK385.out 3).trans rfl,(bC_ BK385.out 4).trans rfl,(bC_ BK385.out 5).trans rfl⟩ (fun hHeld=>?_)
         clear hK K
         refine norm_ (a':=?_) ?_ ?_
         rotate_left
         ·show Act.put _ (some 47) _=_
          simp only [Act.put,List.setIfInBounds_toArray,List.set_cons_zero,List.set_cons_succ,i64_w,i32_w]
          rfl
         exact norm_ (by simp only [putAll,Act.put,List.setIfInBounds_toArray,List.set_cons_zero,List.set_cons_succ]) (hCont (v419) _ ⟨hHeld,(by (with_reducible repeat (first|apply rA_|apply rN_|apply rW_));exact Kd.R_mono HO376.out (fun _ hk=>⟨hk.1.1,⟨hk.1.2,hk.2⟩⟩)),(by (with_reducible repeat (first|apply rA_|apply rN_|apply rW_));exact Kd.R_mono HO379.out (fun _ hk=>⟨hk.1.1,⟨hk.1.2,hk.2⟩⟩)),(by (with_reducible repeat (first|apply rA_|apply rN_|apply rW_));exact Kd.R_mono HO382.out (fun _ hk=>⟨hk.1.1,⟨hk.1.2,hk.2⟩⟩)),(by (with_reducible repeat (first|apply rA_|apply rN_|apply rW_));exact Kd.R_mono HO420.out (fun _ hk=>⟨hk.1.1.2,⟨hk.1.2,hk.2⟩⟩)),(by (with_reducible repeat (first|refine bN_ ?_ _|refine bW_ ?_|refine bA_ ?_ _));exact BK370.out),(by (with_reducible repeat (first|refine bN_ ?_ _|refine bW_ ?_|refine bA_ ?_ _));exact BK385.out),(by repeat (first|(with_reducible first|exact HI0.out|apply yA_|apply yN_|apply yW_|apply y1_|apply y2_|refine yF_ ?_ NB0_370.out _|refine yF_ ?_ NB0_385.out _)|exact HI0.out)),(by repeat (first|(with_reducible first|exact HK.out|apply KeepBut.set_|apply kN_|apply keep_drew|apply kA_|refine keep_far ?_ GW370.out _|refine keep_far ?_ GW385.out _)|exact HK.out)),(by repeat (first|(with_reducible first|exact HB.out|apply lA_|apply lN_|apply below_drew1|refine bS_ ?_ (IsS146.ge HI0.out)|refine bS_ ?_ GE370.out|refine bS_ ?_ GE385.out)|exact HB.out))⟩)
        ·skip
         refine Kd.R_lit_step (Kd.int .i64) _ 3 ?hg (N:=47) ?hd (xs:=([(-1),4,5]:List Int)) (inner:=[.int .i64 (-1),.int .i64 4,.int .i64 5]) (ok:=fun _=>True) (okp:=fun _=>True) ?hr ?hp (fun _ hk=>hk) trivial (Below.refl _ _) (Nat.le_refl _) (by simp) ?_;(case hd=>rfl);(case hg=>rfl);(case hr=>first|(go_simp;done)|(go_simp;rfl));(case hp=>exact (Reps.one (show Kd.M (Kd.int .i64) _ _ _ (-1) [.int .i64 (-1)] from rfl) (Reps.one (show Kd.M (Kd.int .i64) _ _ _ 4 [.int .i64 4] from rfl) (Reps.one (show Kd.M (Kd.int .i64) _ _ _ 5 [.int .i64 5] from rfl) (Reps.none _ _)))))
         intro v419 w98 ho99 hb hg_ hnew_
         clear hg_ hnew_
         (first|rw [← Ny418.out] at ho99|(simp only [Int.reduceToNat] at ho99;rw [← Ny418.out] at ho99))
         have n0_:=aM_ (Kd.R_elder' (by (with_reducible repeat (first|apply rA_|apply rN_|apply rW_));exact HO376.out) (Kd.R_base ho99) hb)
         have n1_:=aM_ (Kd.R_elder' (by (with_reducible repeat (first|apply rA_|apply rN_|apply rW_));exact HO379.out) (Kd.R_base ho99) hb)
         have n2_:=aM_ (Kd.R_elder' (by (with_reducible repeat (first|apply rA_|apply rN_|apply rW_));exact HO382.out) (Kd.R_base ho99) hb)
         have n3_:=aM_ (Kd.R_lower (Kd.R_new' (Kd.R_new' (Kd.R_new' ho99 (Kd.R_lt (by (with_reducible repeat (first|apply rA_|apply rN_|apply rW_));exact HO376.out))) (Kd.R_lt (by (with_reducible repeat (first|apply rA_|apply rN_|apply rW_));exact HO379.out))) (Kd.R_lt (by (with_reducible repeat (first|apply rA_|apply rN_|apply rW_));exact HO382.out))) (keep_size (w:=w) (g:=g) (row:=none) (by repeat (first|(with_reducible first|exact HK.out|apply KeepBut.set_|apply kN_|apply keep_drew|apply kA_|refine keep_far ?_ GW370.out _|refine keep_far ?_ GW385.out _)|exact HK.out))))
         have n4_:=aM_ (IsS146.below (by repeat (first|(with_reducible first|exact HI0.out|apply yA_|apply yN_|apply yW_|apply y1_|apply y2_|refine yF_ ?_ NB0_370.out _|refine yF_ ?_ NB0_385.out _)|exact HI0.out)) hb)
         have n5_:=aM_ (blk_below (g:=gb370) (o:=.cells #[.int .i64 0,.int .i64 0,.int .i64 0,.slice none 0 0,.slice none 0 0,.slice none 0 0] 34 (0,0)) (by (with_reducible repeat (first|refine bN_ ?_ _|refine bW_ ?_|refine bA_ ?_ _));exact BK370.out) hb)
         have n6_:=aM_ (blk_below (g:=gb385) (o:=.cells #[.int .i64 t371,.int .i64 t372,.int .i64 t373,.slice Ao92 t374.length co92,.slice Ao93 t377.length co93,.slice Ao94 t380.length co94] 34 (0,0)) (by (with_reducible repeat (first|refine bN_ ?_ _|refine bW_ ?_|refine bA_ ?_ _));exact BK385.out) hb)
         have n7_:=aM_ (KeepBut.trans (by repeat (first|(with_reducible first|exact HK.out|apply KeepBut.set_|apply kN_|apply keep_drew|apply kA_|refine keep_far ?_ GW370.out _|refine keep_far ?_ GW385.out _)|exact HK.out)) (KeepBut.of_below hb g none) (.inl rfl))
         have n8_:=aM_ (below_step (by repeat (first|(with_reducible first|exact HB.out|apply lA_|apply lN_|apply below_drew1|refine bS_ ?_ (IsS146.ge HI0.out)|refine bS_ ?_ GE370.out|refine bS_ ?_ GE385.out)|exact HB.out)) hb)
         clear HO376
         clear HO379
         clear HO382
         clear HI0
         clear BK370
         clear BK385
         clear HK
         clear HB
         have HO376:=n0_
         have HO379:=n1_
         have HO382:=n2_
         have HO420:=n3_
         have HI0:=n4_
         have BK370:=n5_
         have BK385:=n6_
         have HK:=n7_
         have HB:=n8_
         clear n0_ n1_ n2_ n3_ n4_ n5_ n6_ n7_ n8_
         clear hb ho99
         refine hK.out _ _ ⟨(bC_ BK385.out 0).trans rfl,(bC_ BK385.out 1).trans rfl,(bC_ BK385.out 2).trans rfl,(bC_ BK385.out 3).trans rfl,(bC_ BK385.out 4).trans rfl,(bC_ BK385.out 5).trans rfl⟩ (fun hHeld=>?_)
         clear hK K
         refine norm_ (a':=?_) ?_ ?_
         rotate_left
         ·show Act.put _ (some 47) _=_
          simp only [Act.put,List.setIfInBounds_toArray,List.set_cons_zero,List.set_cons_succ,i64_w,i32_w]
          rfl
         refine one_ (i:=4) (N:=some 45) #[true,true,true,true,true,true,true,false,false,false] rfl rfl (one_of HT_.out (by kernel_rfl)) (by decide) (fun K hK=>?_)
         refine goes_ Try.func135 (by kernel_rfl) rfl #[.pointer (some ⟨g,0,none⟩),.int .i64 t386] (by rfl) rfl rfl (by (try simp only [List.map_toArray,List.map_cons,List.map_nil]);first|done|rfl|(simp only [List.length_drop,List.length_take];rfl)) ?_
         with_reducible refine (spec_l1Cur_pick.calls g s0_0 t388 t389 t386 t415 t416 t417 w0 _ ?side1 ?side2 A81.out).mono ?_
         (case side1=>repeat (first|(with_reducible first|exact HI0.out|apply yA_|apply yN_|apply yW_|apply y1_|apply y2_|refine yF_ ?_ NB0_370.out _|refine yF_ ?_ NB0_385.out _)|exact HI0.out))
         (case side2=>repeat (first|(with_reducible first|exact HB.out|apply lA_|apply lN_|apply below_drew1|refine bS_ ?_ (IsS146.ge HI0.out)|refine bS_ ?_ GE370.out|refine bS_ ?_ GE385.out)|exact HB.out))
         rintro e w100 ⟨rfl,hi,hb,hk⟩
         refine ⟨_,rfl,?_⟩
         have n0_:=aM_ (KeepBut.blk hk (g':=gb370) (o:=.cells #[.int .i64 0,.int .i64 0,.int .i64 0,.slice none 0 0,.slice none 0 0,.slice none 0 0] 34 (0,0)) (by (with_reducible repeat (first|refine bN_ ?_ _|refine bW_ ?_|refine bA_ ?_ _));exact BK370.out) NB370_0.out (by simp))
         have n1_:=aM_ (Kd.R_mono (Kd.R_keep (IsS146.apart (show IsS146 w0 _ g s0_0 t388 t389 from by repeat (first|(with_reducible first|exact HI0.out|apply yA_|apply yN_|apply yW_|apply y1_|apply y2_|refine yF_ ?_ NB0_370.out _|refine yF_ ?_ NB0_385.out _)|exact HI0.out)) (by (with_reducible repeat (first|apply rA_|apply rN_|apply rW_));exact HO376.out) (by decide)) hk (fun _ h=>h.2)) (fun _ h=>h.1))
         have n2_:=aM_ (Kd.R_mono (Kd.R_keep (IsS146.apart (show IsS146 w0 _ g s0_0 t388 t389 from by repeat (first|(with_reducible first|exact HI0.out|apply yA_|apply yN_|apply yW_|apply y1_|apply y2_|refine yF_ ?_ NB0_370.out _|refine yF_ ?_ NB0_385.out _)|exact HI0.out)) (by (with_reducible repeat (first|apply rA_|apply rN_|apply rW_));exact HO379.out) (by decide)) hk (fun _ h=>h.2)) (fun _ h=>h.1))
         have n3_:=aM_ (Kd.R_mono (Kd.R_keep (IsS146.apart (show IsS146 w0 _ g s0_0 t388 t389 from by repeat (first|(with_reducible first|exact HI0.out|apply yA_|apply yN_|apply yW_|apply y1_|apply y2_|refine yF_ ?_ NB0_370.out _|refine yF_ ?_ NB0_385.out _)|exact HI0.out)) (by (with_reducible repeat (first|apply rA_|apply rN_|apply rW_));exact HO382.out) (by decide)) hk (fun _ h=>h.2)) (fun _ h=>h.1))
         have n4_:=aM_ (KeepBut.blk hk (g':=gb385) (o:=.cells #[.int .i64 t371,.int .i64 t372,.int .i64 t373,.slice Ao92 t374.length co92,.slice Ao93 t377.length co93,.slice Ao94 t380.length co94] 34 (0,0)) (by (with_reducible repeat (first|refine bN_ ?_ _|refine bW_ ?_|refine bA_ ?_ _));exact BK385.out) NB385_0.out (by simp))
         have n5_:=aM_ (Kd.R_mono (Kd.R_keep (IsS146.apart (show IsS146 w0 _ g s0_0 t388 t389 from by repeat (first|(with_reducible first|exact HI0.out|apply yA_|apply yN_|apply yW_|apply y1_|apply y2_|refine yF_ ?_ NB0_370.out _|refine yF_ ?_ NB0_385.out _)|exact HI0.out)) (by (with_reducible repeat (first|apply rA_|apply rN_|apply rW_));exact HO420.out) (by decide)) hk (fun _ h=>h.2)) (fun _ h=>h.1))
         have n6_:=aM_ (KeepBut.trans (by repeat (first|(with_reducible first|exact HK.out|apply KeepBut.set_|apply kN_|apply keep_drew|apply kA_|refine keep_far ?_ GW370.out _|refine keep_far ?_ GW385.out _)|exact HK.out)) hk (.inl rfl))
         have n7_:=aM_ (hb)
         have n8_:=aM_ (hi)
         clear BK370
         clear HO376
         clear HO379
         clear HO382
         clear BK385
         clear HO420
         clear HK
         clear HB
         clear HI0
         have BK370:=n0_
         have HO376:=n1_
         have HO379:=n2_
         have HO382:=n3_
         have BK385:=n4_
         have HO420:=n5_
         have HK:=n6_
         have HB:=n7_
         have HI0:=n8_
         clear n0_ n1_ n2_ n3_ n4_ n5_ n6_ n7_ n8_
         (try clear hb)
         (try clear hb2)
         (try clear hk)
         (try clear hi)
         refine hK.out _ _ ⟨(bC_ BK385.out 0).trans rfl,(bC_ BK385.out 1).trans rfl,(bC_ BK385.out 2).trans rfl,(bC_ BK385.out 3).trans rfl,(bC_ BK385.out 4).trans rfl,(bC_ BK385.out 5).trans rfl⟩ (fun hHeld=>?_)
         clear hK K
         refine norm_ (a':=?_) ?_ ?_
         rotate_left
         ·show Act.put _ (some 45) _=_
          simp only [Act.put,List.setIfInBounds_toArray,List.set_cons_zero,List.set_cons_succ,i64_w,i32_w]
          rfl
         exact norm_ (by simp only [putAll,Act.put,List.setIfInBounds_toArray,List.set_cons_zero,List.set_cons_succ]) (hCont (v419) _ ⟨hHeld,(by (with_reducible repeat (first|apply rA_|apply rN_|apply rW_));exact Kd.R_mono HO376.out (fun _ hk=>⟨hk.1.1,⟨hk.1.2,hk.2⟩⟩)),(by (with_reducible repeat (first|apply rA_|apply rN_|apply rW_));exact Kd.R_mono HO379.out (fun _ hk=>⟨hk.1.1,⟨hk.1.2,hk.2⟩⟩)),(by (with_reducible repeat (first|apply rA_|apply rN_|apply rW_));exact Kd.R_mono HO382.out (fun _ hk=>⟨hk.1.1,⟨hk.1.2,hk.2⟩⟩)),(by (with_reducible repeat (first|apply rA_|apply rN_|apply rW_));exact Kd.R_mono HO420.out (fun _ hk=>⟨hk.1.1.2,⟨hk.1.2,hk.2⟩⟩)),(by (with_reducible repeat (first|refine bN_ ?_ _|refine bW_ ?_|refine bA_ ?_ _));exact BK370.out),(by (with_reducible repeat (first|refine bN_ ?_ _|refine bW_ ?_|refine bA_ ?_ _));exact BK385.out),(by repeat (first|(with_reducible first|exact HI0.out|apply yA_|apply yN_|apply yW_|apply y1_|apply y2_|refine yF_ ?_ NB0_370.out _|refine yF_ ?_ NB0_385.out _)|exact HI0.out)),(by repeat (first|(with_reducible first|exact HK.out|apply KeepBut.set_|apply kN_|apply keep_drew|apply kA_|refine keep_far ?_ GW370.out _|refine keep_far ?_ GW385.out _)|exact HK.out)),(by repeat (first|(with_reducible first|exact HB.out|apply lA_|apply lN_|apply below_drew1|refine bS_ ?_ (IsS146.ge HI0.out)|refine bS_ ?_ GE370.out|refine bS_ ?_ GE385.out)|exact HB.out))⟩)
       rintro v419 w101 ⟨hS_,h0_,h1_,h2_,h3_,h4_,h5_,h6_,h7_,h8_⟩
       have n0_:Aside0 (Kd.R (Kd.int .i64) 3 w101 w.heap.size (fun k_=>some k_≠(.slice Ao93 t377.length co93:Value).ownBlock∧some k_≠(.slice Ao94 t380.length co94:Value).ownBlock∧some k_≠(v419:Value).ownBlock) (.slice Ao92 t374.length co92) t374):=⟨h0_⟩
       have n1_:Aside0 (Kd.R (Kd.int .i64) 3 w101 w.heap.size (fun k_=>some k_≠(.slice Ao92 t374.length co92:Value).ownBlock∧some k_≠(.slice Ao94 t380.length co94:Value).ownBlock∧some k_≠(v419:Value).ownBlock) (.slice Ao93 t377.length co93) t377):=⟨h1_⟩
       have n2_:Aside0 (Kd.R (Kd.int .i64) 3 w101 w.heap.size (fun k_=>some k_≠(.slice Ao92 t374.length co92:Value).ownBlock∧some k_≠(.slice Ao93 t377.length co93:Value).ownBlock∧some k_≠(v419:Value).ownBlock) (.slice Ao94 t380.length co94) t380):=⟨h2_⟩
       have n3_:Aside0 (Kd.R (Kd.int .i64) 3 w101 w.heap.size (fun k_=>some k_≠(.slice Ao92 t374.length co92:Value).ownBlock∧some k_≠(.slice Ao93 t377.length co93:Value).ownBlock∧some k_≠(.slice Ao94 t380.length co94:Value).ownBlock) v419 y418):=⟨h3_⟩
       have n4_:Aside0 (w101.heap[gb370]?=some (.cells #[.int .i64 0,.int .i64 0,.int .i64 0,.slice none 0 0,.slice none 0 0,.slice none 0 0] 34 (0,0))):=⟨h4_⟩
       have n5_:Aside0 (w101.heap[gb385]?=some (.cells #[.int .i64 t371,.int .i64 t372,.int .i64 t373,.slice Ao92 t374.length co92,.slice Ao93 t377.length co93,.slice Ao94 t380.length co94] 34 (0,0))):=⟨h5_⟩
       have n6_:Aside0 (IsS146 w0 w101 g s0_0 t416 t417):=⟨h6_⟩
       have n7_:Aside0 (KeepBut w w101 g none):=⟨h7_⟩
       have n8_:Aside0 (Below w0.heap.size w0 w101):=⟨h8_⟩
       clear HO376
       clear HO379
       clear HO382
       clear BK370
       clear BK385
       clear HI0
       clear HK
       clear HB
       clear h0_ h1_ h2_ h3_ h4_ h5_ h6_ h7_ h8_
       have HO376:=n0_
       have HO379:=n1_
       have HO382:=n2_
       have HO420:=n3_
       have BK370:=n4_
       have BK385:=n5_
       have HI0:=n6_
       have HK:=n7_
       have HB:=n8_
       clear n0_ n1_ n2_ n3_ n4_ n5_ n6_ n7_ n8_
       have hHeld:w101.cell? ⟨gb385,0,none⟩=some (.int .i64 t371)∧w101.cell? ⟨gb385,1,none⟩=some (.int .i64 t372)∧w101.cell? ⟨gb385,2,none⟩=some (.int .i64 t373)∧w101.cell? ⟨gb385,3,none⟩=some (.slice Ao92 t374.length co92)∧w101.cell? ⟨gb385,4,none⟩=some (.slice Ao93 t377.length co93)∧w101.cell? ⟨gb385,5,none⟩=some (.slice Ao94 t380.length co94):=hS_
       obtain ⟨Ao102,co102,eo102⟩:=Kd.R_slice HO420.out
       (first|subst eo102|(injection eo102 with f1_ f2_ f3_;have f4_:=f1_.symm;have f5_:=f3_.symm;clear f1_ f2_ f3_;subst f4_;subst f5_))
       refine norm_ (a':=?_) ?_ ?_
       rotate_left
       ·simp only [putAll,Act.put,List.setIfInBounds_toArray,List.set_cons_zero,List.set_cons_succ]
        rfl
       refine one_ (i:=7) (N:=some 48) #[true,true,true,true,true,true,true,true,false,false] rfl rfl (one_of HT_.out (by kernel_rfl)) (by decide) (fun K hK=>?_)
       refine goes_ Try.func128 (by kernel_rfl) rfl #[.pointer (some ⟨g,0,none⟩),.slice Ao102 y418.length co102] (by rfl) rfl rfl (by (try simp only [List.map_toArray,List.map_cons,List.map_nil]);first|done|rfl|(simp only [List.length_drop,List.length_take];rfl)) ?_
       with_reducible refine (spec_l1Cur_among.calls g s0_0 t416 t417 _ _ y418 t421 t422 t423 w0 _ ?side1 ?side2 ?side3 ?side4 ?side5 A82.out).mono ?_
       (case side1=>repeat (first|(with_reducible first|exact HI0.out|apply yA_|apply yN_|apply yW_|apply y1_|apply y2_|refine yF_ ?_ NB0_370.out _|refine yF_ ?_ NB0_385.out _)|exact HI0.out))
       (case side2=>repeat (first|(with_reducible first|exact HB.out|apply lA_|apply lN_|apply below_drew1|refine bS_ ?_ (IsS146.ge HI0.out)|refine bS_ ?_ GE370.out|refine bS_ ?_ GE385.out)|exact HB.out))
       (case side3=>repeat (first|exact (Kd.R_reads' HO420.out).2.2|(with_reducible refine Kd.C_alloc ?_ _)|(with_reducible refine Kd.C_drewN ?_ _)|(with_reducible refine Kd.C_drew ?_)))
       (case side4=>exact (Kd.R_reads' HO420.out).2.1)
       (case side5=>exact far_slice (IsS146.own_ne HI0.out HO420.out (by decide)))
       rintro e w103 ⟨rfl,hi,hb,hk⟩
       refine ⟨_,rfl,?_⟩
       have n0_:=aM_ (KeepBut.blk hk (g':=gb370) (o:=.cells #[.int .i64 0,.int .i64 0,.int .i64 0,.slice none 0 0,.slice none 0 0,.slice none 0 0] 34 (0,0)) (by (with_reducible repeat (first|refine bN_ ?_ _|refine bW_ ?_|refine bA_ ?_ _));exact BK370.out) NB370_0.out (by simp))
       have n1_:=aM_ (Kd.R_mono (Kd.R_keep (IsS146.apart (show IsS146 w0 _ g s0_0 t416 t417 from by repeat (first|(with_reducible first|exact HI0.out|apply yA_|apply yN_|apply yW_|apply y1_|apply y2_|refine yF_ ?_ NB0_370.out _|refine yF_ ?_ NB0_385.out _)|exact HI0.out)) (by (with_reducible repeat (first|apply rA_|apply rN_|apply rW_));exact HO376.out) (by decide)) hk (fun _ h=>h.2)) (fun _ h=>h.1))
       have n2_:=aM_ (Kd.R_mono (Kd.R_keep (IsS146.apart (show IsS146 w0 _ g s0_0 t416 t417 from by repeat (first|(with_reducible first|exact HI0.out|apply yA_|apply yN_|apply yW_|apply y1_|apply y2_|refine yF_ ?_ NB0_370.out _|refine yF_ ?_ NB0_385.out _)|exact HI0.out)) (by (with_reducible repeat (first|apply rA_|apply rN_|apply rW_));exact HO379.out) (by decide)) hk (fun _ h=>h.2)) (fun _ h=>h.1))
       have n3_:=aM_ (Kd.R_mono (Kd.R_keep (IsS146.apart (show IsS146 w0 _ g s0_0 t416 t417 from by repeat (first|(with_reducible first|exact HI0.out|apply yA_|apply yN_|apply yW_|apply y1_|apply y2_|refine yF_ ?_ NB0_370.out _|refine yF_ ?_ NB0_385.out _)|exact HI0.out)) (by (with_reducible repeat (first|apply rA_|apply rN_|apply rW_));exact HO382.out) (by decide)) hk (fun _ h=>h.2)) (fun _ h=>h.1))
       have n4_:=aM_ (KeepBut.blk hk (g':=gb385) (o:=.cells #[.int .i64 t371,.int .i64 t372,.int .i64 t373,.slice Ao92 t374.length co92,.slice Ao93 t377.length co93,.slice Ao94 t380.length co94] 34 (0,0)) (by (with_reducible repeat (first|refine bN_ ?_ _|refine bW_ ?_|refine bA_ ?_ _));exact BK385.out) NB385_0.out (by simp))
       have n5_:=aM_ (Kd.R_mono (Kd.R_keep (IsS146.apart (show IsS146 w0 _ g s0_0 t416 t417 from by repeat (first|(with_reducible first|exact HI0.out|apply yA_|apply yN_|apply yW_|apply y1_|apply y2_|refine yF_ ?_ NB0_370.out _|refine yF_ ?_ NB0_385.out _)|exact HI0.out)) (by (with_reducible repeat (first|apply rA_|apply rN_|apply rW_));exact HO420.out) (by decide)) hk (fun _ h=>h.2)) (fun _ h=>h.1))
       have n6_:=aM_ (KeepBut.trans (by repeat (first|(with_reducible first|exact HK.out|apply KeepBut.set_|apply kN_|apply keep_drew|apply kA_|refine keep_far ?_ GW370.out _|refine keep_far ?_ GW385.out _)|exact HK.out)) hk (.inl rfl))
       have n7_:=aM_ (hb)
       have n8_:=aM_ (hi)
       clear BK370
       clear HO376
       clear HO379
       clear HO382
       clear BK385
       clear HO420
       clear HK
       clear HB
       clear HI0
       have BK370:=n0_
       have HO376:=n1_
       have HO379:=n2_
       have HO382:=n3_
       have BK385:=n4_
       have HO420:=n5_
       have HK:=n6_
       have HB:=n7_
       have HI0:=n8_
       clear n0_ n1_ n2_ n3_ n4_ n5_ n6_ n7_ n8_
       (try clear hb)
       (try clear hb2)
       (try clear hk)
       (try clear hi)
       have p85:0≤(t415:Int):=of_decide_eq_true (by first|(with_reducible assumption)|assumption)
       have q85:(t415:Int) < ((t380.length:Int):Int):=of_decide_eq_true (by first|(with_reducible assumption)|assumption)
       obtain ⟨go85,co85,eo85,gb85,gl85,cl85,HG85⟩:=Kd.R_form HO382.out (by omega)
       (first|cases eo85|(injection eo85 with ea_ en_ ec_;(first|subst ea_|(injection ea_ with ea_;subst ea_));subst ec_;clear en_))
       have GB85:=aM_ gb85
       have GG85:=aM_ HG85
       clear gb85 gl85 HG85
       obtain ⟨hx85_0,hf85_0⟩:=Kd.R_celln 0 HO382.out (t415:Int) p85 q85
       replace p85:=eq_true p85
       replace q85:=eq_true q85
       have HN0_go85:=aM_ (show g≠go85 from by have h_:=IsS146.own_ne HI0.out HO382.out (by decide);intro e_;exact h_ (by rw [e_];rfl))
       have HP104:=Kd.R_putn HO382.out (t415:Int) t421
       rw [← Ny424.out] at HP104
       have HQ104:=aM_ HP104
       clear HP104
       refine hK.out _ _ ⟨(bC_ BK385.out 0).trans rfl,(bC_ BK385.out 1).trans rfl,(bC_ BK385.out 2).trans rfl,(bC_ BK385.out 3).trans rfl,(bC_ BK385.out 4).trans rfl,(bC_ BK385.out 5).trans rfl⟩ (fun hHeld=>?_)
       clear hK K
       refine norm_ (a':=?_) ?_ ?_
       rotate_left
       ·show Act.put _ (some 48) _=_
        simp only [Act.put,List.setIfInBounds_toArray,List.set_cons_zero,List.set_cons_succ,i64_w,i32_w]
        rfl
       refine pure_ (i:=8) (N:=some 49) (v:=?_) (a':=?_) #[true,true,true,true,true,true,true,true,true,false] rfl rfl (any_of HT_.out (by kernel_rfl)) (fun _ _ _ h=>h) (Or.inl ⟨by rfl,?_⟩) ?_ ?_
       rotate_left
       ·intro w'
        go_simp
        with_reducible rfl
       rotate_left
       ·simp only [Act.put,List.setIfInBounds_toArray,List.set_cons_zero,List.set_cons_succ,i64_w,i32_w]
        rfl
       refine last_ (i:=9) (N:=none) #[true,true,true,true,true,true,true,true,true,true] rfl rfl (one_of HT_.out (by kernel_rfl)) (by decide) (fun K hK=>?_)
       refine skip_ (w1:=?_) (by rfl) rfl ?_ ?_
       rotate_left
       ·go_simp
        rfl
       refine hK.out _ _ ?_
       clear hK K
       refine done_ (done_of HT_.out (by kernel_rfl)) ?_
       have n0_:Aside0 (Kd.R (Kd.int .i64) 3 (w103.setCell ⟨go85,(t415:Int).toNat,none⟩ (.int .i64 t421)) w.heap.size (fun k_=>some k_≠(.slice Ao93 t377.length co93:Value).ownBlock∧some k_≠(.slice (some ⟨go85,0,none⟩) t380.length co94:Value).ownBlock∧some k_≠(.slice Ao102 y418.length co102:Value).ownBlock) (.slice Ao92 t374.length co92) t374):=⟨by (with_reducible repeat (first|apply rA_|apply rN_|apply rW_));exact Kd.R_mono (rF_ (p:=⟨go85,(t415:Int).toNat,none⟩) (Kd.R_mono HO376.out (fun k_ hk=>(⟨hk,fun e_=>hk.2.1 (by rw [e_];rfl)⟩:_∧k_≠go85))) (fun _ hk=>hk.2) (.int .i64 t421)) (fun _ hk=>⟨hk.1.1,⟨hk.1.2.1,hk.1.2.2⟩⟩)⟩
       have n1_:Aside0 (Kd.R (Kd.int .i64) 3 (w103.setCell ⟨go85,(t415:Int).toNat,none⟩ (.int .i64 t421)) w.heap.size (fun k_=>some k_≠(.slice Ao92 t374.length co92:Value).ownBlock∧some k_≠(.slice (some ⟨go85,0,none⟩) t380.length co94:Value).ownBlock∧some k_≠(.slice Ao102 y418.length co102:Value).ownBlock) (.slice Ao93 t377.length co93) t377):=⟨by (with_reducible repeat (first|apply rA_|apply rN_|apply rW_));exact Kd.R_mono (rF_ (p:=⟨go85,(t415:Int).toNat,none⟩) (Kd.R_mono HO379.out (fun k_ hk=>(⟨hk,fun e_=>hk.2.1 (by rw [e_];rfl)⟩:_∧k_≠go85))) (fun _ hk=>hk.2) (.int .i64 t421)) (fun _ hk=>⟨hk.1.1,⟨hk.1.2.1,hk.1.2.2⟩⟩)⟩
       have n2_:Aside0 (Kd.R (Kd.int .i64) 3 (w103.setCell ⟨go85,(t415:Int).toNat,none⟩ (.int .i64 t421)) w.heap.size (fun k_=>some k_≠(.slice Ao92 t374.length co92:Value).ownBlock∧some k_≠(.slice Ao93 t377.length co93:Value).ownBlock∧some k_≠(.slice Ao102 y418.length co102:Value).ownBlock) (.slice (some ⟨go85,0,none⟩) t380.length co94) y424):=⟨by (with_reducible repeat (first|apply rA_|apply rN_|apply rW_));exact HQ104.out⟩
       have n3_:Aside0 (Kd.R (Kd.int .i64) 3 (w103.setCell ⟨go85,(t415:Int).toNat,none⟩ (.int .i64 t421)) w.heap.size (fun k_=>some k_≠(.slice Ao92 t374.length co92:Value).ownBlock∧some k_≠(.slice Ao93 t377.length co93:Value).ownBlock∧some k_≠(.slice (some ⟨go85,0,none⟩) t380.length co94:Value).ownBlock) (.slice Ao102 y418.length co102) y418):=⟨by (with_reducible repeat (first|apply rA_|apply rN_|apply rW_));exact Kd.R_mono (rF_ (p:=⟨go85,(t415:Int).toNat,none⟩) (Kd.R_mono HO420.out (fun k_ hk=>(⟨hk,fun e_=>hk.2.2 (by rw [e_];rfl)⟩:_∧k_≠go85))) (fun _ hk=>hk.2) (.int .i64 t421)) (fun _ hk=>⟨hk.1.1,⟨hk.1.2.1,hk.1.2.2⟩⟩)⟩
       have n4_:Aside0 ((w103.setCell ⟨go85,(t415:Int).toNat,none⟩ (.int .i64 t421)).heap[gb370]?=some (.cells #[.int .i64 0,.int .i64 0,.int .i64 0,.slice none 0 0,.slice none 0 0,.slice none 0 0] 34 (0,0))):=⟨by (with_reducible repeat (first|refine bN_ ?_ _|refine bW_ ?_|refine bA_ ?_ _));refine blk_far ?_ (by have h_:=Kd.R_ne HO382.out BK370.out (by decide);intro e_;exact h_ (by rw [e_];rfl)) _;(with_reducible repeat (first|refine bN_ ?_ _|refine bW_ ?_|refine bA_ ?_ _));exact BK370.out⟩
       have n5_:Aside0 ((w103.setCell ⟨go85,(t415:Int).toNat,none⟩ (.int .i64 t421)).heap[gb385]?=some (.cells #[.int .i64 t371,.int .i64 t372,.int .i64 t373,.slice Ao92 t374.length co92,.slice Ao93 t377.length co93,.slice (some ⟨go85,0,none⟩) t380.length co94] 34 (0,0))):=⟨by (with_reducible repeat (first|refine bN_ ?_ _|refine bW_ ?_|refine bA_ ?_ _));refine blk_far ?_ (by have h_:=Kd.R_ne HO382.out BK385.out (by decide);intro e_;exact h_ (by rw [e_];rfl)) _;(with_reducible repeat (first|refine bN_ ?_ _|refine bW_ ?_|refine bA_ ?_ _));exact BK385.out⟩
       have n6_:Aside0 (IsS146 w0 (w103.setCell ⟨go85,(t415:Int).toNat,none⟩ (.int .i64 t421)) g s0_0 t422 t423):=⟨by repeat (first|(with_reducible first|exact HI0.out|apply yA_|apply yN_|apply yW_|apply y1_|apply y2_|refine yF_ ?_ HN0_go85.out _|refine yF_ ?_ NB0_370.out _|refine yF_ ?_ NB0_385.out _)|exact HI0.out)⟩
       have n7_:Aside0 (KeepBut w (w103.setCell ⟨go85,(t415:Int).toNat,none⟩ (.int .i64 t421)) g none):=⟨by repeat (first|(with_reducible first|exact HK.out|apply KeepBut.set_|apply kN_|apply keep_drew|apply kA_|refine keep_far ?_ GB85.out _|refine keep_far ?_ GW370.out _|refine keep_far ?_ GW385.out _)|exact HK.out)⟩
       have n8_:Aside0 (Below w0.heap.size w0 (w103.setCell ⟨go85,(t415:Int).toNat,none⟩ (.int .i64 t421))):=⟨by repeat (first|(with_reducible first|exact HB.out|apply lA_|apply lN_|apply below_drew1|refine bS_ ?_ (Nat.le_trans HL.out GB85.out)|refine bS_ ?_ (IsS146.ge HI0.out)|refine bS_ ?_ GE370.out|refine bS_ ?_ GE385.out)|exact HB.out)⟩
       (try clear HO376)
       (try clear HO379)
       (try clear HO382)
       (try clear HO420)
       (try clear BK370)
       (try clear BK385)
       (try clear HI0)
       (try clear HK)
       (try clear HB)
       generalize (w103.setCell ⟨go85,(t415:Int).toNat,none⟩ (.int .i64 t421))=w105 at n0_ n1_ n2_ n3_ n4_ n5_ n6_ n7_ n8_ ⊢
       have HO376:=n0_
       have HO379:=n1_
       have HO382:=n2_
       have HO420:=n3_
       have BK370:=n4_
       have BK385:=n5_
       have HI0:=n6_
       have HK:=n7_
       have HB:=n8_
       clear n0_ n1_ n2_ n3_ n4_ n5_ n6_ n7_ n8_
       have hcz106_0:w105.cell? ⟨gb385,0,none⟩=some (.int .i64 t371):=(bC_ BK385.out 0).trans rfl
       have hcz106_1:w105.cell? ⟨gb385,1,none⟩=some (.int .i64 t372):=(bC_ BK385.out 1).trans rfl
       have hcz106_2:w105.cell? ⟨gb385,2,none⟩=some (.int .i64 t373):=(bC_ BK385.out 2).trans rfl
       have hcz106_3:w105.cell? ⟨gb385,3,none⟩=some (.slice Ao92 t374.length co92):=(bC_ BK385.out 3).trans rfl
       have hcz106_4:w105.cell? ⟨gb385,4,none⟩=some (.slice Ao93 t377.length co93):=(bC_ BK385.out 4).trans rfl
       have hcz106_5:w105.cell? ⟨gb385,5,none⟩=some (.slice (some ⟨go85,0,none⟩) t380.length co94):=(bC_ BK385.out 5).trans rfl
       have hfz106_0:=blk_frozen BK385.out 0
       have hfz106_1:=blk_frozen BK385.out 1
       have hfz106_2:=blk_frozen BK385.out 2
       have hfz106_3:=blk_frozen BK385.out 3
       have hfz106_4:=blk_frozen BK385.out 4
       have hfz106_5:=blk_frozen BK385.out 5
       have hnb107:=NB370_0.out
       have hnc107:=NB0_370.out
       have hcz108_0:w105.cell? ⟨gb370,0,none⟩=some (.int .i64 0):=(bC_ BK370.out 0).trans rfl
       have hcz108_1:w105.cell? ⟨gb370,1,none⟩=some (.int .i64 0):=(bC_ BK370.out 1).trans rfl
       have hcz108_2:w105.cell? ⟨gb370,2,none⟩=some (.int .i64 0):=(bC_ BK370.out 2).trans rfl
       have hcz108_3:w105.cell? ⟨gb370,3,none⟩=some (.slice none 0 0):=(bC_ BK370.out 3).trans rfl
       have hcz108_4:w105.cell? ⟨gb370,4,none⟩=some (.slice none 0 0):=(bC_ BK370.out 4).trans rfl
       have hcz108_5:w105.cell? ⟨gb370,5,none⟩=some (.slice none 0 0):=(bC_ BK370.out 5).trans rfl
       have hfz108_0:=blk_frozen BK370.out 0
       have hfz108_1:=blk_frozen BK370.out 1
       have hfz108_2:=blk_frozen BK370.out 2
       have hfz108_3:=blk_frozen BK370.out 3
       have hfz108_4:=blk_frozen BK370.out 4
       have hfz108_5:=blk_frozen BK370.out 5
       try go_wp2
       refine bodyPost_ret (results_cell_row rfl _ _ gb370 34 #[.int .i64 t371,.int .i64 t372,.int .i64 t373,.slice Ao92 t374.length co92,.slice Ao93 t377.length co93,.slice (some ⟨go85,0,none⟩) t380.length co94] (0,0) _ rfl (by (with_reducible repeat (first|refine bN_ ?_ _|refine bW_ ?_|refine bA_ ?_ _));refine blk_put (cs:=#[.int .i64 t371,.int .i64 t372,.int .i64 t373,.slice Ao92 t374.length co92,.slice Ao93 t377.length co93,.slice none 0 0]) ?_ 5 _ rfl;(with_reducible repeat (first|refine bN_ ?_ _|refine bW_ ?_|refine bA_ ?_ _));refine blk_put (cs:=#[.int .i64 t371,.int .i64 t372,.int .i64 t373,.slice Ao92 t374.length co92,.slice none 0 0,.slice none 0 0]) ?_ 4 _ rfl;(with_reducible repeat (first|refine bN_ ?_ _|refine bW_ ?_|refine bA_ ?_ _));refine blk_put (cs:=#[.int .i64 t371,.int .i64 t372,.int .i64 t373,.slice none 0 0,.slice none 0 0,.slice none 0 0]) ?_ 3 _ rfl;(with_reducible repeat (first|refine bN_ ?_ _|refine bW_ ?_|refine bA_ ?_ _));refine blk_put (cs:=#[.int .i64 t371,.int .i64 t372,.int .i64 0,.slice none 0 0,.slice none 0 0,.slice none 0 0]) ?_ 2 _ rfl;(with_reducible repeat (first|refine bN_ ?_ _|refine bW_ ?_|refine bA_ ?_ _));refine blk_put (cs:=#[.int .i64 t371,.int .i64 0,.int .i64 0,.slice none 0 0,.slice none 0 0,.slice none 0 0]) ?_ 1 _ rfl;(with_reducible repeat (first|refine bN_ ?_ _|refine bW_ ?_|refine bA_ ?_ _));refine blk_put (cs:=#[.int .i64 0,.int .i64 0,.int .i64 0,.slice none 0 0,.slice none 0 0,.slice none 0 0]) ?_ 0 _ rfl;(with_reducible repeat (first|refine bN_ ?_ _|refine bW_ ?_|refine bA_ ?_ _));exact BK370.out) Try.underlying34 rfl (by kernel_rfl)) rfl ?_
       exact ⟨_,_,_,by first|rfl|(simp [errW_none,errW_some] <;> rfl)|(simp [*,errW_none,errW_some] <;> rfl),by (with_reducible repeat (first|apply rA_|apply rN_|apply rW_));exact Kd.R_mono (rF_ (p:=⟨gb370,5,none⟩) (rF_ (p:=⟨gb370,4,none⟩) (rF_ (p:=⟨gb370,3,none⟩) (rF_ (p:=⟨gb370,2,none⟩) (rF_ (p:=⟨gb370,1,none⟩) (rF_ (p:=⟨gb370,0,none⟩) (Kd.R_types HO376.out BK370.out (by decide)) (fun _ hk=>hk.2) (.int .i64 t371)) (fun _ hk=>hk.2) (.int .i64 t372)) (fun _ hk=>hk.2) (.int .i64 t373)) (fun _ hk=>hk.2) (.slice Ao92 t374.length co92)) (fun _ hk=>hk.2) (.slice Ao93 t377.length co93)) (fun _ hk=>hk.2) (.slice (some ⟨go85,0,none⟩) t380.length co94)) (fun _ hk=>⟨hk.1.1,hk.1.2.1⟩),by (with_reducible repeat (first|apply rA_|apply rN_|apply rW_));exact Kd.R_mono (rF_ (p:=⟨gb370,5,none⟩) (rF_ (p:=⟨gb370,4,none⟩) (rF_ (p:=⟨gb370,3,none⟩) (rF_ (p:=⟨gb370,2,none⟩) (rF_ (p:=⟨gb370,1,none⟩) (rF_ (p:=⟨gb370,0,none⟩) (Kd.R_types HO379.out BK370.out (by decide)) (fun _ hk=>hk.2) (.int .i64 t371)) (fun _ hk=>hk.2) (.int .i64 t372)) (fun _ hk=>hk.2) (.int .i64 t373)) (fun _ hk=>hk.2) (.slice Ao92 t374.length co92)) (fun _ hk=>hk.2) (.slice Ao93 t377.length co93)) (fun _ hk=>hk.2) (.slice (some ⟨go85,0,none⟩) t380.length co94)) (fun _ hk=>⟨hk.1.1,hk.1.2.1⟩),by (with_reducible repeat (first|apply rA_|apply rN_|apply rW_));exact Kd.R_mono (rF_ (p:=⟨gb370,5,none⟩) (rF_ (p:=⟨gb370,4,none⟩) (rF_ (p:=⟨gb370,3,none⟩) (rF_ (p:=⟨gb370,2,none⟩) (rF_ (p:=⟨gb370,1,none⟩) (rF_ (p:=⟨gb370,0,none⟩) (Kd.R_types HO382.out BK370.out (by decide)) (fun _ hk=>hk.2) (.int .i64 t371)) (fun _ hk=>hk.2) (.int .i64 t372)) (fun _ hk=>hk.2) (.int .i64 t373)) (fun _ hk=>hk.2) (.slice Ao92 t374.length co92)) (fun _ hk=>hk.2) (.slice Ao93 t377.length co93)) (fun _ hk=>hk.2) (.slice (some ⟨go85,0,none⟩) t380.length co94)) (fun _ hk=>⟨hk.1.1,hk.1.2.1⟩),by repeat (first|(with_reducible first|exact HI0.out|apply yA_|apply yN_|apply yW_|apply y1_|apply y2_|refine yF_ ?_ NB0_370.out _|refine yF_ ?_ NB0_385.out _)|exact HI0.out),by repeat (first|(with_reducible first|exact HB.out|apply lA_|apply lN_|apply below_drew1|refine bS_ ?_ (IsS146.ge HI0.out)|refine bS_ ?_ GE370.out|refine bS_ ?_ GE385.out)|exact HB.out),by repeat (first|(with_reducible first|exact HK.out|apply KeepBut.set_|apply kN_|apply keep_drew|apply kA_|refine keep_far ?_ GW370.out _|refine keep_far ?_ GW385.out _)|exact HK.out)⟩
      ·rw [if_neg c84] at H
       exact absurd H (by simp)
     ·rw [if_neg c83] at H
      exact absurd H (by simp)
    ·rw [if_neg c80] at H
     have c80b0:(t387 == 3)=false:=beq_eq_false_iff_ne.mpr c80
     have c80b1:(t387 != 3)=true:=bne_iff_ne.mpr c80
     by_cases c109:t387=4
     ·rw [if_pos c109] at H
      have c109b0:(t387 == 4)=true:=beq_iff_eq.mpr c109
      have c109b1:(t387 != 4)=false:=bne_eq_false_iff_eq.mpr c109
      clear c109
      by_cases c110:t380.length < 17592186044416
      ·rw [if_pos c110] at H
       have LMc110:=aM_ c110
       clear c110
       obtain ⟨y425,hy425⟩:∃ y_:List Int,y_=(t380 ++ [0]):=⟨_,rfl⟩
       replace H:(some (t371,t372,t373,t374,t377,y425,t388,t389))=some (r1,r2,r3,r4,r5,r6,r7,r8):=by first|(rw [hy425];with_reducible exact H)|(have H2_:=(Option.bind_some _ _).symm.trans H;rw [hy425];with_reducible exact H2_)|(have H2_:=(Option.bind_some _ _).symm.trans H;with_reducible exact H2_)|with_reducible exact H|(rw [hy425];exact H)|exact H
       have Ny425:=aM_ hy425
       clear hy425
       simp only [Option.some.injEq,Prod.mk.injEq] at H
       obtain ⟨rfl,rfl,rfl,rfl,rfl,rfl,rfl,rfl⟩:=H
       go_enter Try.func134,Try.ntmps134
       go_wp2_with (first|((with_reducible refine gate_dst (N:=2) rfl ?_);refine box_event ?hg (N:=2) ?hd (cs:=#[.int .i64 0,.int .i64 0,.int .i64 0,.slice none 0 0,.slice none 0 0,.slice none 0 0]) (t:=34) ?hr ?_;(case hd=>rfl);(case hg=>rfl);(case hr=>first|(go_simp;done)|(go_simp;rfl));intro gb370 hg w111 hbox hb;have n0_:=aM_ (IsS146.below (by repeat (first|(with_reducible first|exact HI0.out|apply yA_|apply yN_|apply yW_|apply y1_|apply y2_)|exact HI0.out)) hb);have n1_:=aM_ (KeepBut.trans (by repeat (first|(with_reducible first|exact HK.out|apply KeepBut.set_|apply kN_|apply keep_drew|apply kA_)|exact HK.out)) (KeepBut.of_below hb g none) (.inl rfl));have n2_:=aM_ (below_step (by repeat (first|(with_reducible first|exact HB.out|apply lA_|apply lN_|apply below_drew1|refine bS_ ?_ (IsS146.ge HI0.out))|exact HB.out)) hb);have n3_:=aM_ (hbox);have n4_:=aM_ ((by rw [hg];exact (keep_size (w:=w) (g:=g) (row:=none) (by repeat (first|(with_reducible first|exact HK.out|apply KeepBut.set_|apply kN_|apply keep_drew|apply kA_)|exact HK.out))):w.heap.size≤gb370));have n5_:=aM_ ((Nat.le_trans HW0.out (by rw [hg];exact (keep_size (w:=w) (g:=g) (row:=none) (by repeat (first|(with_reducible first|exact HK.out|apply KeepBut.set_|apply kN_|apply keep_drew|apply kA_)|exact HK.out))):w.heap.size≤gb370):w0.heap.size≤gb370));have n6_:=aM_ ((by rw [hg];exact Nat.ne_of_lt (IsS146.lt (show IsS146 w0 _ g s0_0 s0_1 s0_2 from by repeat (first|(with_reducible first|exact HI0.out|apply yA_|apply yN_|apply yW_|apply y1_|apply y2_)|exact HI0.out))):g≠gb370));have n7_:=aM_ ((by rw [hg];exact Nat.ne_of_gt (IsS146.lt (show IsS146 w0 _ g s0_0 s0_1 s0_2 from by repeat (first|(with_reducible first|exact HI0.out|apply yA_|apply yN_|apply yW_|apply y1_|apply y2_)|exact HI0.out))):gb370≠g));clear HI0;clear HK;clear HB;have HI0:=n0_;have HK:=n1_;have HB:=n2_;have BK370:=n3_;have GW370:=n4_;have GE370:=n5_;have NB0_370:=n6_;have NB370_0:=n7_;clear n0_ n1_ n2_ n3_ n4_ n5_ n6_ n7_;clear hb hbox hg)|((with_reducible refine gate_callee (f:=183) rfl ?_);refine goesL_ (some 6) rfl rfl Try.func183 (by kernel_rfl) rfl #[.pointer (some ⟨g,0,none⟩)] rfl (by (try simp only [List.map_toArray,List.map_cons,List.map_nil]);first|done|rfl|(simp only [List.length_drop,List.length_take];rfl)) ?_;(with_reducible refine (spec_l1Cur_model.calls k g s0_0 s0_1 s0_2 t371 t372 t373 t374 t377 t380 t383 t384 w0 _ ?side1 ?side2 A2.out).mono ?_);(case side1=>repeat (first|(with_reducible first|exact HI0.out|apply yA_|apply yN_|apply yW_|apply y1_|apply y2_|refine yF_ ?_ NB0_370.out _)|exact HI0.out));(case side2=>repeat (first|(with_reducible first|exact HB.out|apply lA_|apply lN_|apply below_drew1|refine bS_ ?_ (IsS146.ge HI0.out)|refine bS_ ?_ GE370.out)|exact HB.out));rintro e w112 ⟨v375,v378,v381,rfl,ho0,ho1,ho2,hi,hb,hk⟩;refine ⟨_,rfl,?_⟩;have n0_:=aM_ (KeepBut.blk hk (g':=gb370) (o:=.cells #[.int .i64 0,.int .i64 0,.int .i64 0,.slice none 0 0,.slice none 0 0,.slice none 0 0] 34 (0,0)) (by (with_reducible repeat (first|refine bN_ ?_ _|refine bW_ ?_|refine bA_ ?_ _));exact BK370.out) NB370_0.out (by simp));have n1_:=aM_ (Kd.R_lower ho0 (keep_size (w:=w) (g:=g) (row:=none) (by repeat (first|(with_reducible first|exact HK.out|apply KeepBut.set_|apply kN_|apply keep_drew|apply kA_|refine keep_far ?_ GW370.out _)|exact HK.out))));have n2_:=aM_ (Kd.R_lower ho1 (keep_size (w:=w) (g:=g) (row:=none) (by repeat (first|(with_reducible first|exact HK.out|apply KeepBut.set_|apply kN_|apply keep_drew|apply kA_|refine keep_far ?_ GW370.out _)|exact HK.out))));have n3_:=aM_ (Kd.R_lower ho2 (keep_size (w:=w) (g:=g) (row:=none) (by repeat (first|(with_reducible first|exact HK.out|apply KeepBut.set_|apply kN_|apply keep_drew|apply kA_|refine keep_far ?_ GW370.out _)|exact HK.out))));have n4_:=aM_ (KeepBut.trans (by repeat (first|(with_reducible first|exact HK.out|apply KeepBut.set_|apply kN_|apply keep_drew|apply kA_|refine keep_far ?_ GW370.out _)|exact HK.out)) hk (.inl rfl));have n5_:=aM_ (hb);have n6_:=aM_ (hi);clear BK370;clear HK;clear HB;clear HI0;have BK370:=n0_;have HO376:=n1_;have HO379:=n2_;have HO382:=n3_;have HK:=n4_;have HB:=n5_;have HI0:=n6_;clear n0_ n1_ n2_ n3_ n4_ n5_ n6_;(try clear hb);(try clear hb2);(try clear hk);(try clear hi);(try clear ho0);(try clear ho1);(try clear ho2))|((with_reducible refine gate_dst (N:=3) rfl ?_);refine box_event ?hg (N:=3) ?hd (cs:=#[.int .i64 0,.int .i64 0,.int .i64 0,.slice none 0 0,.slice none 0 0,.slice none 0 0]) (t:=34) ?hr ?_;(case hd=>rfl);(case hg=>rfl);(case hr=>first|(go_simp;done)|(go_simp;rfl));intro gb385 hg w113 hbox hb;have n0_:=aM_ (Kd.R_below (by (with_reducible repeat (first|apply rA_|apply rN_|apply rW_));exact HO376.out) hb);have n1_:=aM_ (Kd.R_below (by (with_reducible repeat (first|apply rA_|apply rN_|apply rW_));exact HO379.out) hb);have n2_:=aM_ (Kd.R_below (by (with_reducible repeat (first|apply rA_|apply rN_|apply rW_));exact HO382.out) hb);have n3_:=aM_ (IsS146.below (by repeat (first|(with_reducible first|exact HI0.out|apply yA_|apply yN_|apply yW_|apply y1_|apply y2_|refine yF_ ?_ NB0_370.out _)|exact HI0.out)) hb);have n4_:=aM_ (blk_below (g:=gb370) (o:=.cells #[.int .i64 0,.int .i64 0,.int .i64 0,.slice none 0 0,.slice none 0 0,.slice none 0 0] 34 (0,0)) (by (with_reducible repeat (first|refine bN_ ?_ _|refine bW_ ?_|refine bA_ ?_ _));exact BK370.out) hb);have n5_:=aM_ (KeepBut.trans (by repeat (first|(with_reducible first|exact HK.out|apply KeepBut.set_|apply kN_|apply keep_drew|apply kA_|refine keep_far ?_ GW370.out _)|exact HK.out)) (KeepBut.of_below hb g none) (.inl rfl));have n6_:=aM_ (below_step (by repeat (first|(with_reducible first|exact HB.out|apply lA_|apply lN_|apply below_drew1|refine bS_ ?_ (IsS146.ge HI0.out)|refine bS_ ?_ GE370.out)|exact HB.out)) hb);have n7_:=aM_ (hbox);have n8_:=aM_ ((by rw [hg];exact (keep_size (w:=w) (g:=g) (row:=none) (by repeat (first|(with_reducible first|exact HK.out|apply KeepBut.set_|apply kN_|apply keep_drew|apply kA_|refine keep_far ?_ GW370.out _)|exact HK.out))):w.heap.size≤gb385));have n9_:=aM_ ((Nat.le_trans HW0.out (by rw [hg];exact (keep_size (w:=w) (g:=g) (row:=none) (by repeat (first|(with_reducible first|exact HK.out|apply KeepBut.set_|apply kN_|apply keep_drew|apply kA_|refine keep_far ?_ GW370.out _)|exact HK.out))):w.heap.size≤gb385):w0.heap.size≤gb385));have n10_:=aM_ ((by rw [hg];exact Nat.ne_of_lt (blk_lt (g:=gb370) (o:=.cells #[.int .i64 0,.int .i64 0,.int .i64 0,.slice none 0 0,.slice none 0 0,.slice none 0 0] 34 (0,0)) (by (with_reducible repeat (first|refine bN_ ?_ _|refine bW_ ?_|refine bA_ ?_ _));exact BK370.out)):gb370≠gb385));have n11_:=aM_ ((by rw [hg];exact Nat.ne_of_gt (blk_lt (g:=gb370) (o:=.cells #[.int .i64 0,.int .i64 0,.int .i64 0,.slice none 0 0,.slice none 0 0,.slice none 0 0] 34 (0,0)) (by (with_reducible repeat (first|refine bN_ ?_ _|refine bW_ ?_|refine bA_ ?_ _));exact BK370.out)):gb385≠gb370));have n12_:=aM_ ((by rw [hg];exact Nat.ne_of_lt (IsS146.lt (show IsS146 w0 _ g s0_0 t383 t384 from by repeat (first|(with_reducible first|exact HI0.out|apply yA_|apply yN_|apply yW_|apply y1_|apply y2_|refine yF_ ?_ NB0_370.out _)|exact HI0.out))):g≠gb385));have n13_:=aM_ ((by rw [hg];exact Nat.ne_of_gt (IsS146.lt (show IsS146 w0 _ g s0_0 t383 t384 from by repeat (first|(with_reducible first|exact HI0.out|apply yA_|apply yN_|apply yW_|apply y1_|apply y2_|refine yF_ ?_ NB0_370.out _)|exact HI0.out))):gb385≠g));clear HO376;clear HO379;clear HO382;clear HI0;clear BK370;clear HK;clear HB;have HO376:=n0_;have HO379:=n1_;have HO382:=n2_;have HI0:=n3_;have BK370:=n4_;have HK:=n5_;have HB:=n6_;have BK385:=n7_;have GW385:=n8_;have GE385:=n9_;have NB370_385:=n10_;have NB385_370:=n11_;have NB0_385:=n12_;have NB385_0:=n13_;clear n0_ n1_ n2_ n3_ n4_ n5_ n6_ n7_ n8_ n9_ n10_ n11_ n12_ n13_;clear hb hbox hg;have hnb114:=NB385_370.out;have hnc114:=NB370_385.out;have hnb115:=NB385_0.out;have hnc115:=NB0_385.out;have hcz116_0:w113.cell? ⟨gb385,0,none⟩=some (.int .i64 0):=(bC_ BK385.out 0).trans rfl;have hcz116_1:w113.cell? ⟨gb385,1,none⟩=some (.int .i64 0):=(bC_ BK385.out 1).trans rfl;have hcz116_2:w113.cell? ⟨gb385,2,none⟩=some (.int .i64 0):=(bC_ BK385.out 2).trans rfl;have hcz116_3:w113.cell? ⟨gb385,3,none⟩=some (.slice none 0 0):=(bC_ BK385.out 3).trans rfl;have hcz116_4:w113.cell? ⟨gb385,4,none⟩=some (.slice none 0 0):=(bC_ BK385.out 4).trans rfl;have hcz116_5:w113.cell? ⟨gb385,5,none⟩=some (.slice none 0 0):=(bC_ BK385.out 5).trans rfl;have hfz116_0:=blk_frozen BK385.out 0;have hfz116_1:=blk_frozen BK385.out 1;have hfz116_2:=blk_frozen BK385.out 2;have hfz116_3:=blk_frozen BK385.out 3;have hfz116_4:=blk_frozen BK385.out 4;have hfz116_5:=blk_frozen BK385.out 5;obtain ⟨Ao117,co117,eo117⟩:=Kd.R_slice HO376.out;subst eo117;obtain ⟨Ao118,co118,eo118⟩:=Kd.R_slice HO379.out;subst eo118;obtain ⟨Ao119,co119,eo119⟩:=Kd.R_slice HO382.out;subst eo119)|((with_reducible refine gate_callee (f:=160) rfl ?_);refine goesL_ (some 9) rfl rfl Try.func160 (by kernel_rfl) rfl #[.agg #[.int .i64 t371,.int .i64 t372,.int .i64 t373]] rfl (by (try simp only [List.map_toArray,List.map_cons,List.map_nil]);first|done|rfl|(simp only [List.length_drop,List.length_take];rfl)) ?_;(with_reducible refine (spec_grCount.calls t371 t372 t373 t386 _ A3.out).mono ?_);rintro e w120 ⟨rfl,hb⟩;refine ⟨_,rfl,?_⟩;have n0_:=aM_ (Kd.R_below (by (with_reducible repeat (first|apply rA_|apply rN_|apply rW_));exact (Kd.R_mono (rF_ (p:=⟨gb385,5,none⟩) (rF_ (p:=⟨gb385,4,none⟩) (rF_ (p:=⟨gb385,3,none⟩) (rF_ (p:=⟨gb385,2,none⟩) (rF_ (p:=⟨gb385,1,none⟩) (rF_ (p:=⟨gb385,0,none⟩) (Kd.R_types HO376.out BK385.out (by decide)) (fun _ hk=>hk.2) (.int .i64 t371)) (fun _ hk=>hk.2) (.int .i64 t372)) (fun _ hk=>hk.2) (.int .i64 t373)) (fun _ hk=>hk.2) (.slice Ao117 t374.length co117)) (fun _ hk=>hk.2) (.slice Ao118 t377.length co118)) (fun _ hk=>hk.2) (.slice Ao119 t380.length co119)) (fun _ h_=>h_.1))) hb);have n1_:=aM_ (Kd.R_below (by (with_reducible repeat (first|apply rA_|apply rN_|apply rW_));exact (Kd.R_mono (rF_ (p:=⟨gb385,5,none⟩) (rF_ (p:=⟨gb385,4,none⟩) (rF_ (p:=⟨gb385,3,none⟩) (rF_ (p:=⟨gb385,2,none⟩) (rF_ (p:=⟨gb385,1,none⟩) (rF_ (p:=⟨gb385,0,none⟩) (Kd.R_types HO379.out BK385.out (by decide)) (fun _ hk=>hk.2) (.int .i64 t371)) (fun _ hk=>hk.2) (.int .i64 t372)) (fun _ hk=>hk.2) (.int .i64 t373)) (fun _ hk=>hk.2) (.slice Ao117 t374.length co117)) (fun _ hk=>hk.2) (.slice Ao118 t377.length co118)) (fun _ hk=>hk.2) (.slice Ao119 t380.length co119)) (fun _ h_=>h_.1))) hb);have n2_:=aM_ (Kd.R_below (by (with_reducible repeat (first|apply rA_|apply rN_|apply rW_));exact (Kd.R_mono (rF_ (p:=⟨gb385,5,none⟩) (rF_ (p:=⟨gb385,4,none⟩) (rF_ (p:=⟨gb385,3,none⟩) (rF_ (p:=⟨gb385,2,none⟩) (rF_ (p:=⟨gb385,1,none⟩) (rF_ (p:=⟨gb385,0,none⟩) (Kd.R_types HO382.out BK385.out (by decide)) (fun _ hk=>hk.2) (.int .i64 t371)) (fun _ hk=>hk.2) (.int .i64 t372)) (fun _ hk=>hk.2) (.int .i64 t373)) (fun _ hk=>hk.2) (.slice Ao117 t374.length co117)) (fun _ hk=>hk.2) (.slice Ao118 t377.length co118)) (fun _ hk=>hk.2) (.slice Ao119 t380.length co119)) (fun _ h_=>h_.1))) hb);have n3_:=aM_ (IsS146.below (show IsS146 w0 ((((((w113.setCell ⟨gb385,0,none⟩ (.int .i64 t371)).setCell ⟨gb385,1,none⟩ (.int .i64 t372)).setCell ⟨gb385,2,none⟩ (.int .i64 t373)).setCell ⟨gb385,3,none⟩ (.slice Ao117 t374.length co117)).setCell ⟨gb385,4,none⟩ (.slice Ao118 t377.length co118)).setCell ⟨gb385,5,none⟩ (.slice Ao119 t380.length co119)) g s0_0 t383 t384 from by repeat (first|(with_reducible first|exact HI0.out|apply yA_|apply yN_|apply yW_|apply y1_|apply y2_|refine yF_ ?_ NB0_370.out _|refine yF_ ?_ NB0_385.out _)|exact HI0.out)) hb);have n4_:=aM_ (blk_below (g:=gb370) (o:=.cells #[.int .i64 0,.int .i64 0,.int .i64 0,.slice none 0 0,.slice none 0 0,.slice none 0 0] 34 (0,0)) (by (with_reducible repeat (first|refine bN_ ?_ _|refine bW_ ?_|refine bA_ ?_ _));refine blk_far ?_ NB370_385.out _;(with_reducible repeat (first|refine bN_ ?_ _|refine bW_ ?_|refine bA_ ?_ _));refine blk_far ?_ NB370_385.out _;(with_reducible repeat (first|refine bN_ ?_ _|refine bW_ ?_|refine bA_ ?_ _));refine blk_far ?_ NB370_385.out _;(with_reducible repeat (first|refine bN_ ?_ _|refine bW_ ?_|refine bA_ ?_ _));refine blk_far ?_ NB370_385.out _;(with_reducible repeat (first|refine bN_ ?_ _|refine bW_ ?_|refine bA_ ?_ _));refine blk_far ?_ NB370_385.out _;(with_reducible repeat (first|refine bN_ ?_ _|refine bW_ ?_|refine bA_ ?_ _));refine blk_far ?_ NB370_385.out _;(with_reducible repeat (first|refine bN_ ?_ _|refine bW_ ?_|refine bA_ ?_ _));exact BK370.out) hb);have n5_:=aM_ (blk_below (g:=gb385) (o:=.cells #[.int .i64 t371,.int .i64 t372,.int .i64 t373,.slice Ao117 t374.length co117,.slice Ao118 t377.length co118,.slice Ao119 t380.length co119] 34 (0,0)) (by (with_reducible repeat (first|refine bN_ ?_ _|refine bW_ ?_|refine bA_ ?_ _));refine blk_put (cs:=#[.int .i64 t371,.int .i64 t372,.int .i64 t373,.slice Ao117 t374.length co117,.slice Ao118 t377.length co118,.slice none 0 0]) ?_ 5 _ rfl;(with_reducible repeat (first|refine bN_ ?_ _|refine bW_ ?_|refine bA_ ?_ _));refine blk_put (cs:=#[.int .i64 t371,.int .i64 t372,.int .i64 t373,.slice Ao117 t374.length co117,.slice none 0 0,.slice none 0 0]) ?_ 4 _ rfl;(with_reducible repeat (first|refine bN_ ?_ _|refine bW_ ?_|refine bA_ ?_ _));refine blk_put (cs:=#[.int .i64 t371,.int .i64 t372,.int .i64 t373,.slice none 0 0,.slice none 0 0,.slice none 0 0]) ?_ 3 _ rfl;(with_reducible repeat (first|refine bN_ ?_ _|refine bW_ ?_|refine bA_ ?_ _));refine blk_put (cs:=#[.int .i64 t371,.int .i64 t372,.int .i64 0,.slice none 0 0,.slice none 0 0,.slice none 0 0]) ?_ 2 _ rfl;(with_reducible repeat (first|refine bN_ ?_ _|refine bW_ ?_|refine bA_ ?_ _));refine blk_put (cs:=#[.int .i64 t371,.int .i64 0,.int .i64 0,.slice none 0 0,.slice none 0 0,.slice none 0 0]) ?_ 1 _ rfl;(with_reducible repeat (first|refine bN_ ?_ _|refine bW_ ?_|refine bA_ ?_ _));refine blk_put (cs:=#[.int .i64 0,.int .i64 0,.int .i64 0,.slice none 0 0,.slice none 0 0,.slice none 0 0]) ?_ 0 _ rfl;(with_reducible repeat (first|refine bN_ ?_ _|refine bW_ ?_|refine bA_ ?_ _));exact BK385.out) hb);have n6_:=aM_ (KeepBut.trans (by repeat (first|(with_reducible first|exact HK.out|apply KeepBut.set_|apply kN_|apply keep_drew|apply kA_|refine keep_far ?_ GW370.out _|refine keep_far ?_ GW385.out _)|exact HK.out)) (KeepBut.of_below hb g none) (.inl rfl));have n7_:=aM_ (below_step (by repeat (first|(with_reducible first|exact HB.out|apply lA_|apply lN_|apply below_drew1|refine bS_ ?_ (IsS146.ge HI0.out)|refine bS_ ?_ GE370.out|refine bS_ ?_ GE385.out)|exact HB.out)) hb);clear HO376;clear HO379;clear HO382;clear HI0;clear BK370;clear BK385;clear HK;clear HB;have HO376:=n0_;have HO379:=n1_;have HO382:=n2_;have HI0:=n3_;have BK370:=n4_;have BK385:=n5_;have HK:=n6_;have HB:=n7_;clear n0_ n1_ n2_ n3_ n4_ n5_ n6_ n7_;(try clear hb);(try clear hb2);(try clear hk);(try clear hi))|((with_reducible refine gate_callee (f:=135) rfl ?_);refine goesL_ (some 11) rfl rfl Try.func135 (by kernel_rfl) rfl #[.pointer (some ⟨g,0,none⟩),.int .i64 30] rfl (by (try simp only [List.map_toArray,List.map_cons,List.map_nil]);first|done|rfl|(simp only [List.length_drop,List.length_take];rfl)) ?_;(with_reducible refine (spec_l1Cur_pick.calls g s0_0 t383 t384 30 t387 t388 t389 w0 _ ?side1 ?side2 A4.out).mono ?_);(case side1=>repeat (first|(with_reducible first|exact HI0.out|apply yA_|apply yN_|apply yW_|apply y1_|apply y2_|refine yF_ ?_ NB0_370.out _|refine yF_ ?_ NB0_385.out _)|exact HI0.out));(case side2=>repeat (first|(with_reducible first|exact HB.out|apply lA_|apply lN_|apply below_drew1|refine bS_ ?_ (IsS146.ge HI0.out)|refine bS_ ?_ GE370.out|refine bS_ ?_ GE385.out)|exact HB.out));rintro e w121 ⟨rfl,hi,hb,hk⟩;refine ⟨_,rfl,?_⟩;have n0_:=aM_ (KeepBut.blk hk (g':=gb370) (o:=.cells #[.int .i64 0,.int .i64 0,.int .i64 0,.slice none 0 0,.slice none 0 0,.slice none 0 0] 34 (0,0)) (by (with_reducible repeat (first|refine bN_ ?_ _|refine bW_ ?_|refine bA_ ?_ _));exact BK370.out) NB370_0.out (by simp));have n1_:=aM_ (Kd.R_mono (Kd.R_keep (IsS146.apart (show IsS146 w0 _ g s0_0 t383 t384 from by repeat (first|(with_reducible first|exact HI0.out|apply yA_|apply yN_|apply yW_|apply y1_|apply y2_|refine yF_ ?_ NB0_370.out _|refine yF_ ?_ NB0_385.out _)|exact HI0.out)) (by (with_reducible repeat (first|apply rA_|apply rN_|apply rW_));exact HO376.out) (by decide)) hk (fun _ h=>h.2)) (fun _ h=>h.1));have n2_:=aM_ (Kd.R_mono (Kd.R_keep (IsS146.apart (show IsS146 w0 _ g s0_0 t383 t384 from by repeat (first|(with_reducible first|exact HI0.out|apply yA_|apply yN_|apply yW_|apply y1_|apply y2_|refine yF_ ?_ NB0_370.out _|refine yF_ ?_ NB0_385.out _)|exact HI0.out)) (by (with_reducible repeat (first|apply rA_|apply rN_|apply rW_));exact HO379.out) (by decide)) hk (fun _ h=>h.2)) (fun _ h=>h.1));have n3_:=aM_ (Kd.R_mono (Kd.R_keep (IsS146.apart (show IsS146 w0 _ g s0_0 t383 t384 from by repeat (first|(with_reducible first|exact HI0.out|apply yA_|apply yN_|apply yW_|apply y1_|apply y2_|refine yF_ ?_ NB0_370.out _|refine yF_ ?_ NB0_385.out _)|exact HI0.out)) (by (with_reducible repeat (first|apply rA_|apply rN_|apply rW_));exact HO382.out) (by decide)) hk (fun _ h=>h.2)) (fun _ h=>h.1));have n4_:=aM_ (KeepBut.blk hk (g':=gb385) (o:=.cells #[.int .i64 t371,.int .i64 t372,.int .i64 t373,.slice Ao117 t374.length co117,.slice Ao118 t377.length co118,.slice Ao119 t380.length co119] 34 (0,0)) (by (with_reducible repeat (first|refine bN_ ?_ _|refine bW_ ?_|refine bA_ ?_ _));exact BK385.out) NB385_0.out (by simp));have n5_:=aM_ (KeepBut.trans (by repeat (first|(with_reducible first|exact HK.out|apply KeepBut.set_|apply kN_|apply keep_drew|apply kA_|refine keep_far ?_ GW370.out _|refine keep_far ?_ GW385.out _)|exact HK.out)) hk (.inl rfl));have n6_:=aM_ (hb);have n7_:=aM_ (hi);clear BK370;clear HO376;clear HO379;clear HO382;clear BK385;clear HK;clear HB;clear HI0;have BK370:=n0_;have HO376:=n1_;have HO379:=n2_;have HO382:=n3_;have BK385:=n4_;have HK:=n5_;have HB:=n6_;have HI0:=n7_;clear n0_ n1_ n2_ n3_ n4_ n5_ n6_ n7_;(try clear hb);(try clear hb2);(try clear hk);(try clear hi);have hcz122_0:w121.cell? ⟨gb385,0,none⟩=some (.int .i64 t371):=(bC_ BK385.out 0).trans rfl;have hcz122_1:w121.cell? ⟨gb385,1,none⟩=some (.int .i64 t372):=(bC_ BK385.out 1).trans rfl;have hcz122_2:w121.cell? ⟨gb385,2,none⟩=some (.int .i64 t373):=(bC_ BK385.out 2).trans rfl;have hcz122_3:w121.cell? ⟨gb385,3,none⟩=some (.slice Ao117 t374.length co117):=(bC_ BK385.out 3).trans rfl;have hcz122_4:w121.cell? ⟨gb385,4,none⟩=some (.slice Ao118 t377.length co118):=(bC_ BK385.out 4).trans rfl;have hcz122_5:w121.cell? ⟨gb385,5,none⟩=some (.slice Ao119 t380.length co119):=(bC_ BK385.out 5).trans rfl;have hfz122_0:=blk_frozen BK385.out 0;have hfz122_1:=blk_frozen BK385.out 1;have hfz122_2:=blk_frozen BK385.out 2;have hfz122_3:=blk_frozen BK385.out 3;have hfz122_4:=blk_frozen BK385.out 4;have hfz122_5:=blk_frozen BK385.out 5)|((with_reducible refine gate_builtin (b:=.append) (xs:=#[.tmp 53,.tmp 54]) rfl ?_);at_builtin;refine Kd.R_append (Kd.int .i64) w.heap.size rfl (.tmp 53) (.tmp 54) 24 3 (.int .i64 0) 8 rfl Try.underlying24 info3 rfl (by decide) (by omega) (.slice Ao119 t380.length co119) t380 0 [.int .i64 0] (fun k_=>some k_≠(.slice Ao117 t374.length co117:Value).ownBlock∧some k_≠(.slice Ao118 t377.length co118:Value).ownBlock) (fun _=>False) rfl rfl ?aP (fun _ hk=>hk.elim) ?aF ?aO (Below.refl _ _) ?aS ?aL ?_;(case aP=>exact rfl);(case aF=>exact (fun k_ hk=>⟨Kd.fresh' (Kd.R_lt (by (with_reducible repeat (first|apply rA_|apply rN_|apply rW_));exact HO376.out)) k_ hk,Kd.fresh' (Kd.R_lt (by (with_reducible repeat (first|apply rA_|apply rN_|apply rW_));exact HO379.out)) k_ hk⟩));(case aO=>exact (by (with_reducible repeat (first|apply rA_|apply rN_|apply rW_));exact HO382.out));(case aS=>exact (keep_size (w:=w) (g:=g) (row:=none) (by repeat (first|(with_reducible first|exact HK.out|apply KeepBut.set_|apply kN_|apply keep_drew|apply kA_|refine keep_far ?_ GW370.out _|refine keep_far ?_ GW385.out _)|exact HK.out))));(case aL=>have:=LMc110.out;omega);intro v426 w123 ho hb hg hat;rw [← Ny425.out] at ho;have n0_:=aM_ (IsS146.grown (by repeat (first|(with_reducible first|exact HI0.out|apply yA_|apply yN_|apply yW_|apply y1_|apply y2_|refine yF_ ?_ NB0_370.out _|refine yF_ ?_ NB0_385.out _)|exact HI0.out)) hg (IsS146.own_ne HI0.out HO382.out (by decide)));have n1_:=aM_ (blk_grown (g:=gb370) (o:=.cells #[.int .i64 0,.int .i64 0,.int .i64 0,.slice none 0 0,.slice none 0 0,.slice none 0 0] 34 (0,0)) (by (with_reducible repeat (first|refine bN_ ?_ _|refine bW_ ?_|refine bA_ ?_ _));exact BK370.out) hg (Kd.R_ne HO382.out BK370.out (by decide)));have n2_:=aM_ (Kd.R_after (ok:=(fun k_=>some k_≠(.slice Ao118 t377.length co118:Value).ownBlock)) (by (with_reducible repeat (first|apply rA_|apply rN_|apply rW_));exact HO376.out) hg hat);have n3_:=aM_ (Kd.R_after (ok:=(fun k_=>some k_≠(.slice Ao117 t374.length co117:Value).ownBlock)) (by (with_reducible repeat (first|apply rA_|apply rN_|apply rW_));exact HO379.out) hg hat);have n4_:=aM_ (blk_grown (g:=gb385) (o:=.cells #[.int .i64 t371,.int .i64 t372,.int .i64 t373,.slice Ao117 t374.length co117,.slice Ao118 t377.length co118,.slice Ao119 t380.length co119] 34 (0,0)) (by (with_reducible repeat (first|refine bN_ ?_ _|refine bW_ ?_|refine bA_ ?_ _));exact BK385.out) hg (Kd.R_ne HO382.out BK385.out (by decide)));have n5_:=aM_ (below_weaken (by repeat (first|(with_reducible first|exact HB.out|apply lA_|apply lN_|apply below_drew1|refine bS_ ?_ (IsS146.ge HI0.out)|refine bS_ ?_ GE370.out|refine bS_ ?_ GE385.out)|exact HB.out)) HL.out hb);have n6_:=aM_ (KeepBut.trans (by repeat (first|(with_reducible first|exact HK.out|apply KeepBut.set_|apply kN_|apply keep_drew|apply kA_|refine keep_far ?_ GW370.out _|refine keep_far ?_ GW385.out _)|exact HK.out)) (KeepBut.of_grown hg g) (Kd.R_base2 HO382.out));have n7_:=aM_ (ho);clear HI0;clear BK370;clear HO376;clear HO379;clear BK385;clear HB;clear HK;clear HO382;have HI0:=n0_;have BK370:=n1_;have HO376:=n2_;have HO379:=n3_;have BK385:=n4_;have HB:=n5_;have HK:=n6_;have HO427:=n7_;clear n0_ n1_ n2_ n3_ n4_ n5_ n6_ n7_;clear ho hb hg hat;obtain ⟨Ao124,co124,eo124⟩:=Kd.R_slice HO427.out;subst eo124;have hcz125_0:w123.cell? ⟨gb385,0,none⟩=some (.int .i64 t371):=(bC_ BK385.out 0).trans rfl;have hcz125_1:w123.cell? ⟨gb385,1,none⟩=some (.int .i64 t372):=(bC_ BK385.out 1).trans rfl;have hcz125_2:w123.cell? ⟨gb385,2,none⟩=some (.int .i64 t373):=(bC_ BK385.out 2).trans rfl;have hcz125_3:w123.cell? ⟨gb385,3,none⟩=some (.slice Ao117 t374.length co117):=(bC_ BK385.out 3).trans rfl;have hcz125_4:w123.cell? ⟨gb385,4,none⟩=some (.slice Ao118 t377.length co118):=(bC_ BK385.out 4).trans rfl;have hcz125_5:w123.cell? ⟨gb385,5,none⟩=some (.slice Ao119 t380.length co119):=(bC_ BK385.out 5).trans rfl;have hfz125_0:=blk_frozen BK385.out 0;have hfz125_1:=blk_frozen BK385.out 1;have hfz125_2:=blk_frozen BK385.out 2;have hfz125_3:=blk_frozen BK385.out 3;have hfz125_4:=blk_frozen BK385.out 4;have hfz125_5:=blk_frozen BK385.out 5;have hnb126:=NB370_0.out;have hnc126:=NB0_370.out;have hcz127_0:w123.cell? ⟨gb370,0,none⟩=some (.int .i64 0):=(bC_ BK370.out 0).trans rfl;have hcz127_1:w123.cell? ⟨gb370,1,none⟩=some (.int .i64 0):=(bC_ BK370.out 1).trans rfl;have hcz127_2:w123.cell? ⟨gb370,2,none⟩=some (.int .i64 0):=(bC_ BK370.out 2).trans rfl;have hcz127_3:w123.cell? ⟨gb370,3,none⟩=some (.slice none 0 0):=(bC_ BK370.out 3).trans rfl;have hcz127_4:w123.cell? ⟨gb370,4,none⟩=some (.slice none 0 0):=(bC_ BK370.out 4).trans rfl;have hcz127_5:w123.cell? ⟨gb370,5,none⟩=some (.slice none 0 0):=(bC_ BK370.out 5).trans rfl;have hfz127_0:=blk_frozen BK370.out 0;have hfz127_1:=blk_frozen BK370.out 1;have hfz127_2:=blk_frozen BK370.out 2;have hfz127_3:=blk_frozen BK370.out 3;have hfz127_4:=blk_frozen BK370.out 4;have hfz127_5:=blk_frozen BK370.out 5))
       refine bodyPost_ret (results_cell_row rfl _ _ gb370 34 #[.int .i64 t371,.int .i64 t372,.int .i64 t373,.slice Ao117 t374.length co117,.slice Ao118 t377.length co118,.slice Ao124 y425.length co124] (0,0) _ rfl (by (with_reducible repeat (first|refine bN_ ?_ _|refine bW_ ?_|refine bA_ ?_ _));refine blk_put (cs:=#[.int .i64 t371,.int .i64 t372,.int .i64 t373,.slice Ao117 t374.length co117,.slice Ao118 t377.length co118,.slice none 0 0]) ?_ 5 _ rfl;(with_reducible repeat (first|refine bN_ ?_ _|refine bW_ ?_|refine bA_ ?_ _));refine blk_put (cs:=#[.int .i64 t371,.int .i64 t372,.int .i64 t373,.slice Ao117 t374.length co117,.slice none 0 0,.slice none 0 0]) ?_ 4 _ rfl;(with_reducible repeat (first|refine bN_ ?_ _|refine bW_ ?_|refine bA_ ?_ _));refine blk_put (cs:=#[.int .i64 t371,.int .i64 t372,.int .i64 t373,.slice none 0 0,.slice none 0 0,.slice none 0 0]) ?_ 3 _ rfl;(with_reducible repeat (first|refine bN_ ?_ _|refine bW_ ?_|refine bA_ ?_ _));refine blk_put (cs:=#[.int .i64 t371,.int .i64 t372,.int .i64 0,.slice none 0 0,.slice none 0 0,.slice none 0 0]) ?_ 2 _ rfl;(with_reducible repeat (first|refine bN_ ?_ _|refine bW_ ?_|refine bA_ ?_ _));refine blk_put (cs:=#[.int .i64 t371,.int .i64 0,.int .i64 0,.slice none 0 0,.slice none 0 0,.slice none 0 0]) ?_ 1 _ rfl;(with_reducible repeat (first|refine bN_ ?_ _|refine bW_ ?_|refine bA_ ?_ _));refine blk_put (cs:=#[.int .i64 0,.int .i64 0,.int .i64 0,.slice none 0 0,.slice none 0 0,.slice none 0 0]) ?_ 0 _ rfl;(with_reducible repeat (first|refine bN_ ?_ _|refine bW_ ?_|refine bA_ ?_ _));refine blk_far ?_ NB370_385.out _;(with_reducible repeat (first|refine bN_ ?_ _|refine bW_ ?_|refine bA_ ?_ _));exact BK370.out) Try.underlying34 rfl (by kernel_rfl)) rfl ?_
       exact ⟨_,_,_,by first|rfl|(simp [errW_none,errW_some] <;> rfl)|(simp [*,errW_none,errW_some] <;> rfl),by (with_reducible repeat (first|apply rA_|apply rN_|apply rW_));exact Kd.R_mono (rF_ (p:=⟨gb370,5,none⟩) (rF_ (p:=⟨gb370,4,none⟩) (rF_ (p:=⟨gb370,3,none⟩) (rF_ (p:=⟨gb370,2,none⟩) (rF_ (p:=⟨gb370,1,none⟩) (rF_ (p:=⟨gb370,0,none⟩) (rF_ (p:=⟨gb385,5,none⟩) (Kd.R_types (Kd.R_types HO376.out BK385.out (by decide)) BK370.out (by decide)) (fun _ hk=>hk.1.2) (.slice Ao124 y425.length co124)) (fun _ hk=>hk.2) (.int .i64 t371)) (fun _ hk=>hk.2) (.int .i64 t372)) (fun _ hk=>hk.2) (.int .i64 t373)) (fun _ hk=>hk.2) (.slice Ao117 t374.length co117)) (fun _ hk=>hk.2) (.slice Ao118 t377.length co118)) (fun _ hk=>hk.2) (.slice Ao124 y425.length co124)) (fun _ hk=>⟨hk.1.1.1,hk.1.1.2⟩),by (with_reducible repeat (first|apply rA_|apply rN_|apply rW_));exact Kd.R_mono (rF_ (p:=⟨gb370,5,none⟩) (rF_ (p:=⟨gb370,4,none⟩) (rF_ (p:=⟨gb370,3,none⟩) (rF_ (p:=⟨gb370,2,none⟩) (rF_ (p:=⟨gb370,1,none⟩) (rF_ (p:=⟨gb370,0,none⟩) (rF_ (p:=⟨gb385,5,none⟩) (Kd.R_types (Kd.R_types HO379.out BK385.out (by decide)) BK370.out (by decide)) (fun _ hk=>hk.1.2) (.slice Ao124 y425.length co124)) (fun _ hk=>hk.2) (.int .i64 t371)) (fun _ hk=>hk.2) (.int .i64 t372)) (fun _ hk=>hk.2) (.int .i64 t373)) (fun _ hk=>hk.2) (.slice Ao117 t374.length co117)) (fun _ hk=>hk.2) (.slice Ao118 t377.length co118)) (fun _ hk=>hk.2) (.slice Ao124 y425.length co124)) (fun _ hk=>⟨hk.1.1.1,hk.1.1.2⟩),by (with_reducible repeat (first|apply rA_|apply rN_|apply rW_));exact Kd.R_mono (rF_ (p:=⟨gb370,5,none⟩) (rF_ (p:=⟨gb370,4,none⟩) (rF_ (p:=⟨gb370,3,none⟩) (rF_ (p:=⟨gb370,2,none⟩) (rF_ (p:=⟨gb370,1,none⟩) (rF_ (p:=⟨gb370,0,none⟩) (rF_ (p:=⟨gb385,5,none⟩) (Kd.R_types (Kd.R_types HO427.out BK385.out (by decide)) BK370.out (by decide)) (fun _ hk=>hk.1.2) (.slice Ao124 y425.length co124)) (fun _ hk=>hk.2) (.int .i64 t371)) (fun _ hk=>hk.2) (.int .i64 t372)) (fun _ hk=>hk.2) (.int .i64 t373)) (fun _ hk=>hk.2) (.slice Ao117 t374.length co117)) (fun _ hk=>hk.2) (.slice Ao118 t377.length co118)) (fun _ hk=>hk.2) (.slice Ao124 y425.length co124)) (fun _ hk=>⟨hk.1.1.1,hk.1.1.2⟩),by repeat (first|(with_reducible first|exact HI0.out|apply yA_|apply yN_|apply yW_|apply y1_|apply y2_|refine yF_ ?_ NB0_370.out _|refine yF_ ?_ NB0_385.out _)|exact HI0.out),by repeat (first|(with_reducible first|exact HB.out|apply lA_|apply lN_|apply below_drew1|refine bS_ ?_ (IsS146.ge HI0.out)|refine bS_ ?_ GE370.out|refine bS_ ?_ GE385.out)|exact HB.out),by repeat (first|(with_reducible first|exact HK.out|apply KeepBut.set_|apply kN_|apply keep_drew|apply kA_|refine keep_far ?_ GW370.out _|refine keep_far ?_ GW385.out _)|exact HK.out)⟩
      ·rw [if_neg c110] at H
       exact absurd H (by simp)
     ·rw [if_neg c109] at H
      have c109b0:(t387 == 4)=false:=beq_eq_false_iff_ne.mpr c109
      have c109b1:(t387 != 4)=true:=bne_iff_ne.mpr c109
      simp only [Option.some.injEq,Prod.mk.injEq] at H
      obtain ⟨rfl,rfl,rfl,rfl,rfl,rfl,rfl,rfl⟩:=H
      go_enter Try.func134,Try.ntmps134
      go_wp2_with (first|((with_reducible refine gate_dst (N:=2) rfl ?_);refine box_event ?hg (N:=2) ?hd (cs:=#[.int .i64 0,.int .i64 0,.int .i64 0,.slice none 0 0,.slice none 0 0,.slice none 0 0]) (t:=34) ?hr ?_;(case hd=>rfl);(case hg=>rfl);(case hr=>first|(go_simp;done)|(go_simp;rfl));intro gb370 hg w128 hbox hb;have n0_:=aM_ (IsS146.below (by repeat (first|(with_reducible first|exact HI0.out|apply yA_|apply yN_|apply yW_|apply y1_|apply y2_)|exact HI0.out)) hb);have n1_:=aM_ (KeepBut.trans (by repeat (first|(with_reducible first|exact HK.out|apply KeepBut.set_|apply kN_|apply keep_drew|apply kA_)|exact HK.out)) (KeepBut.of_below hb g none) (.inl rfl));have n2_:=aM_ (below_step (by repeat (first|(with_reducible first|exact HB.out|apply lA_|apply lN_|apply below_drew1|refine bS_ ?_ (IsS146.ge HI0.out))|exact HB.out)) hb);have n3_:=aM_ (hbox);have n4_:=aM_ ((by rw [hg];exact (keep_size (w:=w) (g:=g) (row:=none) (by repeat (first|(with_reducible first|exact HK.out|apply KeepBut.set_|apply kN_|apply keep_drew|apply kA_)|exact HK.out))):w.heap.size≤gb370));have n5_:=aM_ ((Nat.le_trans HW0.out (by rw [hg];exact (keep_size (w:=w) (g:=g) (row:=none) (by repeat (first|(with_reducible first|exact HK.out|apply KeepBut.set_|apply kN_|apply keep_drew|apply kA_)|exact HK.out))):w.heap.size≤gb370):w0.heap.size≤gb370));have n6_:=aM_ ((by rw [hg];exact Nat.ne_of_lt (IsS146.lt (show IsS146 w0 _ g s0_0 s0_1 s0_2 from by repeat (first|(with_reducible first|exact HI0.out|apply yA_|apply yN_|apply yW_|apply y1_|apply y2_)|exact HI0.out))):g≠gb370));have n7_:=aM_ ((by rw [hg];exact Nat.ne_of_gt (IsS146.lt (show IsS146 w0 _ g s0_0 s0_1 s0_2 from by repeat (first|(with_reducible first|exact HI0.out|apply yA_|apply yN_|apply yW_|apply y1_|apply y2_)|exact HI0.out))):gb370≠g));clear HI0;clear HK;clear HB;have HI0:=n0_;have HK:=n1_;have HB:=n2_;have BK370:=n3_;have GW370:=n4_;have GE370:=n5_;have NB0_370:=n6_;have NB370_0:=n7_;clear n0_ n1_ n2_ n3_ n4_ n5_ n6_ n7_;clear hb hbox hg)|((with_reducible refine gate_callee (f:=183) rfl ?_);refine goesL_ (some 6) rfl rfl Try.func183 (by kernel_rfl) rfl #[.pointer (some ⟨g,0,none⟩)] rfl (by (try simp only [List.map_toArray,List.map_cons,List.map_nil]);first|done|rfl|(simp only [List.length_drop,List.length_take];rfl)) ?_;(with_reducible refine (spec_l1Cur_model.calls k g s0_0 s0_1 s0_2 t371 t372 t373 t374 t377 t380 t383 t384 w0 _ ?side1 ?side2 A2.out).mono ?_);(case side1=>repeat (first|(with_reducible first|exact HI0.out|apply yA_|apply yN_|apply yW_|apply y1_|apply y2_|refine yF_ ?_ NB0_370.out _)|exact HI0.out));(case side2=>repeat (first|(with_reducible first|exact HB.out|apply lA_|apply lN_|apply below_drew1|refine bS_ ?_ (IsS146.ge HI0.out)|refine bS_ ?_ GE370.out)|exact HB.out));rintro e w129 ⟨v375,v378,v381,rfl,ho0,ho1,ho2,hi,hb,hk⟩;refine ⟨_,rfl,?_⟩;have n0_:=aM_ (KeepBut.blk hk (g':=gb370) (o:=.cells #[.int .i64 0,.int .i64 0,.int .i64 0,.slice none 0 0,.slice none 0 0,.slice none 0 0] 34 (0,0)) (by (with_reducible repeat (first|refine bN_ ?_ _|refine bW_ ?_|refine bA_ ?_ _));exact BK370.out) NB370_0.out (by simp));have n1_:=aM_ (Kd.R_lower ho0 (keep_size (w:=w) (g:=g) (row:=none) (by repeat (first|(with_reducible first|exact HK.out|apply KeepBut.set_|apply kN_|apply keep_drew|apply kA_|refine keep_far ?_ GW370.out _)|exact HK.out))));have n2_:=aM_ (Kd.R_lower ho1 (keep_size (w:=w) (g:=g) (row:=none) (by repeat (first|(with_reducible first|exact HK.out|apply KeepBut.set_|apply kN_|apply keep_drew|apply kA_|refine keep_far ?_ GW370.out _)|exact HK.out))));have n3_:=aM_ (Kd.R_lower ho2 (keep_size (w:=w) (g:=g) (row:=none) (by repeat (first|(with_reducible first|exact HK.out|apply KeepBut.set_|apply kN_|apply keep_drew|apply kA_|refine keep_far ?_ GW370.out _)|exact HK.out))));have n4_:=aM_ (KeepBut.trans (by repeat (first|(with_reducible first|exact HK.out|apply KeepBut.set_|apply kN_|apply keep_drew|apply kA_|refine keep_far ?_ GW370.out _)|exact HK.out)) hk (.inl rfl));have n5_:=aM_ (hb);have n6_:=aM_ (hi);clear BK370;clear HK;clear HB;clear HI0;have BK370:=n0_;have HO376:=n1_;have HO379:=n2_;have HO382:=n3_;have HK:=n4_;have HB:=n5_;have HI0:=n6_;clear n0_ n1_ n2_ n3_ n4_ n5_ n6_;(try clear hb);(try clear hb2);(try clear hk);(try clear hi);(try clear ho0);(try clear ho1);(try clear ho2))|((with_reducible refine gate_dst (N:=3) rfl ?_);refine box_event ?hg (N:=3) ?hd (cs:=#[.int .i64 0,.int .i64 0,.int .i64 0,.slice none 0 0,.slice none 0 0,.slice none 0 0]) (t:=34) ?hr ?_;(case hd=>rfl);(case hg=>rfl);(case hr=>first|(go_simp;done)|(go_simp;rfl));intro gb385 hg w130 hbox hb;have n0_:=aM_ (Kd.R_below (by (with_reducible repeat (first|apply rA_|apply rN_|apply rW_));exact HO376.out) hb);have n1_:=aM_ (Kd.R_below (by (with_reducible repeat (first|apply rA_|apply rN_|apply rW_));exact HO379.out) hb);have n2_:=aM_ (Kd.R_below (by (with_reducible repeat (first|apply rA_|apply rN_|apply rW_));exact HO382.out) hb);have n3_:=aM_ (IsS146.below (by repeat (first|(with_reducible first|exact HI0.out|apply yA_|apply yN_|apply yW_|apply y1_|apply y2_|refine yF_ ?_ NB0_370.out _)|exact HI0.out)) hb);have n4_:=aM_ (blk_below (g:=gb370) (o:=.cells #[.int .i64 0,.int .i64 0,.int .i64 0,.slice none 0 0,.slice none 0 0,.slice none 0 0] 34 (0,0)) (by (with_reducible repeat (first|refine bN_ ?_ _|refine bW_ ?_|refine bA_ ?_ _));exact BK370.out) hb);have n5_:=aM_ (KeepBut.trans (by repeat (first|(with_reducible first|exact HK.out|apply KeepBut.set_|apply kN_|apply keep_drew|apply kA_|refine keep_far ?_ GW370.out _)|exact HK.out)) (KeepBut.of_below hb g none) (.inl rfl));have n6_:=aM_ (below_step (by repeat (first|(with_reducible first|exact HB.out|apply lA_|apply lN_|apply below_drew1|refine bS_ ?_ (IsS146.ge HI0.out)|refine bS_ ?_ GE370.out)|exact HB.out)) hb);have n7_:=aM_ (hbox);have n8_:=aM_ ((by rw [hg];exact (keep_size (w:=w) (g:=g) (row:=none) (by repeat (first|(with_reducible first|exact HK.out|apply KeepBut.set_|apply kN_|apply keep_drew|apply kA_|refine keep_far ?_ GW370.out _)|exact HK.out))):w.heap.size≤gb385));have n9_:=aM_ ((Nat.le_trans HW0.out (by rw [hg];exact (keep_size (w:=w) (g:=g) (row:=none) (by repeat (first|(with_reducible first|exact HK.out|apply KeepBut.set_|apply kN_|apply keep_drew|apply kA_|refine keep_far ?_ GW370.out _)|exact HK.out))):w.heap.size≤gb385):w0.heap.size≤gb385));have n10_:=aM_ ((by rw [hg];exact Nat.ne_of_lt (blk_lt (g:=gb370) (o:=.cells #[.int .i64 0,.int .i64 0,.int .i64 0,.slice none 0 0,.slice none 0 0,.slice none 0 0] 34 (0,0)) (by (with_reducible repeat (first|refine bN_ ?_ _|refine bW_ ?_|refine bA_ ?_ _));exact BK370.out)):gb370≠gb385));have n11_:=aM_ ((by rw [hg];exact Nat.ne_of_gt (blk_lt (g:=gb370) (o:=.cells #[.int .i64 0,.int .i64 0,.int .i64 0,.slice none 0 0,.slice none 0 0,.slice none 0 0] 34 (0,0)) (by (with_reducible repeat (first|refine bN_ ?_ _|refine bW_ ?_|refine bA_ ?_ _));exact BK370.out)):gb385≠gb370));have n12_:=aM_ ((by rw [hg];exact Nat.ne_of_lt (IsS146.lt (show IsS146 w0 _ g s0_0 t383 t384 from by repeat (first|(with_reducible first|exact HI0.out|apply yA_|apply yN_|apply yW_|apply y1_|apply y2_|refine yF_ ?_ NB0_370.out _)|exact HI0.out))):g≠gb385));have n13_:=aM_ ((by rw [hg];exact Nat.ne_of_gt (IsS146.lt (show IsS146 w0 _ g s0_0 t383 t384 from by repeat (first|(with_reducible first|exact HI0.out|apply yA_|apply yN_|apply yW_|apply y1_|apply y2_|refine yF_ ?_ NB0_370.out _)|exact HI0.out))):gb385≠g));clear HO376;clear HO379;clear HO382;clear HI0;clear BK370;clear HK;clear HB;have HO376:=n0_;have HO379:=n1_;have HO382:=n2_;have HI0:=n3_;have BK370:=n4_;have HK:=n5_;have HB:=n6_;have BK385:=n7_;have GW385:=n8_;have GE385:=n9_;have NB370_385:=n10_;have NB385_370:=n11_;have NB0_385:=n12_;have NB385_0:=n13_;clear n0_ n1_ n2_ n3_ n4_ n5_ n6_ n7_ n8_ n9_ n10_ n11_ n12_ n13_;clear hb hbox hg;have hnb131:=NB385_370.out;have hnc131:=NB370_385.out;have hnb132:=NB385_0.out;have hnc132:=NB0_385.out;have hcz133_0:w130.cell? ⟨gb385,0,none⟩=some (.int .i64 0):=(bC_ BK385.out 0).trans rfl;have hcz133_1:w130.cell? ⟨gb385,1,none⟩=some (.int .i64 0):=(bC_ BK385.out 1).trans rfl;have hcz133_2:w130.cell? ⟨gb385,2,none⟩=some (.int .i64 0):=(bC_ BK385.out 2).trans rfl;have hcz133_3:w130.cell? ⟨gb385,3,none⟩=some (.slice none 0 0):=(bC_ BK385.out 3).trans rfl;have hcz133_4:w130.cell? ⟨gb385,4,none⟩=some (.slice none 0 0):=(bC_ BK385.out 4).trans rfl;have hcz133_5:w130.cell? ⟨gb385,5,none⟩=some (.slice none 0 0):=(bC_ BK385.out 5).trans rfl;have hfz133_0:=blk_frozen BK385.out 0;have hfz133_1:=blk_frozen BK385.out 1;have hfz133_2:=blk_frozen BK385.out 2;have hfz133_3:=blk_frozen BK385.out 3;have hfz133_4:=blk_frozen BK385.out 4;have hfz133_5:=blk_frozen BK385.out 5;obtain ⟨Ao134,co134,eo134⟩:=Kd.R_slice HO376.out;subst eo134;obtain ⟨Ao135,co135,eo135⟩:=Kd.R_slice HO379.out;subst eo135;obtain ⟨Ao136,co136,eo136⟩:=Kd.R_slice HO382.out;subst eo136)|((with_reducible refine gate_callee (f:=160) rfl ?_);refine goesL_ (some 9) rfl rfl Try.func160 (by kernel_rfl) rfl #[.agg #[.int .i64 t371,.int .i64 t372,.int .i64 t373]] rfl (by (try simp only [List.map_toArray,List.map_cons,List.map_nil]);first|done|rfl|(simp only [List.length_drop,List.length_take];rfl)) ?_;(with_reducible refine (spec_grCount.calls t371 t372 t373 t386 _ A3.out).mono ?_);rintro e w137 ⟨rfl,hb⟩;refine ⟨_,rfl,?_⟩;have n0_:=aM_ (Kd.R_below (by (with_reducible repeat (first|apply rA_|apply rN_|apply rW_));exact (Kd.R_mono (rF_ (p:=⟨gb385,5,none⟩) (rF_ (p:=⟨gb385,4,none⟩) (rF_ (p:=⟨gb385,3,none⟩) (rF_ (p:=⟨gb385,2,none⟩) (rF_ (p:=⟨gb385,1,none⟩) (rF_ (p:=⟨gb385,0,none⟩) (Kd.R_types HO376.out BK385.out (by decide)) (fun _ hk=>hk.2) (.int .i64 t371)) (fun _ hk=>hk.2) (.int .i64 t372)) (fun _ hk=>hk.2) (.int .i64 t373)) (fun _ hk=>hk.2) (.slice Ao134 t374.length co134)) (fun _ hk=>hk.2) (.slice Ao135 t377.length co135)) (fun _ hk=>hk.2) (.slice Ao136 t380.length co136)) (fun _ h_=>h_.1))) hb);have n1_:=aM_ (Kd.R_below (by (with_reducible repeat (first|apply rA_|apply rN_|apply rW_));exact (Kd.R_mono (rF_ (p:=⟨gb385,5,none⟩) (rF_ (p:=⟨gb385,4,none⟩) (rF_ (p:=⟨gb385,3,none⟩) (rF_ (p:=⟨gb385,2,none⟩) (rF_ (p:=⟨gb385,1,none⟩) (rF_ (p:=⟨gb385,0,none⟩) (Kd.R_types HO379.out BK385.out (by decide)) (fun _ hk=>hk.2) (.int .i64 t371)) (fun _ hk=>hk.2) (.int .i64 t372)) (fun _ hk=>hk.2) (.int .i64 t373)) (fun _ hk=>hk.2) (.slice Ao134 t374.length co134)) (fun _ hk=>hk.2) (.slice Ao135 t377.length co135)) (fun _ hk=>hk.2) (.slice Ao136 t380.length co136)) (fun _ h_=>h_.1))) hb);have n2_:=aM_ (Kd.R_below (by (with_reducible repeat (first|apply rA_|apply rN_|apply rW_));exact (Kd.R_mono (rF_ (p:=⟨gb385,5,none⟩) (rF_ (p:=⟨gb385,4,none⟩) (rF_ (p:=⟨gb385,3,none⟩) (rF_ (p:=⟨gb385,2,none⟩) (rF_ (p:=⟨gb385,1,none⟩) (rF_ (p:=⟨gb385,0,none⟩) (Kd.R_types HO382.out BK385.out (by decide)) (fun _ hk=>hk.2) (.int .i64 t371)) (fun _ hk=>hk.2) (.int .i64 t372)) (fun _ hk=>hk.2) (.int .i64 t373)) (fun _ hk=>hk.2) (.slice Ao134 t374.length co134)) (fun _ hk=>hk.2) (.slice Ao135 t377.length co135)) (fun _ hk=>hk.2) (.slice Ao136 t380.length co136)) (fun _ h_=>h_.1))) hb);have n3_:=aM_ (IsS146.below (show IsS146 w0 ((((((w130.setCell ⟨gb385,0,none⟩ (.int .i64 t371)).setCell ⟨gb385,1,none⟩ (.int .i64 t372)).setCell ⟨gb385,2,none⟩ (.int .i64 t373)).setCell ⟨gb385,3,none⟩ (.slice Ao134 t374.length co134)).setCell ⟨gb385,4,none⟩ (.slice Ao135 t377.length co135)).setCell ⟨gb385,5,none⟩ (.slice Ao136 t380.length co136)) g s0_0 t383 t384 from by repeat (first|(with_reducible first|exact HI0.out|apply yA_|apply yN_|apply yW_|apply y1_|apply y2_|refine yF_ ?_ NB0_370.out _|refine yF_ ?_ NB0_385.out _)|exact HI0.out)) hb);have n4_:=aM_ (blk_below (g:=gb370) (o:=.cells #[.int .i64 0,.int .i64 0,.int .i64 0,.slice none 0 0,.slice none 0 0,.slice none 0 0] 34 (0,0)) (by (with_reducible repeat (first|refine bN_ ?_ _|refine bW_ ?_|refine bA_ ?_ _));refine blk_far ?_ NB370_385.out _;(with_reducible repeat (first|refine bN_ ?_ _|refine bW_ ?_|refine bA_ ?_ _));refine blk_far ?_ NB370_385.out _;(with_reducible repeat (first|refine bN_ ?_ _|refine bW_ ?_|refine bA_ ?_ _));refine blk_far ?_ NB370_385.out _;(with_reducible repeat (first|refine bN_ ?_ _|refine bW_ ?_|refine bA_ ?_ _));refine blk_far ?_ NB370_385.out _;(with_reducible repeat (first|refine bN_ ?_ _|refine bW_ ?_|refine bA_ ?_ _));refine blk_far ?_ NB370_385.out _;(with_reducible repeat (first|refine bN_ ?_ _|refine bW_ ?_|refine bA_ ?_ _));refine blk_far ?_ NB370_385.out _;(with_reducible repeat (first|refine bN_ ?_ _|refine bW_ ?_|refine bA_ ?_ _));exact BK370.out) hb);have n5_:=aM_ (blk_below (g:=gb385) (o:=.cells #[.int .i64 t371,.int .i64 t372,.int .i64 t373,.slice Ao134 t374.length co134,.slice Ao135 t377.length co135,.slice Ao136 t380.length co136] 34 (0,0)) (by (with_reducible repeat (first|refine bN_ ?_ _|refine bW_ ?_|refine bA_ ?_ _));refine blk_put (cs:=#[.int .i64 t371,.int .i64 t372,.int .i64 t373,.slice Ao134 t374.length co134,.slice Ao135 t377.length co135,.slice none 0 0]) ?_ 5 _ rfl;(with_reducible repeat (first|refine bN_ ?_ _|refine bW_ ?_|refine bA_ ?_ _));refine blk_put (cs:=#[.int .i64 t371,.int .i64 t372,.int .i64 t373,.slice Ao134 t374.length co134,.slice none 0 0,.slice none 0 0]) ?_ 4 _ rfl;(with_reducible repeat (first|refine bN_ ?_ _|refine bW_ ?_|refine bA_ ?_ _));refine blk_put (cs:=#[.int .i64 t371,.int .i64 t372,.int .i64 t373,.slice none 0 0,.slice none 0 0,.slice none 0 0]) ?_ 3 _ rfl;(with_reducible repeat (first|refine bN_ ?_ _|refine bW_ ?_|refine bA_ ?_ _));refine blk_put (cs:=#[.int .i64 t371,.int .i64 t372,.int .i64 0,.slice none 0 0,.slice none 0 0,.slice none 0 0]) ?_ 2 _ rfl;(with_reducible repeat (first|refine bN_ ?_ _|refine bW_ ?_|refine bA_ ?_ _));refine blk_put (cs:=#[.int .i64 t371,.int .i64 0,.int .i64 0,.slice none 0 0,.slice none 0 0,.slice none 0 0]) ?_ 1 _ rfl;(with_reducible repeat (first|refine bN_ ?_ _|refine bW_ ?_|refine bA_ ?_ _));refine blk_put (cs:=#[.int .i64 0,.int .i64 0,.int .i64 0,.slice none 0 0,.slice none 0 0,.slice none 0 0]) ?_ 0 _ rfl;(with_reducible repeat (first|refine bN_ ?_ _|refine bW_ ?_|refine bA_ ?_ _));exact BK385.out) hb);have n6_:=aM_ (KeepBut.trans (by repeat (first|(with_reducible first|exact HK.out|apply KeepBut.set_|apply kN_|apply keep_drew|apply kA_|refine keep_far ?_ GW370.out _|refine keep_far ?_ GW385.out _)|exact HK.out)) (KeepBut.of_below hb g none) (.inl rfl));have n7_:=aM_ (below_step (by repeat (first|(with_reducible first|exact HB.out|apply lA_|apply lN_|apply below_drew1|refine bS_ ?_ (IsS146.ge HI0.out)|refine bS_ ?_ GE370.out|refine bS_ ?_ GE385.out)|exact HB.out)) hb);clear HO376;clear HO379;clear HO382;clear HI0;clear BK370;clear BK385;clear HK;clear HB;have HO376:=n0_;have HO379:=n1_;have HO382:=n2_;have HI0:=n3_;have BK370:=n4_;have BK385:=n5_;have HK:=n6_;have HB:=n7_;clear n0_ n1_ n2_ n3_ n4_ n5_ n6_ n7_;(try clear hb);(try clear hb2);(try clear hk);(try clear hi))|((with_reducible refine gate_callee (f:=135) rfl ?_);refine goesL_ (some 11) rfl rfl Try.func135 (by kernel_rfl) rfl #[.pointer (some ⟨g,0,none⟩),.int .i64 30] rfl (by (try simp only [List.map_toArray,List.map_cons,List.map_nil]);first|done|rfl|(simp only [List.length_drop,List.length_take];rfl)) ?_;(with_reducible refine (spec_l1Cur_pick.calls g s0_0 t383 t384 30 t387 t388 t389 w0 _ ?side1 ?side2 A4.out).mono ?_);(case side1=>repeat (first|(with_reducible first|exact HI0.out|apply yA_|apply yN_|apply yW_|apply y1_|apply y2_|refine yF_ ?_ NB0_370.out _|refine yF_ ?_ NB0_385.out _)|exact HI0.out));(case side2=>repeat (first|(with_reducible first|exact HB.out|apply lA_|apply lN_|apply below_drew1|refine bS_ ?_ (IsS146.ge HI0.out)|refine bS_ ?_ GE370.out|refine bS_ ?_ GE385.out)|exact HB.out));rintro e w138 ⟨rfl,hi,hb,hk⟩;refine ⟨_,rfl,?_⟩;have n0_:=aM_ (KeepBut.blk hk (g':=gb370) (o:=.cells #[.int .i64 0,.int .i64 0,.int .i64 0,.slice none 0 0,.slice none 0 0,.slice none 0 0] 34 (0,0)) (by (with_reducible repeat (first|refine bN_ ?_ _|refine bW_ ?_|refine bA_ ?_ _));exact BK370.out) NB370_0.out (by simp));have n1_:=aM_ (Kd.R_mono (Kd.R_keep (IsS146.apart (show IsS146 w0 _ g s0_0 t383 t384 from by repeat (first|(with_reducible first|exact HI0.out|apply yA_|apply yN_|apply yW_|apply y1_|apply y2_|refine yF_ ?_ NB0_370.out _|refine yF_ ?_ NB0_385.out _)|exact HI0.out)) (by (with_reducible repeat (first|apply rA_|apply rN_|apply rW_));exact HO376.out) (by decide)) hk (fun _ h=>h.2)) (fun _ h=>h.1));have n2_:=aM_ (Kd.R_mono (Kd.R_keep (IsS146.apart (show IsS146 w0 _ g s0_0 t383 t384 from by repeat (first|(with_reducible first|exact HI0.out|apply yA_|apply yN_|apply yW_|apply y1_|apply y2_|refine yF_ ?_ NB0_370.out _|refine yF_ ?_ NB0_385.out _)|exact HI0.out)) (by (with_reducible repeat (first|apply rA_|apply rN_|apply rW_));exact HO379.out) (by decide)) hk (fun _ h=>h.2)) (fun _ h=>h.1));have n3_:=aM_ (Kd.R_mono (Kd.R_keep (IsS146.apart (show IsS146 w0 _ g s0_0 t383 t384 from by repeat (first|(with_reducible first|exact HI0.out|apply yA_|apply yN_|apply yW_|apply y1_|apply y2_|refine yF_ ?_ NB0_370.out _|refine yF_ ?_ NB0_385.out _)|exact HI0.out)) (by (with_reducible repeat (first|apply rA_|apply rN_|apply rW_));exact HO382.out) (by decide)) hk (fun _ h=>h.2)) (fun _ h=>h.1));have n4_:=aM_ (KeepBut.blk hk (g':=gb385) (o:=.cells #[.int .i64 t371,.int .i64 t372,.int .i64 t373,.slice Ao134 t374.length co134,.slice Ao135 t377.length co135,.slice Ao136 t380.length co136] 34 (0,0)) (by (with_reducible repeat (first|refine bN_ ?_ _|refine bW_ ?_|refine bA_ ?_ _));exact BK385.out) NB385_0.out (by simp));have n5_:=aM_ (KeepBut.trans (by repeat (first|(with_reducible first|exact HK.out|apply KeepBut.set_|apply kN_|apply keep_drew|apply kA_|refine keep_far ?_ GW370.out _|refine keep_far ?_ GW385.out _)|exact HK.out)) hk (.inl rfl));have n6_:=aM_ (hb);have n7_:=aM_ (hi);clear BK370;clear HO376;clear HO379;clear HO382;clear BK385;clear HK;clear HB;clear HI0;have BK370:=n0_;have HO376:=n1_;have HO379:=n2_;have HO382:=n3_;have BK385:=n4_;have HK:=n5_;have HB:=n6_;have HI0:=n7_;clear n0_ n1_ n2_ n3_ n4_ n5_ n6_ n7_;(try clear hb);(try clear hb2);(try clear hk);(try clear hi);have hcz139_0:w138.cell? ⟨gb385,0,none⟩=some (.int .i64 t371):=(bC_ BK385.out 0).trans rfl;have hcz139_1:w138.cell? ⟨gb385,1,none⟩=some (.int .i64 t372):=(bC_ BK385.out 1).trans rfl;have hcz139_2:w138.cell? ⟨gb385,2,none⟩=some (.int .i64 t373):=(bC_ BK385.out 2).trans rfl;have hcz139_3:w138.cell? ⟨gb385,3,none⟩=some (.slice Ao134 t374.length co134):=(bC_ BK385.out 3).trans rfl;have hcz139_4:w138.cell? ⟨gb385,4,none⟩=some (.slice Ao135 t377.length co135):=(bC_ BK385.out 4).trans rfl;have hcz139_5:w138.cell? ⟨gb385,5,none⟩=some (.slice Ao136 t380.length co136):=(bC_ BK385.out 5).trans rfl;have hfz139_0:=blk_frozen BK385.out 0;have hfz139_1:=blk_frozen BK385.out 1;have hfz139_2:=blk_frozen BK385.out 2;have hfz139_3:=blk_frozen BK385.out 3;have hfz139_4:=blk_frozen BK385.out 4;have hfz139_5:=blk_frozen BK385.out 5;have hnb140:=NB370_0.out;have hnc140:=NB0_370.out;have hcz141_0:w138.cell? ⟨gb370,0,none⟩=some (.int .i64 0):=(bC_ BK370.out 0).trans rfl;have hcz141_1:w138.cell? ⟨gb370,1,none⟩=some (.int .i64 0):=(bC_ BK370.out 1).trans rfl;have hcz141_2:w138.cell? ⟨gb370,2,none⟩=some (.int .i64 0):=(bC_ BK370.out 2).trans rfl;have hcz141_3:w138.cell? ⟨gb370,3,none⟩=some (.slice none 0 0):=(bC_ BK370.out 3).trans rfl;have hcz141_4:w138.cell? ⟨gb370,4,none⟩=some (.slice none 0 0):=(bC_ BK370.out 4).trans rfl;have hcz141_5:w138.cell? ⟨gb370,5,none⟩=some (.slice none 0 0):=(bC_ BK370.out 5).trans rfl;have hfz141_0:=blk_frozen BK370.out 0;have hfz141_1:=blk_frozen BK370.out 1;have hfz141_2:=blk_frozen BK370.out 2;have hfz141_3:=blk_frozen BK370.out 3;have hfz141_4:=blk_frozen BK370.out 4;have hfz141_5:=blk_frozen BK370.out 5))
      refine bodyPost_ret (results_cell_row rfl _ _ gb370 34 #[.int .i64 t371,.int .i64 t372,.int .i64 t373,.slice Ao134 t374.length co134,.slice Ao135 t377.length co135,.slice Ao136 t380.length co136] (0,0) _ rfl (by (with_reducible repeat (first|refine bN_ ?_ _|refine bW_ ?_|refine bA_ ?_ _));refine blk_put (cs:=#[.int .i64 t371,.int .i64 t372,.int .i64 t373,.slice Ao134 t374.length co134,.slice Ao135 t377.length co135,.slice none 0 0]) ?_ 5 _ rfl;(with_reducible repeat (first|refine bN_ ?_ _|refine bW_ ?_|refine bA_ ?_ _));refine blk_put (cs:=#[.int .i64 t371,.int .i64 t372,.int .i64 t373,.slice Ao134 t374.length co134,.slice none 0 0,.slice none 0 0]) ?_ 4 _ rfl;(with_reducible repeat (first|refine bN_ ?_ _|refine bW_ ?_|refine bA_ ?_ _));refine blk_put (cs:=#[.int .i64 t371,.int .i64 t372,.int .i64 t373,.slice none 0 0,.slice none 0 0,.slice none 0 0]) ?_ 3 _ rfl;(with_reducible repeat (first|refine bN_ ?_ _|refine bW_ ?_|refine bA_ ?_ _));refine blk_put (cs:=#[.int .i64 t371,.int .i64 t372,.int .i64 0,.slice none 0 0,.slice none 0 0,.slice none 0 0]) ?_ 2 _ rfl;(with_reducible repeat (first|refine bN_ ?_ _|refine bW_ ?_|refine bA_ ?_ _));refine blk_put (cs:=#[.int .i64 t371,.int .i64 0,.int .i64 0,.slice none 0 0,.slice none 0 0,.slice none 0 0]) ?_ 1 _ rfl;(with_reducible repeat (first|refine bN_ ?_ _|refine bW_ ?_|refine bA_ ?_ _));refine blk_put (cs:=#[.int .i64 0,.int .i64 0,.int .i64 0,.slice none 0 0,.slice none 0 0,.slice none 0 0]) ?_ 0 _ rfl;(with_reducible repeat (first|refine bN_ ?_ _|refine bW_ ?_|refine bA_ ?_ _));exact BK370.out) Try.underlying34 rfl (by kernel_rfl)) rfl ?_
      exact ⟨_,_,_,by first|rfl|(simp [errW_none,errW_some] <;> rfl)|(simp [*,errW_none,errW_some] <;> rfl),by (with_reducible repeat (first|apply rA_|apply rN_|apply rW_));exact Kd.R_mono (rF_ (p:=⟨gb370,5,none⟩) (rF_ (p:=⟨gb370,4,none⟩) (rF_ (p:=⟨gb370,3,none⟩) (rF_ (p:=⟨gb370,2,none⟩) (rF_ (p:=⟨gb370,1,none⟩) (rF_ (p:=⟨gb370,0,none⟩) (Kd.R_types HO376.out BK370.out (by decide)) (fun _ hk=>hk.2) (.int .i64 t371)) (fun _ hk=>hk.2) (.int .i64 t372)) (fun _ hk=>hk.2) (.int .i64 t373)) (fun _ hk=>hk.2) (.slice Ao134 t374.length co134)) (fun _ hk=>hk.2) (.slice Ao135 t377.length co135)) (fun _ hk=>hk.2) (.slice Ao136 t380.length co136)) (fun _ hk=>⟨hk.1.1,hk.1.2⟩),by (with_reducible repeat (first|apply rA_|apply rN_|apply rW_));exact Kd.R_mono (rF_ (p:=⟨gb370,5,none⟩) (rF_ (p:=⟨gb370,4,none⟩) (rF_ (p:=⟨gb370,3,none⟩) (rF_ (p:=⟨gb370,2,none⟩) (rF_ (p:=⟨gb370,1,none⟩) (rF_ (p:=⟨gb370,0,none⟩) (Kd.R_types HO379.out BK370.out (by decide)) (fun _ hk=>hk.2) (.int .i64 t371)) (fun _ hk=>hk.2) (.int .i64 t372)) (fun _ hk=>hk.2) (.int .i64 t373)) (fun _ hk=>hk.2) (.slice Ao134 t374.length co134)) (fun _ hk=>hk.2) (.slice Ao135 t377.length co135)) (fun _ hk=>hk.2) (.slice Ao136 t380.length co136)) (fun _ hk=>⟨hk.1.1,hk.1.2⟩),by (with_reducible repeat (first|apply rA_|apply rN_|apply rW_));exact Kd.R_mono (rF_ (p:=⟨gb370,5,none⟩) (rF_ (p:=⟨gb370,4,none⟩) (rF_ (p:=⟨gb370,3,none⟩) (rF_ (p:=⟨gb370,2,none⟩) (rF_ (p:=⟨gb370,1,none⟩) (rF_ (p:=⟨gb370,0,none⟩) (Kd.R_types HO382.out BK370.out (by decide)) (fun _ hk=>hk.2) (.int .i64 t371)) (fun _ hk=>hk.2) (.int .i64 t372)) (fun _ hk=>hk.2) (.int .i64 t373)) (fun _ hk=>hk.2) (.slice Ao134 t374.length co134)) (fun _ hk=>hk.2) (.slice Ao135 t377.length co135)) (fun _ hk=>hk.2) (.slice Ao136 t380.length co136)) (fun _ hk=>⟨hk.1.1,hk.1.2⟩),by repeat (first|(with_reducible first|exact HI0.out|apply yA_|apply yN_|apply yW_|apply y1_|apply y2_|refine yF_ ?_ NB0_370.out _|refine yF_ ?_ NB0_385.out _)|exact HI0.out),by repeat (first|(with_reducible first|exact HB.out|apply lA_|apply lN_|apply below_drew1|refine bS_ ?_ (IsS146.ge HI0.out)|refine bS_ ?_ GE370.out|refine bS_ ?_ GE385.out)|exact HB.out),by repeat (first|(with_reducible first|exact HK.out|apply KeepBut.set_|apply kN_|apply keep_drew|apply kA_|refine keep_far ?_ GW370.out _|refine keep_far ?_ GW385.out _)|exact HK.out)⟩
end Go.Proofs.Ytomfjhpiemipkaa.PFnOre
end
