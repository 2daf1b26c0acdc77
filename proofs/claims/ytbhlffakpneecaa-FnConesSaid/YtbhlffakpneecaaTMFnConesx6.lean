/- Texts that print.sh has printed for the law FnCones,one function each,put together in one file: contracts of its functions. -/
import Derived.Test.YtbhlffakpneecaaTMFnConesx0
import Derived.Test.YtbhlffakpneecaaTMFnConesx5
section
namespace Go.Proofs.Ytbhlffakpneecaa.PFnCones
open Go.RowKit Go.Proofs.YtbhlffakpneecaaW.PrintWords Go.Proofs.YtbhlffakpneecaaW.PrintLast Go.Proofs.YtbhlffakpneecaaW.PrintMore
attribute [local go_sem] max2_int min2_int max_two min_two max_three min_three max_four min_four   -- for this text's walks alone
set_option linter.unusedVariables false
set_option linter.unusedSimpArgs false
theorem aM6:type_of% @Aside0.mk:=@Aside0.mk
theorem oD6:type_of% @of_decide_eq_true:=@of_decide_eq_true
theorem dT6:type_of% @decide_eq_true:=@decide_eq_true
theorem bI6:type_of% @Option.bind_eq_some_iff.{0,0}:=@Option.bind_eq_some_iff.{0,0}
theorem bL6:type_of% @World.block_lt_of_cell?:=@World.block_lt_of_cell?
theorem bZ6:type_of% @below_size:=@below_size
theorem zsx6_0 {P:Prop} (h:P:=by kernel_rfl):P:=h
theorem zsx6_1 {P:Prop} (h:P:=by (try simp only [List.map_toArray,List.map_cons,List.map_nil]);first|done|rfl|(simp only [List.length_drop,List.length_take];rfl)):P:=h
theorem zsx6_2 {P:Prop} (h:P:=by repeat (first|(with_reducible first|exact HB.out|apply below_alloc|apply pw_below_drewN|apply below_drew1)|exact HB.out)):P:=h
theorem zsx6_3 {P:Prop} (h:P:=by first|rfl|(simp;done)|(simp [*];done)):P:=h
theorem zsx6_4 {P:Prop} (h:P:=by first|(with_reducible assumption)|assumption):P:=h
theorem zsx6_5 {P:Prop} (h:P:=by (with_reducible repeat (first|apply Kd.R_alloc|apply Kd.R_drewN|apply Kd.R_drew));exact HO_5.out):P:=h
theorem zsx6_6 {P:Prop} (h:P:=by have:=HK1.out;have:=HK2.out;omega):P:=h
theorem zsx6_7 {P:Prop} (h:P:=by (try simp only [hl5_2]);(with_reducible repeat (first|apply Kd.R_alloc|apply Kd.R_drewN|apply Kd.R_drew));exact HO_5.out):P:=h
theorem zsx6_8 {P:Prop} (h:P:=by have:=HK1.out;omega):P:=h
theorem zsx6_9 {P:Prop} (h:P:=by first|rfl|(simp [errW_none,errW_some] <;> rfl)|(simp [*,errW_none,errW_some] <;> rfl)):P:=h
theorem zsx6_10 {P:Prop} (h:P:=by first|omega|exact Nat.le_refl _):P:=h
theorem zsx6_11 {P:Prop} (h:P:=by first|exact Kd.R_nil _ _ _ _ _|exact Kd.N_nil _ _ _ _ _|exact Kd.V_nil _ _ _ _ _|exact Kd.Q_nil _ _ _ _ _|exact Kd.S_nil _ _ _ _ _):P:=h
theorem zsx6_12 {P:Prop} (h:P:=by (with_reducible repeat (first|apply Kd.R_alloc|apply Kd.R_drewN|apply Kd.R_drew));exact HO402.out):P:=h
theorem zsx6_13 {P:Prop} (h:P:=by repeat (first|exact Drawn0.refl _|apply Drawn0.step)):P:=h
theorem zsx6_14 {P:Prop} (h:P:=by (with_reducible repeat (first|apply Kd.R_alloc|apply Kd.R_drewN|apply Kd.R_drew));exact HO_3.out):P:=h
theorem zsx6_15 {P:Prop} (h:P:=by (with_reducible repeat (first|apply Kd.R_alloc|apply Kd.R_drewN|apply Kd.R_drew));exact HO_6.out):P:=h
theorem zsx6_16 {P:Prop} (h:P:=by repeat (first|exact HR1.out|(with_reducible refine Kd.C_alloc ?_ _)|(with_reducible refine Kd.C_drewN ?_ _)|(with_reducible refine Kd.C_drew ?_))):P:=h
theorem zsx6_17 {P:Prop} (h:P:=by first|(go_simp;done)|(go_simp;rfl)):P:=h
theorem zsx6_18 {P:Prop} (h:P:=by repeat (first|exact (Kd.C_below HR0.out HB.out)|(with_reducible refine Kd.C_alloc ?_ _)|(with_reducible refine Kd.C_drewN ?_ _)|(with_reducible refine Kd.C_drew ?_))):P:=h
theorem zsx6_19 {P:Prop} (h:P:=by repeat (first|exact HR412_0.out|(with_reducible refine Kd.C_alloc ?_ _)|(with_reducible refine Kd.C_drewN ?_ _)|(with_reducible refine Kd.C_drew ?_))):P:=h
theorem zsx6_20 {P:Prop} (h:P:=by repeat (first|exact HR0.out|(with_reducible refine Kd.C_alloc ?_ _)|(with_reducible refine Kd.C_drewN ?_ _)|(with_reducible refine Kd.C_drew ?_))):P:=h
theorem zsx6_21 {P:Prop} (h:P:=by repeat (first|exact (Kd.R_reads' HO_5.out).2.2|(with_reducible refine Kd.C_alloc ?_ _)|(with_reducible refine Kd.C_drewN ?_ _)|(with_reducible refine Kd.C_drew ?_))):P:=h
theorem zsx6_22 {P:Prop} (h:P:=by repeat (first|exact (Kd.C_below HR490_0.out HB.out)|(with_reducible refine Kd.C_alloc ?_ _)|(with_reducible refine Kd.C_drewN ?_ _)|(with_reducible refine Kd.C_drew ?_))):P:=h
mutual
def impl_closureOf.l0:Nat→List (List Int)→List Bool→Int→Option (List Bool)
 | 0,_,_,_=>none
 | k + 1,x0,x5,x6=>if x6 ≥ 0 then (if 0≤x6 then (if x6 < (x5.length:Int) then (if rdOf false x5 x6=true then (if x6 < (x0.length:Int) then (impl_closureOf.l1 k x0 x5 x6 (rd_L5 x0 x6) ((rd_L5 x0 x6).length:Int) 0) else (none)) else (impl_closureOf.l0 k x0 x5 (wrap64 (x6 - 1)))) else (none)) else (none)) else (some x5)
def impl_closureOf.l1:Nat→List (List Int)→List Bool→Int→List Int→Int→Int→Option (List Bool)
 | 0,_,_,_,_,_,_=>none
 | k + 1,x0,x5,x6,x28,x29,x30=>if x30 < x29 then (if 0≤x30 then (if x30 < (x28.length:Int) then (if 0≤(rd x28 x30) then (if (rd x28 x30) < (x5.length:Int) then (impl_closureOf.l1 k x0 (x5.set ((rd x28 x30):Int).toNat true) x6 x28 x29 (wrap64 (x30 + 1))) else (none)) else (none)) else (none)) else (none)) else (impl_closureOf.l0 k x0 x5 (wrap64 (x6 - 1)))
end
def impl_closureOf.f (k:Nat) (l0:List (List Int)) (l1:List Int):Option (List Bool):=(impl_markOf.f k (l0.length:Int) l1).bind fun t392=>(impl_closureOf.l0 k l0 t392 (wrap64 ((l0.length:Int) - 1)))
set_option maxHeartbeats 8000000 in
set_option maxRecDepth 100000 in
theorem impl_closureOf.calls (k:Nat) (A0:Option Addr) (c0:Nat) (l0:List (List Int)) (A1:Option Addr) (c1:Nat) (l1:List Int) (r:List Bool) (w:World) (hr0:Kd.C (Kd.slice 3 (Kd.int .i64)) w A0 l0.length l0) (hc0:l0.length≤c0) (hr1:Kd.C (Kd.int .i64) w A1 l1.length l1) (hc1:l1.length≤c1) (h:impl_closureOf.f k l0 l1=some r) :
  Calls Try.prog 55 #[.slice A0 l0.length c0,.slice A1 l1.length c1] w fun e w'=>∃ v0_:Value,e=.returned (v0_)∧Kd.R Kd.bool 4 w' w.heap.size (fun _=>True) v0_ r∧Below w.heap.size w w':=by
 have HR0:=aM6 hr0
 have HC0:=aM6 hc0
 clear hr0 hc0
 have HR1:=aM6 hr1
 have HC1:=aM6 hc1
 clear hr1 hc1
 have HB:=aM6 (Below.refl w.heap.size w)
 have H:((impl_markOf.f k (l0.length:Int) l1).bind fun t392=>(impl_closureOf.l0 k l0 t392 (wrap64 ((l0.length:Int) - 1))))=some r:=h
 clear h
 replace H:=bI6.mp H
 obtain ⟨t392,A30,H⟩:=H
 replace H:(impl_closureOf.l0 k l0 t392 (wrap64 ((l0.length:Int) - 1)))=some r:=H
 have A3:=aM6 A30
 clear A30
 have H':=aM6 H
 clear H
 go_enter Try.func55,Try.ntmps55
 go_wp2_with (first|((with_reducible refine gate_callee (f:=81) rfl ?_);refine goesL_ (some 12) rfl rfl Try.func81 (zsx6_0) rfl #[.int .i64 (l0.length:Int),.slice A1 l1.length c1] rfl (zsx6_1) ?_;(with_reducible refine (impl_markOf.calls k (l0.length:Int) _ _ l1 t392 _ ?side1 ?side2 A3.out).mono ?_);(case side1=>exact zsx6_16);(case side2=>exact HC1.out);rintro e w4 ⟨v393,rfl,ho0,hb⟩;refine ⟨_,rfl,?_⟩;have n0_:=aM6 (Kd.R_lower ho0 (bZ6 (zsx6_2)));have n1_:=aM6 (below_step (zsx6_2) hb);clear HB;have HO394:=n0_;have HB:=n1_;clear n0_ n1_;(try clear hb);(try clear hb2);(try clear hk);(try clear hi);(try clear ho0)))
 go_loopg [6] k (fun kq v6 w'=>∃ (x5_1:List Bool) (x6_1:Int),v6=.int .i64 x6_1∧Aside0 (impl_closureOf.l0 kq l0 x5_1 x6_1=some r)∧Aside0 (kq≤k)∧Aside0 (Kd.R Kd.bool 4 w' w.heap.size (fun _=>True) v393 x5_1)∧Aside0 (Below w.heap.size w w'))
 case atStart=>exact ⟨(t392),(wrap64 ((l0.length:Int) - 1)),(zsx6_3),H',⟨Nat.le_refl _⟩,⟨by (with_reducible repeat (first|apply Kd.R_alloc|apply Kd.R_drewN|apply Kd.R_drew));exact HO394.out⟩,⟨zsx6_2⟩⟩
 case round =>
  clear H'
  try clear c1
  try clear p2
  obtain ⟨x5_1,x6_1,rfl,HA,HK1,HO_5,HB⟩:=hrel
  cases gk with
  | zero=>exact absurd HA.out (by simp [impl_closureOf.l0])
  | succ k1 =>
   have H:=HA.out
   clear HA
   simp only [impl_closureOf.l0] at H
   by_cases c5:x6_1 ≥ 0
   ·rw [if_pos c5] at H
    have c5b0:decide (0≤x6_1)=true:=dT6 c5
    clear c5
    by_cases c6:0≤x6_1
    ·rw [if_pos c6] at H
     have c6b0:decide (0≤x6_1)=true:=dT6 c6
     clear c6
     by_cases c7:x6_1 < (x5_1.length:Int)
     ·rw [if_pos c7] at H
      have c7b0:decide (x6_1 < (x5_1.length:Int))=true:=dT6 c7
      clear c7
      obtain ⟨bq8,hbq8⟩:∃ b_:Bool,b_=(rdOf false x5_1 x6_1):=⟨_,rfl⟩
      replace H:(if bq8=true then (if x6_1 < (l0.length:Int) then (impl_closureOf.l1 k1 l0 x5_1 x6_1 (rd_L5 l0 x6_1) ((rd_L5 l0 x6_1).length:Int) 0) else (none)) else (impl_closureOf.l0 k1 l0 x5_1 (wrap64 (x6_1 - 1))))=some r:=by rw [← hbq8] at H;exact H
      have Nbq8:=aM6 hbq8
      clear hbq8
      by_cases c9:bq8=true
      ·subst c9
       have H1:(if x6_1 < (l0.length:Int) then (impl_closureOf.l1 k1 l0 x5_1 x6_1 (rd_L5 l0 x6_1) ((rd_L5 l0 x6_1).length:Int) 0) else (none))=some r:=by rw [if_pos rfl] at H;exact H
       clear H
       have H:=H1
       clear H1
       by_cases c10:x6_1 < (l0.length:Int)
       ·rw [if_pos c10] at H
        have c10b0:decide (x6_1 < (l0.length:Int))=true:=dT6 c10
        clear c10
        have H':=aM6 H
        clear H
        obtain ⟨Ao11,co11,eo11⟩:=Kd.R_slice HO_5.out
        subst eo11
        have p395:0≤(x6_1:Int):=oD6 (zsx6_4)
        have q395:x6_1 < (x5_1.length:Int):=oD6 (zsx6_4)
        obtain ⟨ad395,e395,hx395_0⟩:=Kd.at_bool (Kd.R_reads' HO_5.out).2.2 x6_1 p395 q395
        (try rw [← Nbq8.out] at hx395_0)
        cases e395
        replace p395:=eq_true p395
        replace q395:=eq_true q395
        have p396:0≤(x6_1:Int):=oD6 (zsx6_4)
        have q396:x6_1 < (l0.length:Int):=oD6 (zsx6_4)
        obtain ⟨ad396,A396_0,c396_0,e396,hx396_0,hl396_0,hi396_0⟩:=at_L5 HR0.out x6_1 p396 q396
        cases e396
        replace hx396_0:=(HB.out.cell (bL6 w _ hx396_0)).trans hx396_0
        have HR396_0:=aM6 hi396_0
        have HC396_0:=aM6 hl396_0
        clear hi396_0 hl396_0
        replace p396:=eq_true p396
        replace q396:=eq_true q396
        go_wp2
        go_loopg [30] k1 (fun kq v30 w'=>∃ (x5_2:List Bool) (x30_2:Int),v30=.int .i64 x30_2∧Aside0 (impl_closureOf.l1 kq l0 x5_2 x6_1 (rd_L5 l0 x6_1) ((rd_L5 l0 x6_1).length:Int) x30_2=some r)∧Aside0 (kq≤k1)∧Aside0 (Kd.R Kd.bool 4 w' w.heap.size (fun _=>True) (.slice (some ad395) x5_1.length co11) x5_2)∧Aside0 (Below w.heap.size w w'))
        case atStart=>exact ⟨(x5_1),(0),(zsx6_3),H',⟨Nat.le_refl _⟩,⟨zsx6_5⟩,⟨zsx6_2⟩⟩
        case round =>
         clear H'
         try clear c1
         try clear p2
         try clear c3
         try clear p3
         try clear q3
         try clear hx3
         try clear c5
         try clear c5b0
         try clear c6
         try clear c6b0
         try clear p6
         try clear c7
         try clear c7b0
         try clear c8
         try clear q8
         try clear c9
         try clear c10
         try clear c10b0
         try clear hx395_0
         try clear hx396_0
         try clear p2
         try clear p395
         try clear p396
         try clear q395
         try clear q396
         obtain ⟨x5_2,x30_2,rfl,HA,HK2,HO_5,HB⟩:=hrel
         have hl5_2:=(Kd.R_reads' HO_5.out).1
         rw [hl5_2] at HO_5
         (try simp only [hl5_2])
         cases gk with
         | zero=>exact absurd HA.out (by simp [impl_closureOf.l1])
         | succ k2 =>
          have H:=HA.out
          clear HA
          simp only [impl_closureOf.l1] at H
          by_cases c12:x30_2 < ((rd_L5 l0 x6_1).length:Int)
          ·rw [if_pos c12] at H
           have c12b0:decide (x30_2 < ((rd_L5 l0 x6_1).length:Int))=true:=dT6 c12
           clear c12
           by_cases c13:0≤x30_2
           ·rw [if_pos c13] at H
            have c13b0:decide (0≤x30_2)=true:=dT6 c13
            clear c13
            by_cases c14:x30_2 < ((rd_L5 l0 x6_1).length:Int)
            ·rw [if_pos c14] at H
             have c14b0:decide (x30_2 < ((rd_L5 l0 x6_1).length:Int))=true:=dT6 c14
             clear c14
             by_cases c15:0≤(rd (rd_L5 l0 x6_1) x30_2)
             ·rw [if_pos c15] at H
              have c15b0:decide (0≤(rd (rd_L5 l0 x6_1) x30_2))=true:=dT6 c15
              clear c15
              by_cases c16:(rd (rd_L5 l0 x6_1) x30_2) < (x5_2.length:Int)
              ·rw [if_pos c16] at H
               have c16b0:decide ((rd (rd_L5 l0 x6_1) x30_2) < (x5_2.length:Int))=true:=dT6 c16
               clear c16
               obtain ⟨y398,hy398⟩:∃ y_:List Bool,y_=(x5_2.set ((rd (rd_L5 l0 x6_1) x30_2):Int).toNat true):=⟨_,rfl⟩
               replace H:(impl_closureOf.l1 k2 l0 y398 x6_1 (rd_L5 l0 x6_1) ((rd_L5 l0 x6_1).length:Int) (wrap64 (x30_2 + 1)))=some r:=by first|(rw [hy398];with_reducible exact H)|(have H2_:=(Option.bind_some _ _).symm.trans H;rw [hy398];with_reducible exact H2_)|(have H2_:=(Option.bind_some _ _).symm.trans H;with_reducible exact H2_)|with_reducible exact H|(rw [hy398];exact H)|exact H
               have Ny398:=aM6 hy398
               clear hy398
               have H':=aM6 H
               clear H
               have p397:0≤(x30_2:Int):=oD6 (zsx6_4)
               have q397:x30_2 < ((rd_L5 l0 x6_1).length:Int):=oD6 (zsx6_4)
               obtain ⟨ad397,e397,hx397_0⟩:=Kd.at_int HR396_0.out x30_2 p397 q397
               cases e397
               replace hx397_0:=(HB.out.cell (bL6 w _ hx397_0)).trans hx397_0
               replace p397:=eq_true p397
               replace q397:=eq_true q397
               have p17:0≤((rd (rd_L5 l0 x6_1) x30_2):Int):=oD6 (zsx6_4)
               have q17:((rd (rd_L5 l0 x6_1) x30_2):Int) < ((x5_2.length:Int):Int):=oD6 (zsx6_4)
               obtain ⟨go17,co17,eo17,gb17,gl17,cl17,HG17⟩:=Kd.R_form HO_5.out (by omega)
               (first|cases eo17|(injection eo17 with ea_ en_ ec_;(first|subst ea_|(injection ea_ with ea_;subst ea_));subst ec_;clear en_))
               have GB17:=aM6 gb17
               have GG17:=aM6 HG17
               clear gb17 gl17 HG17
               (first|simp only [add_plain] at hx395_0|skip)
               obtain ⟨hx17_0,hf17_0⟩:=Kd.R_celln false HO_5.out ((rd (rd_L5 l0 x6_1) x30_2):Int) p17 q17
               replace p17:=eq_true p17
               replace q17:=eq_true q17
               have HP18:=Kd.R_putg HO_5.out ((rd (rd_L5 l0 x6_1) x30_2):Int) true
               go_wp2_with (first|((with_reducible refine gate_store (t:=4) (p:=36) rfl ?_);refine store_event (t:=4) (p:=36) (v:=?vo_w19) (w1:=(wr.setCell ⟨go17,((rd (rd_L5 l0 x6_1) x30_2):Int).toNat,none⟩ (.bool true))) ?hg ?ho ?hn ?hr ?_;(case ho=>rfl);(case hg=>rfl);(case hn=>rfl);(case hr=>exact zsx6_17);intro w19 hw;have hg:wr.grownBy w19 (some go17):=(by rw [hw];exact HP18.2);have hp_:Kd.R Kd.bool 4 w19 w.heap.size (fun _=>True) (.slice (some ⟨go17,0,none⟩) x5_2.length co11) y398:=(by rw [hw,Ny398.out];exact HP18.1);clear HP18;have n0_:=aM6 (hp_);have n1_:=aM6 ((by rw [hw];exact below_set (HB.out) GB17.out:Below w.heap.size w w19));clear HO_5 HB;have HO_5:=n0_;have HB:=n1_;clear n0_ n1_ hg hw hp_))
               (try simp only [← hl5_2])
               go_roundg k2
               case measure=>have:=HK1.out;have:=HK2.out;omega
               case rel=>exact ⟨(y398),(wrap64 (x30_2 + 1)),(zsx6_3),H',⟨zsx6_6⟩,⟨zsx6_7⟩,⟨zsx6_2⟩⟩
              ·rw [if_neg c16] at H
               exact absurd H (by simp)
             ·rw [if_neg c15] at H
              exact absurd H (by simp)
            ·rw [if_neg c14] at H
             exact absurd H (by simp)
           ·rw [if_neg c13] at H
            exact absurd H (by simp)
          ·rw [if_neg c12] at H
           have c12b0:decide (x30_2 < ((rd_L5 l0 x6_1).length:Int))=false:=decide_eq_false c12
           clear c12
           have H':=aM6 H
           clear H
           go_wp2
           (try simp only [← hl5_2])
           go_roundg k2
           case measure=>have:=HK1.out;have:=HK2.out;omega
           case rel=>exact ⟨(x5_2),(wrap64 (x6_1 - 1)),(zsx6_3),H',⟨zsx6_6⟩,⟨zsx6_7⟩,⟨zsx6_2⟩⟩
       ·rw [if_neg c10] at H
        exact absurd H (by simp)
      ·replace c9:=Bool.eq_false_iff.mpr c9
       subst c9
       have H1:(impl_closureOf.l0 k1 l0 x5_1 (wrap64 (x6_1 - 1)))=some r:=by rw [if_neg (show ¬ (false=true) by decide)] at H;exact H
       clear H
       have H:=H1
       clear H1
       have H':=aM6 H
       clear H
       obtain ⟨Ao20,co20,eo20⟩:=Kd.R_slice HO_5.out
       subst eo20
       have p395:0≤(x6_1:Int):=oD6 (zsx6_4)
       have q395:x6_1 < (x5_1.length:Int):=oD6 (zsx6_4)
       obtain ⟨ad395,e395,hx395_0⟩:=Kd.at_bool (Kd.R_reads' HO_5.out).2.2 x6_1 p395 q395
       (try rw [← Nbq8.out] at hx395_0)
       cases e395
       replace p395:=eq_true p395
       replace q395:=eq_true q395
       go_wp2
       go_roundg k1
       case measure=>have:=HK1.out;omega
       case rel=>exact ⟨(x5_1),(wrap64 (x6_1 - 1)),(zsx6_3),H',⟨zsx6_8⟩,⟨zsx6_5⟩,⟨zsx6_2⟩⟩
     ·rw [if_neg c7] at H
      exact absurd H (by simp)
    ·rw [if_neg c6] at H
     exact absurd H (by simp)
   ·rw [if_neg c5] at H
    have c5b0:decide (0≤x6_1)=false:=decide_eq_false c5
    clear c5
    obtain rfl:=Option.some.inj H
    go_wp2
    go_ret
    exact ⟨_,zsx6_9,zsx6_5,zsx6_2⟩
def impl_ConeOf.j0:Nat→List (List Int)→Int→Bool→Option (List Int × Bool)
 | 0,_,_,_=>none
 | k + 1,x0,x1,x18=>if x18=true then (some (([]:List Int),false)) else ((impl_closureOf.f k x0 (([x1]:List Int))).bind fun t403=>((impl_listOf.f k t403).bind fun t406=>(some (t406,true))))
def impl_ConeOf.f (k:Nat) (l0:List (List Int)) (a1:Int):Option (List Int × Bool):=(impl_AreArcs.f k l0).bind fun t399=>(if t399=true then (if a1 < 0 then (impl_ConeOf.j0 k l0 a1 true) else (impl_ConeOf.j0 k l0 a1 (decide (a1 ≥ (l0.length:Int))))) else (impl_ConeOf.j0 k l0 a1 true))
set_option maxHeartbeats 8000000 in
set_option maxRecDepth 100000 in
theorem impl_ConeOf.calls (k:Nat) (A0:Option Addr) (c0:Nat) (l0:List (List Int)) (a1:Int) (r1:List Int) (r2:Bool) (w:World) (hr0:Kd.C (Kd.slice 3 (Kd.int .i64)) w A0 l0.length l0) (hc0:l0.length≤c0) (h:impl_ConeOf.f k l0 a1=some (r1,r2)) :
  Calls Try.prog 13 #[.slice A0 l0.length c0,.int .i64 a1] w fun e w'=>∃ v0_:Value,e=.returned (.tuple #[v0_,.bool r2])∧Kd.R (Kd.int .i64) 3 w' w.heap.size (fun _=>True) v0_ r1∧Below w.heap.size w w':=by
 have HR0:=aM6 hr0
 have HC0:=aM6 hc0
 clear hr0 hc0
 have HB:=aM6 (Below.refl w.heap.size w)
 have H:((impl_AreArcs.f k l0).bind fun t399=>(if t399=true then (if a1 < 0 then (impl_ConeOf.j0 k l0 a1 true) else (impl_ConeOf.j0 k l0 a1 (decide (a1 ≥ (l0.length:Int))))) else (impl_ConeOf.j0 k l0 a1 true)))=some (r1,r2):=h
 clear h
 have HC3:=aM6 H
 clear H
 go_enter Try.func13,Try.ntmps13
 go_upto_region 1 with (fail)
 go_cut [18] (fun v18 wc=>∃ (kq:Nat) (x18_2:Bool),v18=.bool x18_2∧Aside0 (impl_ConeOf.j0 kq l0 a1 x18_2=some (r1,r2))∧Aside0 (kq≤k)∧Aside0 (Below w.heap.size w wc))
 case first =>
  have H:=HC3.out
  clear HC3
  replace H:=bI6.mp H
  obtain ⟨t399,A40,H⟩:=H
  replace H:(if t399=true then (if a1 < 0 then (impl_ConeOf.j0 k l0 a1 true) else (impl_ConeOf.j0 k l0 a1 (decide (a1 ≥ (l0.length:Int))))) else (impl_ConeOf.j0 k l0 a1 true))=some (r1,r2):=H
  have A4:=aM6 A40
  clear A40
  by_cases c5:t399=true
  ·subst c5
   have H1:(if a1 < 0 then (impl_ConeOf.j0 k l0 a1 true) else (impl_ConeOf.j0 k l0 a1 (decide (a1 ≥ (l0.length:Int)))))=some (r1,r2):=by rw [if_pos rfl] at H;exact H
   clear H
   have H:=H1
   clear H1
   by_cases c6:a1 < 0
   ·rw [if_pos c6] at H
    have c6b0:decide (a1 < 0)=true:=dT6 c6
    clear c6
    (first|rw [c6b0]|(simp only [i64_w,i32_w];rw [c6b0])|skip)
    have H':=aM6 H
    clear H
    go_wp2_with (first|((with_reducible refine gate_callee (f:=18) rfl ?_);refine goesL_ (some 7) rfl rfl Try.func18 (zsx6_0) rfl #[.slice A0 l0.length c0] rfl (zsx6_1) ?_;(with_reducible refine (impl_AreArcs.calls k _ _ l0 true _ ?side1 ?side2 A4.out).mono ?_);(case side1=>exact zsx6_18);(case side2=>exact HC0.out);rintro e w' ⟨rfl,⟨nd,rfl⟩⟩;refine ⟨_,rfl,?_⟩))
    go_meet
    case rel=>exact ⟨_,(true),(zsx6_3),H',⟨zsx6_10⟩,⟨zsx6_2⟩⟩
   ·rw [if_neg c6] at H
    have c6b0:decide (a1 < 0)=false:=decide_eq_false c6
    clear c6
    (first|rw [c6b0]|(simp only [i64_w,i32_w];rw [c6b0])|skip)
    have H':=aM6 H
    clear H
    go_wp2_with (first|((with_reducible refine gate_callee (f:=18) rfl ?_);refine goesL_ (some 7) rfl rfl Try.func18 (zsx6_0) rfl #[.slice A0 l0.length c0] rfl (zsx6_1) ?_;(with_reducible refine (impl_AreArcs.calls k _ _ l0 true _ ?side1 ?side2 A4.out).mono ?_);(case side1=>exact zsx6_18);(case side2=>exact HC0.out);rintro e w' ⟨rfl,⟨nd,rfl⟩⟩;refine ⟨_,rfl,?_⟩))
    go_meet
    case rel=>exact ⟨_,(decide (a1 ≥ (l0.length:Int))),(zsx6_3),H',⟨zsx6_10⟩,⟨zsx6_2⟩⟩
  ·replace c5:=Bool.eq_false_iff.mpr c5
   subst c5
   have H1:(impl_ConeOf.j0 k l0 a1 true)=some (r1,r2):=by rw [if_neg (show ¬ (false=true) by decide)] at H;exact H
   clear H
   have H:=H1
   clear H1
   have H':=aM6 H
   clear H
   go_wp2_with (first|((with_reducible refine gate_callee (f:=18) rfl ?_);refine goesL_ (some 7) rfl rfl Try.func18 (zsx6_0) rfl #[.slice A0 l0.length c0] rfl (zsx6_1) ?_;(with_reducible refine (impl_AreArcs.calls k _ _ l0 false _ ?side1 ?side2 A4.out).mono ?_);(case side1=>exact zsx6_18);(case side2=>exact HC0.out);rintro e w' ⟨rfl,⟨nd,rfl⟩⟩;refine ⟨_,rfl,?_⟩))
   go_meet
   case rel=>exact ⟨_,(true),(zsx6_3),H',⟨zsx6_10⟩,⟨zsx6_2⟩⟩
 case rest =>
  clear HC3
  try clear c1
  try clear p2
  try clear c5
  try clear c6
  try clear c6b0
  obtain ⟨kq,x18_2,rfl,HA,HJ2,HB⟩:=hcut
  cases kq with
  | zero=>exact absurd HA.out (by simp [impl_ConeOf.j0])
  | succ kj2 =>
   have H:=HA.out
   clear HA
   simp only [impl_ConeOf.j0] at H
   by_cases c7:x18_2=true
   ·subst c7
    have H1:(some (([]:List Int),false))=some (r1,r2):=by rw [if_pos rfl] at H;exact H
    clear H
    have H:=H1
    clear H1
    simp only [Option.some.injEq,Prod.mk.injEq] at H
    obtain ⟨rfl,rfl⟩:=H
    go_wp2
    go_ret2
    exact ⟨_,zsx6_9,zsx6_11,zsx6_2⟩
   ·replace c7:=Bool.eq_false_iff.mpr c7
    subst c7
    have H1:((impl_closureOf.f kj2 l0 (([a1]:List Int))).bind fun t403=>((impl_listOf.f kj2 t403).bind fun t406=>(some (t406,true))))=some (r1,r2):=by rw [if_neg (show ¬ (false=true) by decide)] at H;exact H
    clear H
    have H:=H1
    clear H1
    obtain ⟨y400,hy400⟩:∃ y_:List Int,y_=(([a1]:List Int)):=⟨_,rfl⟩
    replace H:((impl_closureOf.f kj2 l0 y400).bind fun t403=>((impl_listOf.f kj2 t403).bind fun t406=>(some (t406,true))))=some (r1,r2):=by first|(rw [hy400];with_reducible exact H)|(have H2_:=(Option.bind_some _ _).symm.trans H;rw [hy400];with_reducible exact H2_)|(have H2_:=(Option.bind_some _ _).symm.trans H;with_reducible exact H2_)|with_reducible exact H|(rw [hy400];exact H)|exact H
    have Ny400:=aM6 hy400
    clear hy400
    replace H:=bI6.mp H
    obtain ⟨t403,A80,H⟩:=H
    replace H:((impl_listOf.f kj2 t403).bind fun t406=>(some (t406,true)))=some (r1,r2):=H
    have A8:=aM6 A80
    clear A80
    replace H:=bI6.mp H
    obtain ⟨t406,A90,H⟩:=H
    replace H:(some (t406,true))=some (r1,r2):=H
    have A9:=aM6 A90
    clear A90
    simp only [Option.some.injEq,Prod.mk.injEq] at H
    obtain ⟨rfl,rfl⟩:=H
    go_wp2_with (first|((with_reducible refine gate_dst (N:=21) rfl ?_);(try (refine gate_guard (by rfl) ?_;dsimp only));refine Kd.R_lit (Kd.int .i64) _ 3 ?hg (N:=21) ?hd (xs:=([a1]:List Int)) (inner:=[.int .i64 a1]) (ok:=fun _=>True) (okp:=fun _=>True) ?hr ?hp (fun _ hk=>hk) trivial (Below.refl _ _) (Nat.le_refl _) (by simp) ?_;(case hd=>rfl);(case hg=>rfl);(case hr=>exact zsx6_17);(case hp=>exact (Reps.one (show Kd.M (Kd.int .i64) _ _ _ a1 [.int .i64 a1] from rfl) (Reps.none _ _)));intro v401 w10 ho11 hb hg_ hnew_;clear hg_ hnew_;(first|rw [← Ny400.out] at ho11|(simp only [Int.reduceToNat] at ho11;rw [← Ny400.out] at ho11));have n0_:=aM6 (Kd.R_lower ho11 (bZ6 (zsx6_2)));have n1_:=aM6 (below_step (zsx6_2) hb);clear HB;have HO402:=n0_;have HB:=n1_;clear n0_ n1_ hb ho11;obtain ⟨Ao12,co12,eo12⟩:=Kd.R_slice HO402.out;subst eo12)|((with_reducible refine gate_callee (f:=55) rfl ?_);refine goesL_ (some 22) rfl rfl Try.func55 (zsx6_0) rfl #[.slice A0 l0.length c0,.slice Ao12 y400.length co12] rfl (zsx6_1) ?_;(with_reducible refine (impl_closureOf.calls kj2 _ _ l0 _ _ y400 t403 _ ?side1 ?side2 ?side3 ?side4 A8.out).mono ?_);(case side1=>exact zsx6_18);(case side2=>exact HC0.out);(case side3=>repeat (first|exact (Kd.R_reads' HO402.out).2.2|(with_reducible refine Kd.C_alloc ?_ _)|(with_reducible refine Kd.C_drewN ?_ _)|(with_reducible refine Kd.C_drew ?_)));(case side4=>exact (Kd.R_reads' HO402.out).2.1);rintro e w13 ⟨v404,rfl,ho0,hb⟩;refine ⟨_,rfl,?_⟩;have n0_:=aM6 (Kd.R_below (zsx6_12) hb);have n1_:=aM6 (Kd.R_lower ho0 (bZ6 (zsx6_2)));have n2_:=aM6 (below_step (zsx6_2) hb);clear HO402 HB;have HO402:=n0_;have HO405:=n1_;have HB:=n2_;clear n0_ n1_ n2_;(try clear hb);(try clear hb2);(try clear hk);(try clear hi);(try clear ho0);obtain ⟨Ao14,co14,eo14⟩:=Kd.R_slice HO405.out;subst eo14)|((with_reducible refine gate_callee (f:=54) rfl ?_);refine goesL_ (some 23) rfl rfl Try.func54 (zsx6_0) rfl #[.slice Ao14 t403.length co14] rfl (zsx6_1) ?_;(with_reducible refine (impl_listOf.calls kj2 _ _ t403 t406 _ ?side1 ?side2 A9.out).mono ?_);(case side1=>repeat (first|exact (Kd.R_reads' HO405.out).2.2|(with_reducible refine Kd.C_alloc ?_ _)|(with_reducible refine Kd.C_drewN ?_ _)|(with_reducible refine Kd.C_drew ?_)));(case side2=>exact (Kd.R_reads' HO405.out).2.1);rintro e w15 ⟨v407,rfl,ho0,hb⟩;refine ⟨_,rfl,?_⟩;have n0_:=aM6 (Kd.R_elder' (zsx6_12) (Kd.R_base ho0) hb);have n1_:=aM6 (Kd.R_below (by (with_reducible repeat (first|apply Kd.R_alloc|apply Kd.R_drewN|apply Kd.R_drew));exact HO405.out) hb);have n2_:=aM6 (Kd.R_lower (Kd.R_new' ho0 (Kd.R_lt (zsx6_12))) (bZ6 (zsx6_2)));have n3_:=aM6 (below_step (zsx6_2) hb);clear HO402 HO405 HB;have HO402:=n0_;have HO405:=n1_;have HO408:=n2_;have HB:=n3_;clear n0_ n1_ n2_ n3_;(try clear hb);(try clear hb2);(try clear hk);(try clear hi);(try clear ho0)))
    go_ret2
    exact ⟨_,zsx6_9,by (with_reducible repeat (first|apply Kd.R_alloc|apply Kd.R_drewN|apply Kd.R_drew));exact Kd.R_mono HO408.out (fun _ hk=>trivial),zsx6_2⟩
def spec_l1Rising.l0:Nat→List Int→Int→Int→List Int→Int→Int→Option (Bool)
 | 0,_,_,_,_,_,_=>none
 | k + 1,x0,x1,x2,x9,x10,x11=>if x11 < x10 then (if 0≤x11 then (if x11 < (x9.length:Int) then ((spec_l1In.f (rd x9 x11) x1 x2).bind fun t410=>(if t410=true then (if x11 > 0 then (if 0≤(wrap64 (x11 - 1)) then (if (wrap64 (x11 - 1)) < (x0.length:Int) then (if (rd x0 (wrap64 (x11 - 1))) ≥ (rd x9 x11) then (some false) else (spec_l1Rising.l0 k x0 x1 x2 x9 x10 (wrap64 (x11 + 1)))) else (none)) else (none)) else (spec_l1Rising.l0 k x0 x1 x2 x9 x10 (wrap64 (x11 + 1)))) else (some false))) else (none)) else (none)) else (some true)
def spec_l1Rising.f (k:Nat) (l0:List Int) (a1:Int) (a2:Int):Option (Bool):=spec_l1Rising.l0 k l0 a1 a2 l0 (l0.length:Int) 0
set_option maxHeartbeats 8000000 in
set_option maxRecDepth 100000 in
theorem spec_l1Rising.calls (k:Nat) (A0:Option Addr) (c0:Nat) (l0:List Int) (a1:Int) (a2:Int) (r:Bool) (w:World) (hr0:Kd.C (Kd.int .i64) w A0 l0.length l0) (hc0:l0.length≤c0) (h:spec_l1Rising.f k l0 a1 a2=some r) :
  Calls Try.prog 72 #[.slice A0 l0.length c0,.int .i64 a1,.int .i64 a2] w fun e w'=>e=.returned (.bool r)∧Drawn0 w w':=by
 have HR0:=aM6 hr0
 have HC0:=aM6 hc0
 clear hr0 hc0
 have H:(spec_l1Rising.l0 k l0 a1 a2 l0 (l0.length:Int) 0)=some r:=h
 clear h
 have H':=aM6 H
 clear H
 go_enter Try.func72,Try.ntmps72
 go_wp2
 go_loopg [11] k (fun kq v11 w'=>∃ (x11_1:Int),v11=.int .i64 x11_1∧Aside0 (spec_l1Rising.l0 kq l0 a1 a2 l0 (l0.length:Int) x11_1=some r)∧Aside0 (kq≤k)∧Drawn0 w w')
 case atStart=>exact ⟨(0),(zsx6_3),H',⟨Nat.le_refl _⟩,zsx6_13⟩
 case round =>
  clear H'
  try clear p2
  obtain ⟨x11_1,rfl,HA,HK1,⟨m1,rfl⟩⟩:=hrel
  cases gk with
  | zero=>exact absurd HA.out (by simp [spec_l1Rising.l0])
  | succ k1 =>
   have H:=HA.out
   clear HA
   simp only [spec_l1Rising.l0] at H
   by_cases c4:x11_1 < (l0.length:Int)
   ·rw [if_pos c4] at H
    have c4b0:decide (x11_1 < (l0.length:Int))=true:=dT6 c4
    clear c4
    by_cases c5:0≤x11_1
    ·rw [if_pos c5] at H
     have c5b0:decide (0≤x11_1)=true:=dT6 c5
     clear c5
     by_cases c6:x11_1 < (l0.length:Int)
     ·rw [if_pos c6] at H
      have c6b0:decide (x11_1 < (l0.length:Int))=true:=dT6 c6
      clear c6
      replace H:=bI6.mp H
      obtain ⟨t410,A70,H⟩:=H
      replace H:(if t410=true then (if x11_1 > 0 then (if 0≤(wrap64 (x11_1 - 1)) then (if (wrap64 (x11_1 - 1)) < (l0.length:Int) then (if (rd l0 (wrap64 (x11_1 - 1))) ≥ (rd l0 x11_1) then (some false) else (spec_l1Rising.l0 k1 l0 a1 a2 l0 (l0.length:Int) (wrap64 (x11_1 + 1)))) else (none)) else (none)) else (spec_l1Rising.l0 k1 l0 a1 a2 l0 (l0.length:Int) (wrap64 (x11_1 + 1)))) else (some false))=some r:=H
      have A7:=aM6 A70
      clear A70
      by_cases c8:t410=true
      ·subst c8
       have H1:(if x11_1 > 0 then (if 0≤(wrap64 (x11_1 - 1)) then (if (wrap64 (x11_1 - 1)) < (l0.length:Int) then (if (rd l0 (wrap64 (x11_1 - 1))) ≥ (rd l0 x11_1) then (some false) else (spec_l1Rising.l0 k1 l0 a1 a2 l0 (l0.length:Int) (wrap64 (x11_1 + 1)))) else (none)) else (none)) else (spec_l1Rising.l0 k1 l0 a1 a2 l0 (l0.length:Int) (wrap64 (x11_1 + 1))))=some r:=by rw [if_pos rfl] at H;exact H
       clear H
       have H:=H1
       clear H1
       by_cases c9:x11_1 > 0
       ·rw [if_pos c9] at H
        have c9b0:decide (0 < x11_1)=true:=dT6 c9
        clear c9
        obtain ⟨ji10,hji10⟩:∃ j_:Int,(wrap64 (x11_1 - 1))=j_:=⟨_,rfl⟩
        replace H:(if 0≤(ji10) then (if (ji10) < (l0.length:Int) then (if (rd l0 (ji10)) ≥ (rd l0 x11_1) then (some false) else (spec_l1Rising.l0 k1 l0 a1 a2 l0 (l0.length:Int) (wrap64 (x11_1 + 1)))) else (none)) else (none))=some r:=by first|(rw [hji10] at H;exact H)|(simp only [hji10] at H ⊢;exact H)
        (try rw [hji10] at A7)
        have hji10w:(IntKind.i64.wrap (x11_1 - 1))=ji10:=(i64_w _).trans hji10
        by_cases c11:0≤(ji10)
        ·rw [if_pos c11] at H
         have c11b0:decide (0≤(ji10))=true:=dT6 c11
         clear c11
         by_cases c12:(ji10) < (l0.length:Int)
         ·rw [if_pos c12] at H
          have c12b0:decide ((ji10) < (l0.length:Int))=true:=dT6 c12
          clear c12
          by_cases c13:(rd l0 (ji10)) ≥ (rd l0 x11_1)
          ·rw [if_pos c13] at H
           have c13b0:decide ((rd l0 x11_1)≤(rd l0 (ji10)))=true:=dT6 c13
           clear c13
           obtain rfl:=Option.some.inj H
           have p409:0≤(x11_1:Int):=oD6 (zsx6_4)
           have q409:x11_1 < (l0.length:Int):=oD6 (zsx6_4)
           obtain ⟨ad409,e409,hx409_0⟩:=Kd.at_int HR0.out x11_1 p409 q409
           cases e409
           replace p409:=eq_true p409
           replace q409:=eq_true q409
           go_wp2_with (first|((with_reducible refine gate_callee (f:=70) rfl ?_);refine goesL_ (some 19) rfl rfl Try.func70 (zsx6_0) rfl #[.int .i64 (rd l0 x11_1),.int .i64 a1,.int .i64 a2] rfl (zsx6_1) ?_;(with_reducible refine (spec_l1In.calls (rd l0 x11_1) a1 a2 true _ A7.out).mono ?_);rintro e w' ⟨rfl,⟨nd,rfl⟩⟩;refine ⟨_,rfl,?_⟩;have p411:0≤((ji10):Int):=oD6 (zsx6_4);have q411:(ji10) < (l0.length:Int):=oD6 (zsx6_4);obtain ⟨ad411,e411,hx411_0⟩:=Kd.at_int HR0.out (ji10) p411 q411;obtain rfl:ad409=ad411:=(by injection e411);replace p411:=eq_true p411;replace q411:=eq_true q411))
           go_ret
           exact ⟨by first|rfl|(simp;done)|(simp only [← hji10] <;> (first|rfl|simp))|(simp [*];done),zsx6_13⟩
          ·rw [if_neg c13] at H
           have c13b0:decide ((rd l0 x11_1)≤(rd l0 (ji10)))=false:=decide_eq_false c13
           clear c13
           have H':=aM6 H
           clear H
           have p409:0≤(x11_1:Int):=oD6 (zsx6_4)
           have q409:x11_1 < (l0.length:Int):=oD6 (zsx6_4)
           obtain ⟨ad409,e409,hx409_0⟩:=Kd.at_int HR0.out x11_1 p409 q409
           cases e409
           replace p409:=eq_true p409
           replace q409:=eq_true q409
           go_wp2_with (first|((with_reducible refine gate_callee (f:=70) rfl ?_);refine goesL_ (some 19) rfl rfl Try.func70 (zsx6_0) rfl #[.int .i64 (rd l0 x11_1),.int .i64 a1,.int .i64 a2] rfl (zsx6_1) ?_;(with_reducible refine (spec_l1In.calls (rd l0 x11_1) a1 a2 true _ A7.out).mono ?_);rintro e w' ⟨rfl,⟨nd,rfl⟩⟩;refine ⟨_,rfl,?_⟩;have p411:0≤((ji10):Int):=oD6 (zsx6_4);have q411:(ji10) < (l0.length:Int):=oD6 (zsx6_4);obtain ⟨ad411,e411,hx411_0⟩:=Kd.at_int HR0.out (ji10) p411 q411;obtain rfl:ad409=ad411:=(by injection e411);replace p411:=eq_true p411;replace q411:=eq_true q411))
           go_roundg k1
           case measure=>have:=HK1.out;omega
           case rel=>exact ⟨(wrap64 (x11_1 + 1)),(zsx6_3),H',⟨zsx6_8⟩,zsx6_13⟩
         ·rw [if_neg c12] at H
          exact absurd H (by simp)
        ·rw [if_neg c11] at H
         exact absurd H (by simp)
       ·rw [if_neg c9] at H
        have c9b0:decide (0 < x11_1)=false:=decide_eq_false c9
        clear c9
        have H':=aM6 H
        clear H
        have p409:0≤(x11_1:Int):=oD6 (zsx6_4)
        have q409:x11_1 < (l0.length:Int):=oD6 (zsx6_4)
        obtain ⟨ad409,e409,hx409_0⟩:=Kd.at_int HR0.out x11_1 p409 q409
        cases e409
        replace p409:=eq_true p409
        replace q409:=eq_true q409
        go_wp2_with (first|((with_reducible refine gate_callee (f:=70) rfl ?_);refine goesL_ (some 19) rfl rfl Try.func70 (zsx6_0) rfl #[.int .i64 (rd l0 x11_1),.int .i64 a1,.int .i64 a2] rfl (zsx6_1) ?_;(with_reducible refine (spec_l1In.calls (rd l0 x11_1) a1 a2 true _ A7.out).mono ?_);rintro e w' ⟨rfl,⟨nd,rfl⟩⟩;refine ⟨_,rfl,?_⟩))
        go_roundg k1
        case measure=>have:=HK1.out;omega
        case rel=>exact ⟨(wrap64 (x11_1 + 1)),(zsx6_3),H',⟨zsx6_8⟩,zsx6_13⟩
      ·replace c8:=Bool.eq_false_iff.mpr c8
       subst c8
       have H1:(some false)=some r:=by rw [if_neg (show ¬ (false=true) by decide)] at H;exact H
       clear H
       have H:=H1
       clear H1
       obtain rfl:=Option.some.inj H
       have p409:0≤(x11_1:Int):=oD6 (zsx6_4)
       have q409:x11_1 < (l0.length:Int):=oD6 (zsx6_4)
       obtain ⟨ad409,e409,hx409_0⟩:=Kd.at_int HR0.out x11_1 p409 q409
       cases e409
       replace p409:=eq_true p409
       replace q409:=eq_true q409
       go_wp2_with (first|((with_reducible refine gate_callee (f:=70) rfl ?_);refine goesL_ (some 19) rfl rfl Try.func70 (zsx6_0) rfl #[.int .i64 (rd l0 x11_1),.int .i64 a1,.int .i64 a2] rfl (zsx6_1) ?_;(with_reducible refine (spec_l1In.calls (rd l0 x11_1) a1 a2 false _ A7.out).mono ?_);rintro e w' ⟨rfl,⟨nd,rfl⟩⟩;refine ⟨_,rfl,?_⟩))
       go_ret
       exact ⟨zsx6_3,zsx6_13⟩
     ·rw [if_neg c6] at H
      exact absurd H (by simp)
    ·rw [if_neg c5] at H
     exact absurd H (by simp)
   ·rw [if_neg c4] at H
    have c4b0:decide (x11_1 < (l0.length:Int))=false:=decide_eq_false c4
    clear c4
    obtain rfl:=Option.some.inj H
    go_wp2
    go_ret
    exact ⟨zsx6_3,zsx6_13⟩
def spec_clArcs.l0:Nat→List (List Int)→List (List Int)→Int→Int→Option (Bool)
 | 0,_,_,_,_=>none
 | k + 1,x0,x5,x6,x7=>if x7 < x6 then (if 0≤x7 then (if x7 < (x5.length:Int) then ((spec_l1Rising.f k (rd_L5 x5 x7) 0 (wrap64 (x7 - 1))).bind fun t413=>(if t413=true then (spec_clArcs.l0 k x0 x5 x6 (wrap64 (x7 + 1))) else (some false))) else (none)) else (none)) else ((spec_l1In.f (x0.length:Int) 1 120).bind fun t414=>(some t414))
def spec_clArcs.f (k:Nat) (l0:List (List Int)):Option (Bool):=spec_clArcs.l0 k l0 l0 (l0.length:Int) 0
set_option maxHeartbeats 8000000 in
set_option maxRecDepth 100000 in
theorem spec_clArcs.calls (k:Nat) (A0:Option Addr) (c0:Nat) (l0:List (List Int)) (r:Bool) (w:World) (hr0:Kd.C (Kd.slice 3 (Kd.int .i64)) w A0 l0.length l0) (hc0:l0.length≤c0) (h:spec_clArcs.f k l0=some r) :
  Calls Try.prog 47 #[.slice A0 l0.length c0] w fun e w'=>e=.returned (.bool r)∧Drawn0 w w':=by
 have HR0:=aM6 hr0
 have HC0:=aM6 hc0
 clear hr0 hc0
 have H:(spec_clArcs.l0 k l0 l0 (l0.length:Int) 0)=some r:=h
 clear h
 have H':=aM6 H
 clear H
 go_enter Try.func47,Try.ntmps47
 go_wp2
 go_loopg [7] k (fun kq v7 w'=>∃ (x7_1:Int),v7=.int .i64 x7_1∧Aside0 (spec_clArcs.l0 kq l0 l0 (l0.length:Int) x7_1=some r)∧Aside0 (kq≤k)∧Drawn0 w w')
 case atStart=>exact ⟨(0),(zsx6_3),H',⟨Nat.le_refl _⟩,zsx6_13⟩
 case round =>
  clear H'
  obtain ⟨x7_1,rfl,HA,HK1,⟨m1,rfl⟩⟩:=hrel
  cases gk with
  | zero=>exact absurd HA.out (by simp [spec_clArcs.l0])
  | succ k1 =>
   have H:=HA.out
   clear HA
   simp only [spec_clArcs.l0] at H
   by_cases c2:x7_1 < (l0.length:Int)
   ·rw [if_pos c2] at H
    have c2b0:decide (x7_1 < (l0.length:Int))=true:=dT6 c2
    clear c2
    by_cases c3:0≤x7_1
    ·rw [if_pos c3] at H
     have c3b0:decide (0≤x7_1)=true:=dT6 c3
     clear c3
     by_cases c4:x7_1 < (l0.length:Int)
     ·rw [if_pos c4] at H
      have c4b0:decide (x7_1 < (l0.length:Int))=true:=dT6 c4
      clear c4
      replace H:=bI6.mp H
      obtain ⟨t413,A50,H⟩:=H
      replace H:(if t413=true then (spec_clArcs.l0 k1 l0 l0 (l0.length:Int) (wrap64 (x7_1 + 1))) else (some false))=some r:=H
      have A5:=aM6 A50
      clear A50
      by_cases c6:t413=true
      ·subst c6
       have H1:(spec_clArcs.l0 k1 l0 l0 (l0.length:Int) (wrap64 (x7_1 + 1)))=some r:=by rw [if_pos rfl] at H;exact H
       clear H
       have H:=H1
       clear H1
       have H':=aM6 H
       clear H
       have p412:0≤(x7_1:Int):=oD6 (zsx6_4)
       have q412:x7_1 < (l0.length:Int):=oD6 (zsx6_4)
       obtain ⟨ad412,A412_0,c412_0,e412,hx412_0,hl412_0,hi412_0⟩:=at_L5 HR0.out x7_1 p412 q412
       cases e412
       have HR412_0:=aM6 hi412_0
       have HC412_0:=aM6 hl412_0
       clear hi412_0 hl412_0
       replace p412:=eq_true p412
       replace q412:=eq_true q412
       go_wp2_with (first|((with_reducible refine gate_callee (f:=72) rfl ?_);refine goesL_ (some 15) rfl rfl Try.func72 (zsx6_0) rfl #[.slice A412_0 (rd_L5 l0 x7_1).length c412_0,.int .i64 0,.int .i64 (wrap64 (x7_1 - 1))] rfl (zsx6_1) ?_;(with_reducible refine (spec_l1Rising.calls k1 _ _ (rd_L5 l0 x7_1) 0 (wrap64 (x7_1 - 1)) true _ ?side1 ?side2 A5.out).mono ?_);(case side1=>exact zsx6_19);(case side2=>exact HC412_0.out);rintro e w' ⟨rfl,⟨nd,rfl⟩⟩;refine ⟨_,rfl,?_⟩))
       go_roundg k1
       case measure=>have:=HK1.out;omega
       case rel=>exact ⟨(wrap64 (x7_1 + 1)),(zsx6_3),H',⟨zsx6_8⟩,zsx6_13⟩
      ·replace c6:=Bool.eq_false_iff.mpr c6
       subst c6
       have H1:(some false)=some r:=by rw [if_neg (show ¬ (false=true) by decide)] at H;exact H
       clear H
       have H:=H1
       clear H1
       obtain rfl:=Option.some.inj H
       have p412:0≤(x7_1:Int):=oD6 (zsx6_4)
       have q412:x7_1 < (l0.length:Int):=oD6 (zsx6_4)
       obtain ⟨ad412,A412_0,c412_0,e412,hx412_0,hl412_0,hi412_0⟩:=at_L5 HR0.out x7_1 p412 q412
       cases e412
       have HR412_0:=aM6 hi412_0
       have HC412_0:=aM6 hl412_0
       clear hi412_0 hl412_0
       replace p412:=eq_true p412
       replace q412:=eq_true q412
       go_wp2_with (first|((with_reducible refine gate_callee (f:=72) rfl ?_);refine goesL_ (some 15) rfl rfl Try.func72 (zsx6_0) rfl #[.slice A412_0 (rd_L5 l0 x7_1).length c412_0,.int .i64 0,.int .i64 (wrap64 (x7_1 - 1))] rfl (zsx6_1) ?_;(with_reducible refine (spec_l1Rising.calls k1 _ _ (rd_L5 l0 x7_1) 0 (wrap64 (x7_1 - 1)) false _ ?side1 ?side2 A5.out).mono ?_);(case side1=>exact zsx6_19);(case side2=>exact HC412_0.out);rintro e w' ⟨rfl,⟨nd,rfl⟩⟩;refine ⟨_,rfl,?_⟩))
       go_ret
       exact ⟨zsx6_3,zsx6_13⟩
     ·rw [if_neg c4] at H
      exact absurd H (by simp)
    ·rw [if_neg c3] at H
     exact absurd H (by simp)
   ·rw [if_neg c2] at H
    have c2b0:decide (x7_1 < (l0.length:Int))=false:=decide_eq_false c2
    clear c2
    replace H:=bI6.mp H
    obtain ⟨t414,A70,H⟩:=H
    replace H:(some t414)=some r:=H
    have A7:=aM6 A70
    clear A70
    obtain rfl:=Option.some.inj H
    go_wp2_with (first|((with_reducible refine gate_callee (f:=70) rfl ?_);refine goesL_ (some 20) rfl rfl Try.func70 (zsx6_0) rfl #[.int .i64 (l0.length:Int),.int .i64 1,.int .i64 120] rfl (zsx6_1) ?_;(with_reducible refine (spec_l1In.calls (l0.length:Int) 1 120 t414 _ A7.out).mono ?_);rintro e w' ⟨rfl,⟨nd,rfl⟩⟩;refine ⟨_,rfl,?_⟩))
    go_ret
    exact ⟨zsx6_3,zsx6_13⟩
def spec_clHas.f (k:Nat) (l0:List (List Int)) (a1:Int):Option (Bool):=(spec_clArcs.f k l0).bind fun t415=>(if t415=true then ((spec_l1In.f a1 0 (wrap64 ((l0.length:Int) - 1))).bind fun t416=>(some t416)) else (some false))
set_option maxHeartbeats 8000000 in
set_option maxRecDepth 100000 in
theorem spec_clHas.calls (k:Nat) (A0:Option Addr) (c0:Nat) (l0:List (List Int)) (a1:Int) (r:Bool) (w:World) (hr0:Kd.C (Kd.slice 3 (Kd.int .i64)) w A0 l0.length l0) (hc0:l0.length≤c0) (h:spec_clHas.f k l0 a1=some r) :
  Calls Try.prog 56 #[.slice A0 l0.length c0,.int .i64 a1] w fun e w'=>e=.returned (.bool r)∧Drawn0 w w':=by
 have HR0:=aM6 hr0
 have HC0:=aM6 hc0
 clear hr0 hc0
 have H:((spec_clArcs.f k l0).bind fun t415=>(if t415=true then ((spec_l1In.f a1 0 (wrap64 ((l0.length:Int) - 1))).bind fun t416=>(some t416)) else (some false)))=some r:=h
 clear h
 replace H:=bI6.mp H
 obtain ⟨t415,A30,H⟩:=H
 replace H:(if t415=true then ((spec_l1In.f a1 0 (wrap64 ((l0.length:Int) - 1))).bind fun t416=>(some t416)) else (some false))=some r:=H
 have A3:=aM6 A30
 clear A30
 by_cases c4:t415=true
 ·subst c4
  have H1:((spec_l1In.f a1 0 (wrap64 ((l0.length:Int) - 1))).bind fun t416=>(some t416))=some r:=by rw [if_pos rfl] at H;exact H
  clear H
  have H:=H1
  clear H1
  replace H:=bI6.mp H
  obtain ⟨t416,A50,H⟩:=H
  replace H:(some t416)=some r:=H
  have A5:=aM6 A50
  clear A50
  obtain rfl:=Option.some.inj H
  go_enter Try.func56,Try.ntmps56
  go_wp2_with (first|((with_reducible refine gate_callee (f:=47) rfl ?_);refine goesL_ (some 6) rfl rfl Try.func47 (zsx6_0) rfl #[.slice A0 l0.length c0] rfl (zsx6_1) ?_;(with_reducible refine (spec_clArcs.calls k _ _ l0 true _ ?side1 ?side2 A3.out).mono ?_);(case side1=>exact zsx6_20);(case side2=>exact HC0.out);rintro e w' ⟨rfl,⟨nd,rfl⟩⟩;refine ⟨_,rfl,?_⟩)|(go_at_call 70;(with_reducible refine (spec_l1In.calls a1 0 (wrap64 ((l0.length:Int) - 1)) t416 _ A5.out).mono ?_);rintro e w' ⟨rfl,⟨nd,rfl⟩⟩))
  go_ret
  exact ⟨zsx6_3,zsx6_13⟩
 ·replace c4:=Bool.eq_false_iff.mpr c4
  subst c4
  have H1:(some false)=some r:=by rw [if_neg (show ¬ (false=true) by decide)] at H;exact H
  clear H
  have H:=H1
  clear H1
  obtain rfl:=Option.some.inj H
  go_enter Try.func56,Try.ntmps56
  go_wp2_with (first|((with_reducible refine gate_callee (f:=47) rfl ?_);refine goesL_ (some 6) rfl rfl Try.func47 (zsx6_0) rfl #[.slice A0 l0.length c0] rfl (zsx6_1) ?_;(with_reducible refine (spec_clArcs.calls k _ _ l0 false _ ?side1 ?side2 A3.out).mono ?_);(case side1=>exact zsx6_20);(case side2=>exact HC0.out);rintro e w' ⟨rfl,⟨nd,rfl⟩⟩;refine ⟨_,rfl,?_⟩))
  go_ret
  exact ⟨zsx6_3,zsx6_13⟩
def spec_clMarks.l0:Nat→List Bool→List Int→Int→Int→Option (List Bool)
 | 0,_,_,_,_=>none
 | k + 1,x5,x10,x11,x12=>if x12 < x11 then (if 0≤x12 then (if x12 < (x10.length:Int) then (if 0≤(rd x10 x12) then (if (rd x10 x12) < (x5.length:Int) then (spec_clMarks.l0 k (x5.set ((rd x10 x12):Int).toNat true) x10 x11 (wrap64 (x12 + 1))) else (none)) else (none)) else (none)) else (none)) else (some x5)
def spec_clMarks.f (k:Nat) (a0:Int) (l1:List Int):Option (List Bool):=if 0≤a0 then (if (a0:Int).toNat≤281474976710656 then (spec_clMarks.l0 k (List.replicate (a0:Int).toNat false) l1 (l1.length:Int) 0) else (none)) else (none)
set_option maxHeartbeats 8000000 in
set_option maxRecDepth 100000 in
theorem spec_clMarks.calls (k:Nat) (a0:Int) (A1:Option Addr) (c1:Nat) (l1:List Int) (r:List Bool) (w:World) (hr1:Kd.C (Kd.int .i64) w A1 l1.length l1) (hc1:l1.length≤c1) (h:spec_clMarks.f k a0 l1=some r) :
  Calls Try.prog 59 #[.int .i64 a0,.slice A1 l1.length c1] w fun e w'=>∃ v0_:Value,e=.returned (v0_)∧Kd.R Kd.bool 4 w' w.heap.size (fun _=>True) v0_ r∧Below w.heap.size w w':=by
 have HR1:=aM6 hr1
 have HC1:=aM6 hc1
 clear hr1 hc1
 have HB:=aM6 (Below.refl w.heap.size w)
 have H:(if 0≤a0 then (if (a0:Int).toNat≤281474976710656 then (spec_clMarks.l0 k (List.replicate (a0:Int).toNat false) l1 (l1.length:Int) 0) else (none)) else (none))=some r:=h
 clear h
 by_cases c3:0≤a0
 ·rw [if_pos c3] at H
  have c3b0:=eq_true c3
  have c3b1:decide (0≤a0)=true:=dT6 c3
  clear c3
  by_cases c4:(a0:Int).toNat≤281474976710656
  ·rw [if_pos c4] at H
   have c4b0:=eq_true c4
   have c4b1:decide ((a0:Int).toNat≤281474976710656)=true:=dT6 c4
   clear c4
   obtain ⟨y417,hy417⟩:∃ y_:List Bool,y_=(List.replicate (a0:Int).toNat false):=⟨_,rfl⟩
   replace H:(spec_clMarks.l0 k y417 l1 (l1.length:Int) 0)=some r:=by first|(rw [hy417];with_reducible exact H)|(have H2_:=(Option.bind_some _ _).symm.trans H;rw [hy417];with_reducible exact H2_)|(have H2_:=(Option.bind_some _ _).symm.trans H;with_reducible exact H2_)|with_reducible exact H|(rw [hy417];exact H)|exact H
   have Ny417:=aM6 hy417
   clear hy417
   have H':=aM6 H
   clear H
   go_enter Try.func59,Try.ntmps59
   go_wp2_with (first|((with_reducible refine gate_dst (N:=9) rfl ?_);refine Kd.R_make Kd.bool _ 4 rfl (N:=9) rfl 55 _ _ rfl a0 rfl rfl Try.underlying55 (.bool false) 1 info4 rfl (by decide) (by omega) false (ok:=fun _=>True) (okp:=fun _=>True) rfl (fun _ hk=>hk) trivial (oD6 (zsx6_4)) (Nat.le_trans (Nat.mul_le_mul_right _ (oD6 (zsx6_4):a0.toNat≤281474976710656)) (by omega)) (Below.refl _ _) (Nat.le_refl _) ?_;intro v418 w5 ho6 hb hg_ hnew_;clear hg_ hnew_;(first|rw [← Ny417.out] at ho6|(simp only [Int.reduceToNat] at ho6;rw [← Ny417.out] at ho6));have n0_:=aM6 (Kd.R_lower ho6 (bZ6 (zsx6_2)));have n1_:=aM6 (below_step (zsx6_2) hb);clear HB;have HO419:=n0_;have HB:=n1_;clear n0_ n1_ hb ho6))
   go_loopg [12] k (fun kq v12 w'=>∃ (x5_1:List Bool) (x12_1:Int),v12=.int .i64 x12_1∧Aside0 (spec_clMarks.l0 kq x5_1 l1 (l1.length:Int) x12_1=some r)∧Aside0 (kq≤k)∧Aside0 (Kd.R Kd.bool 4 w' w.heap.size (fun _=>True) v418 x5_1)∧Aside0 (Below w.heap.size w w'))
   case atStart=>exact ⟨(y417),(0),(zsx6_3),H',⟨Nat.le_refl _⟩,⟨by (with_reducible repeat (first|apply Kd.R_alloc|apply Kd.R_drewN|apply Kd.R_drew));exact HO419.out⟩,⟨zsx6_2⟩⟩
   case round =>
    clear H'
    try clear c1
    try clear p2
    try clear c3
    try clear c3b0
    try clear c3b1
    try clear c4
    try clear c4b0
    try clear c4b1
    try clear c5
    obtain ⟨x5_1,x12_1,rfl,HA,HK1,HO_5,HB⟩:=hrel
    cases gk with
    | zero=>exact absurd HA.out (by simp [spec_clMarks.l0])
    | succ k1 =>
     have H:=HA.out
     clear HA
     simp only [spec_clMarks.l0] at H
     by_cases c7:x12_1 < (l1.length:Int)
     ·rw [if_pos c7] at H
      have c7b0:decide (x12_1 < (l1.length:Int))=true:=dT6 c7
      clear c7
      by_cases c8:0≤x12_1
      ·rw [if_pos c8] at H
       have c8b0:decide (0≤x12_1)=true:=dT6 c8
       clear c8
       by_cases c9:x12_1 < (l1.length:Int)
       ·rw [if_pos c9] at H
        have c9b0:decide (x12_1 < (l1.length:Int))=true:=dT6 c9
        clear c9
        by_cases c10:0≤(rd l1 x12_1)
        ·rw [if_pos c10] at H
         have c10b0:decide (0≤(rd l1 x12_1))=true:=dT6 c10
         clear c10
         by_cases c11:(rd l1 x12_1) < (x5_1.length:Int)
         ·rw [if_pos c11] at H
          have c11b0:decide ((rd l1 x12_1) < (x5_1.length:Int))=true:=dT6 c11
          clear c11
          obtain ⟨y421,hy421⟩:∃ y_:List Bool,y_=(x5_1.set ((rd l1 x12_1):Int).toNat true):=⟨_,rfl⟩
          replace H:(spec_clMarks.l0 k1 y421 l1 (l1.length:Int) (wrap64 (x12_1 + 1)))=some r:=by first|(rw [hy421];with_reducible exact H)|(have H2_:=(Option.bind_some _ _).symm.trans H;rw [hy421];with_reducible exact H2_)|(have H2_:=(Option.bind_some _ _).symm.trans H;with_reducible exact H2_)|with_reducible exact H|(rw [hy421];exact H)|exact H
          have Ny421:=aM6 hy421
          clear hy421
          have H':=aM6 H
          clear H
          have p420:0≤(x12_1:Int):=oD6 (zsx6_4)
          have q420:x12_1 < (l1.length:Int):=oD6 (zsx6_4)
          obtain ⟨ad420,e420,hx420_0⟩:=Kd.at_int HR1.out x12_1 p420 q420
          cases e420
          replace hx420_0:=(HB.out.cell (bL6 w _ hx420_0)).trans hx420_0
          replace p420:=eq_true p420
          replace q420:=eq_true q420
          have p12:0≤((rd l1 x12_1):Int):=oD6 (zsx6_4)
          have q12:((rd l1 x12_1):Int) < ((x5_1.length:Int):Int):=oD6 (zsx6_4)
          obtain ⟨go12,co12,eo12,gb12,gl12,cl12,HG12⟩:=Kd.R_form HO_5.out (by omega)
          (first|cases eo12|(injection eo12 with ea_ en_ ec_;(first|subst ea_|(injection ea_ with ea_;subst ea_));subst ec_;clear en_))
          have GB12:=aM6 gb12
          have GG12:=aM6 HG12
          clear gb12 gl12 HG12
          obtain ⟨hx12_0,hf12_0⟩:=Kd.R_celln false HO_5.out ((rd l1 x12_1):Int) p12 q12
          replace p12:=eq_true p12
          replace q12:=eq_true q12
          have HP13:=Kd.R_putg HO_5.out ((rd l1 x12_1):Int) true
          go_wp2_with (first|((with_reducible refine gate_store (t:=4) (p:=18) rfl ?_);refine store_event (t:=4) (p:=18) (v:=?vo_w14) (w1:=(wr.setCell ⟨go12,((rd l1 x12_1):Int).toNat,none⟩ (.bool true))) ?hg ?ho ?hn ?hr ?_;(case ho=>rfl);(case hg=>rfl);(case hn=>rfl);(case hr=>exact zsx6_17);intro w14 hw;have hg:wr.grownBy w14 (some go12):=(by rw [hw];exact HP13.2);have hp_:Kd.R Kd.bool 4 w14 w.heap.size (fun _=>True) (.slice (some ⟨go12,0,none⟩) x5_1.length co12) y421:=(by rw [hw,Ny421.out];exact HP13.1);clear HP13;have n0_:=aM6 (hp_);have n1_:=aM6 ((by rw [hw];exact below_set (HB.out) GB12.out:Below w.heap.size w w14));clear HO_5 HB;have HO_5:=n0_;have HB:=n1_;clear n0_ n1_ hg hw hp_))
          go_roundg k1
          case measure=>have:=HK1.out;omega
          case rel=>exact ⟨(y421),(wrap64 (x12_1 + 1)),(zsx6_3),H',⟨zsx6_8⟩,⟨zsx6_5⟩,⟨zsx6_2⟩⟩
         ·rw [if_neg c11] at H
          exact absurd H (by simp)
        ·rw [if_neg c10] at H
         exact absurd H (by simp)
       ·rw [if_neg c9] at H
        exact absurd H (by simp)
      ·rw [if_neg c8] at H
       exact absurd H (by simp)
     ·rw [if_neg c7] at H
      have c7b0:decide (x12_1 < (l1.length:Int))=false:=decide_eq_false c7
      clear c7
      obtain rfl:=Option.some.inj H
      go_wp2
      go_ret
      exact ⟨_,zsx6_9,zsx6_5,zsx6_2⟩
  ·rw [if_neg c4] at H
   exact absurd H (by simp)
 ·rw [if_neg c3] at H
  exact absurd H (by simp)
def spec_clList.l0:Nat→List Int→List Bool→Int→Int→Option (List Int)
 | 0,_,_,_,_=>none
 | k + 1,x3,x6,x7,x8=>if x8 < x7 then (if 0≤x8 then (if x8 < (x6.length:Int) then (if rdOf false x6 x8=true then (if x3.length < 17592186044416 then (spec_clList.l0 k (x3 ++ [x8]) x6 x7 (wrap64 (x8 + 1))) else (none)) else (spec_clList.l0 k x3 x6 x7 (wrap64 (x8 + 1)))) else (none)) else (none)) else (some x3)
def spec_clList.f (k:Nat) (l0:List Bool):Option (List Int):=spec_clList.l0 k ([]:List Int) l0 (l0.length:Int) 0
set_option maxHeartbeats 8000000 in
set_option maxRecDepth 100000 in
theorem spec_clList.calls (k:Nat) (A0:Option Addr) (c0:Nat) (l0:List Bool) (r:List Int) (w:World) (hr0:Kd.C Kd.bool w A0 l0.length l0) (hc0:l0.length≤c0) (h:spec_clList.f k l0=some r) :
  Calls Try.prog 60 #[.slice A0 l0.length c0] w fun e w'=>∃ v0_:Value,e=.returned (v0_)∧Kd.R (Kd.int .i64) 3 w' w.heap.size (fun _=>True) v0_ r∧Below w.heap.size w w':=by
 have HR0:=aM6 hr0
 have HC0:=aM6 hc0
 clear hr0 hc0
 have HB:=aM6 (Below.refl w.heap.size w)
 have H:(spec_clList.l0 k ([]:List Int) l0 (l0.length:Int) 0)=some r:=h
 clear h
 have H':=aM6 H
 clear H
 go_enter Try.func60,Try.ntmps60
 go_wp2
 go_loopg [3,8] k (fun kq v3 v8 w'=>∃ (x3_1:List Int) (x8_1:Int),v8=.int .i64 x8_1∧Aside0 (spec_clList.l0 kq x3_1 l0 (l0.length:Int) x8_1=some r)∧Aside0 (kq≤k)∧Aside0 (Kd.R (Kd.int .i64) 3 w' w.heap.size (fun _=>True) v3 x3_1)∧Aside0 (Below w.heap.size w w'))
 case atStart=>exact ⟨(([]:List Int)),(0),(zsx6_3),H',⟨Nat.le_refl _⟩,⟨zsx6_11⟩,⟨zsx6_2⟩⟩
 case round =>
  clear H'
  obtain ⟨x3_1,x8_1,rfl,HA,HK1,HO_3,HB⟩:=hrel
  cases gk with
  | zero=>exact absurd HA.out (by simp [spec_clList.l0])
  | succ k1 =>
   have H:=HA.out
   clear HA
   simp only [spec_clList.l0] at H
   by_cases c2:x8_1 < (l0.length:Int)
   ·rw [if_pos c2] at H
    have c2b0:decide (x8_1 < (l0.length:Int))=true:=dT6 c2
    clear c2
    by_cases c3:0≤x8_1
    ·rw [if_pos c3] at H
     have c3b0:decide (0≤x8_1)=true:=dT6 c3
     clear c3
     by_cases c4:x8_1 < (l0.length:Int)
     ·rw [if_pos c4] at H
      have c4b0:decide (x8_1 < (l0.length:Int))=true:=dT6 c4
      clear c4
      obtain ⟨bq5,hbq5⟩:∃ b_:Bool,b_=(rdOf false l0 x8_1):=⟨_,rfl⟩
      replace H:(if bq5=true then (if x3_1.length < 17592186044416 then (spec_clList.l0 k1 (x3_1 ++ [x8_1]) l0 (l0.length:Int) (wrap64 (x8_1 + 1))) else (none)) else (spec_clList.l0 k1 x3_1 l0 (l0.length:Int) (wrap64 (x8_1 + 1))))=some r:=by rw [← hbq5] at H;exact H
      have Nbq5:=aM6 hbq5
      clear hbq5
      by_cases c6:bq5=true
      ·subst c6
       have H1:(if x3_1.length < 17592186044416 then (spec_clList.l0 k1 (x3_1 ++ [x8_1]) l0 (l0.length:Int) (wrap64 (x8_1 + 1))) else (none))=some r:=by rw [if_pos rfl] at H;exact H
       clear H
       have H:=H1
       clear H1
       by_cases c7:x3_1.length < 17592186044416
       ·rw [if_pos c7] at H
        have LMc7:=aM6 c7
        clear c7
        obtain ⟨y423,hy423⟩:∃ y_:List Int,y_=(x3_1 ++ [x8_1]):=⟨_,rfl⟩
        replace H:(spec_clList.l0 k1 y423 l0 (l0.length:Int) (wrap64 (x8_1 + 1)))=some r:=by first|(rw [hy423];with_reducible exact H)|(have H2_:=(Option.bind_some _ _).symm.trans H;rw [hy423];with_reducible exact H2_)|(have H2_:=(Option.bind_some _ _).symm.trans H;with_reducible exact H2_)|with_reducible exact H|(rw [hy423];exact H)|exact H
        have Ny423:=aM6 hy423
        clear hy423
        have H':=aM6 H
        clear H
        have p422:0≤(x8_1:Int):=oD6 (zsx6_4)
        have q422:x8_1 < (l0.length:Int):=oD6 (zsx6_4)
        obtain ⟨ad422,e422,hx422_0⟩:=Kd.at_bool HR0.out x8_1 p422 q422
        (try rw [← Nbq5.out] at hx422_0)
        cases e422
        replace hx422_0:=(HB.out.cell (bL6 w _ hx422_0)).trans hx422_0
        replace p422:=eq_true p422
        replace q422:=eq_true q422
        go_wp2_with (first|((with_reducible refine gate_builtin (b:=.append) (xs:=#[.tmp 14,.tmp 16]) rfl ?_);at_builtin;refine Kd.R_append (Kd.int .i64) (w0:=w) w.heap.size rfl (.tmp 14) (.tmp 16) 33 3 (.int .i64 0) 8 rfl Try.underlying33 info3 rfl (by decide) (by omega) u3 x3_1 x8_1 [.int .i64 x8_1] (fun _=>True) (fun _=>False) rfl rfl ?aP (fun _ hk=>hk.elim) ?aF ?aO ?aB ?aS ?aL ?_;(case aP=>exact rfl);(case aB=>exact (zsx6_2));(case aF=>exact (fun _ _=>trivial));(case aO=>exact (zsx6_14));(case aS=>exact (bZ6 (zsx6_2)));(case aL=>have:=LMc7.out;omega);intro v424 w8 ho hb hg hat;rw [← Ny423.out] at ho;have n0_:=aM6 (hb);have n1_:=aM6 (ho);clear HB HO_3;have HB:=n0_;have HO425:=n1_;clear n0_ n1_ ho hb hg hat))
        go_roundg k1
        case measure=>have:=HK1.out;omega
        case rel=>exact ⟨(y423),(wrap64 (x8_1 + 1)),(zsx6_3),H',⟨zsx6_8⟩,⟨by (with_reducible repeat (first|apply Kd.R_alloc|apply Kd.R_drewN|apply Kd.R_drew));exact HO425.out⟩,⟨zsx6_2⟩⟩
       ·rw [if_neg c7] at H
        exact absurd H (by simp)
      ·replace c6:=Bool.eq_false_iff.mpr c6
       subst c6
       have H1:(spec_clList.l0 k1 x3_1 l0 (l0.length:Int) (wrap64 (x8_1 + 1)))=some r:=by rw [if_neg (show ¬ (false=true) by decide)] at H;exact H
       clear H
       have H:=H1
       clear H1
       have H':=aM6 H
       clear H
       have p422:0≤(x8_1:Int):=oD6 (zsx6_4)
       have q422:x8_1 < (l0.length:Int):=oD6 (zsx6_4)
       obtain ⟨ad422,e422,hx422_0⟩:=Kd.at_bool HR0.out x8_1 p422 q422
       (try rw [← Nbq5.out] at hx422_0)
       cases e422
       replace hx422_0:=(HB.out.cell (bL6 w _ hx422_0)).trans hx422_0
       replace p422:=eq_true p422
       replace q422:=eq_true q422
       go_wp2
       go_roundg k1
       case measure=>have:=HK1.out;omega
       case rel=>exact ⟨(x3_1),(wrap64 (x8_1 + 1)),(zsx6_3),H',⟨zsx6_8⟩,⟨zsx6_14⟩,⟨zsx6_2⟩⟩
     ·rw [if_neg c4] at H
      exact absurd H (by simp)
    ·rw [if_neg c3] at H
     exact absurd H (by simp)
   ·rw [if_neg c2] at H
    have c2b0:decide (x8_1 < (l0.length:Int))=false:=decide_eq_false c2
    clear c2
    obtain rfl:=Option.some.inj H
    go_wp2
    go_ret
    exact ⟨_,zsx6_9,zsx6_14,zsx6_2⟩
mutual
def spec_clLeast.l0:Nat→List (List Int)→List Bool→Int→Option (List Int)
 | 0,_,_,_=>none
 | k + 1,x0,x5,x6=>if x6 ≥ 0 then (if 0≤x6 then (if x6 < (x5.length:Int) then (if rdOf false x5 x6=true then (if x6 < (x0.length:Int) then (spec_clLeast.l1 k x0 x5 x6 (rd_L5 x0 x6) ((rd_L5 x0 x6).length:Int) 0) else (none)) else (spec_clLeast.l0 k x0 x5 (wrap64 (x6 - 1)))) else (none)) else (none)) else ((spec_clList.f k x5).bind fun t429=>(some t429))
def spec_clLeast.l1:Nat→List (List Int)→List Bool→Int→List Int→Int→Int→Option (List Int)
 | 0,_,_,_,_,_,_=>none
 | k + 1,x0,x5,x6,x27,x28,x29=>if x29 < x28 then (if 0≤x29 then (if x29 < (x27.length:Int) then (if 0≤(rd x27 x29) then (if (rd x27 x29) < (x5.length:Int) then (spec_clLeast.l1 k x0 (x5.set ((rd x27 x29):Int).toNat true) x6 x27 x28 (wrap64 (x29 + 1))) else (none)) else (none)) else (none)) else (none)) else (spec_clLeast.l0 k x0 x5 (wrap64 (x6 - 1)))
end
def spec_clLeast.f (k:Nat) (l0:List (List Int)) (l1:List Int):Option (List Int):=(spec_clMarks.f k (l0.length:Int) l1).bind fun t426=>(spec_clLeast.l0 k l0 t426 (wrap64 ((l0.length:Int) - 1)))
set_option maxHeartbeats 8000000 in
set_option maxRecDepth 100000 in
theorem spec_clLeast.calls (k:Nat) (A0:Option Addr) (c0:Nat) (l0:List (List Int)) (A1:Option Addr) (c1:Nat) (l1:List Int) (r:List Int) (w:World) (hr0:Kd.C (Kd.slice 3 (Kd.int .i64)) w A0 l0.length l0) (hc0:l0.length≤c0) (hr1:Kd.C (Kd.int .i64) w A1 l1.length l1) (hc1:l1.length≤c1) (h:spec_clLeast.f k l0 l1=some r) :
  Calls Try.prog 75 #[.slice A0 l0.length c0,.slice A1 l1.length c1] w fun e w'=>∃ v0_:Value,e=.returned (v0_)∧Kd.R (Kd.int .i64) 3 w' w.heap.size (fun _=>True) v0_ r∧Below w.heap.size w w':=by
 have HR0:=aM6 hr0
 have HC0:=aM6 hc0
 clear hr0 hc0
 have HR1:=aM6 hr1
 have HC1:=aM6 hc1
 clear hr1 hc1
 have HB:=aM6 (Below.refl w.heap.size w)
 have H:((spec_clMarks.f k (l0.length:Int) l1).bind fun t426=>(spec_clLeast.l0 k l0 t426 (wrap64 ((l0.length:Int) - 1))))=some r:=h
 clear h
 replace H:=bI6.mp H
 obtain ⟨t426,A30,H⟩:=H
 replace H:(spec_clLeast.l0 k l0 t426 (wrap64 ((l0.length:Int) - 1)))=some r:=H
 have A3:=aM6 A30
 clear A30
 have H':=aM6 H
 clear H
 go_enter Try.func75,Try.ntmps75
 go_wp2_with (first|((with_reducible refine gate_callee (f:=59) rfl ?_);refine goesL_ (some 12) rfl rfl Try.func59 (zsx6_0) rfl #[.int .i64 (l0.length:Int),.slice A1 l1.length c1] rfl (zsx6_1) ?_;(with_reducible refine (spec_clMarks.calls k (l0.length:Int) _ _ l1 t426 _ ?side1 ?side2 A3.out).mono ?_);(case side1=>exact zsx6_16);(case side2=>exact HC1.out);rintro e w4 ⟨v427,rfl,ho0,hb⟩;refine ⟨_,rfl,?_⟩;have n0_:=aM6 (Kd.R_lower ho0 (bZ6 (zsx6_2)));have n1_:=aM6 (below_step (zsx6_2) hb);clear HB;have HO428:=n0_;have HB:=n1_;clear n0_ n1_;(try clear hb);(try clear hb2);(try clear hk);(try clear hi);(try clear ho0)))
 go_loopg [6] k (fun kq v6 w'=>∃ (x5_1:List Bool) (x6_1:Int),v6=.int .i64 x6_1∧Aside0 (spec_clLeast.l0 kq l0 x5_1 x6_1=some r)∧Aside0 (kq≤k)∧Aside0 (Kd.R Kd.bool 4 w' w.heap.size (fun _=>True) v427 x5_1)∧Aside0 (Below w.heap.size w w'))
 case atStart=>exact ⟨(t426),(wrap64 ((l0.length:Int) - 1)),(zsx6_3),H',⟨Nat.le_refl _⟩,⟨by (with_reducible repeat (first|apply Kd.R_alloc|apply Kd.R_drewN|apply Kd.R_drew));exact HO428.out⟩,⟨zsx6_2⟩⟩
 case round =>
  clear H'
  try clear c1
  try clear p2
  obtain ⟨x5_1,x6_1,rfl,HA,HK1,HO_5,HB⟩:=hrel
  cases gk with
  | zero=>exact absurd HA.out (by simp [spec_clLeast.l0])
  | succ k1 =>
   have H:=HA.out
   clear HA
   simp only [spec_clLeast.l0] at H
   by_cases c5:x6_1 ≥ 0
   ·rw [if_pos c5] at H
    have c5b0:decide (0≤x6_1)=true:=dT6 c5
    clear c5
    by_cases c6:0≤x6_1
    ·rw [if_pos c6] at H
     have c6b0:decide (0≤x6_1)=true:=dT6 c6
     clear c6
     by_cases c7:x6_1 < (x5_1.length:Int)
     ·rw [if_pos c7] at H
      have c7b0:decide (x6_1 < (x5_1.length:Int))=true:=dT6 c7
      clear c7
      obtain ⟨bq8,hbq8⟩:∃ b_:Bool,b_=(rdOf false x5_1 x6_1):=⟨_,rfl⟩
      replace H:(if bq8=true then (if x6_1 < (l0.length:Int) then (spec_clLeast.l1 k1 l0 x5_1 x6_1 (rd_L5 l0 x6_1) ((rd_L5 l0 x6_1).length:Int) 0) else (none)) else (spec_clLeast.l0 k1 l0 x5_1 (wrap64 (x6_1 - 1))))=some r:=by rw [← hbq8] at H;exact H
      have Nbq8:=aM6 hbq8
      clear hbq8
      by_cases c9:bq8=true
      ·subst c9
       have H1:(if x6_1 < (l0.length:Int) then (spec_clLeast.l1 k1 l0 x5_1 x6_1 (rd_L5 l0 x6_1) ((rd_L5 l0 x6_1).length:Int) 0) else (none))=some r:=by rw [if_pos rfl] at H;exact H
       clear H
       have H:=H1
       clear H1
       by_cases c10:x6_1 < (l0.length:Int)
       ·rw [if_pos c10] at H
        have c10b0:decide (x6_1 < (l0.length:Int))=true:=dT6 c10
        clear c10
        have H':=aM6 H
        clear H
        obtain ⟨Ao11,co11,eo11⟩:=Kd.R_slice HO_5.out
        subst eo11
        have p432:0≤(x6_1:Int):=oD6 (zsx6_4)
        have q432:x6_1 < (x5_1.length:Int):=oD6 (zsx6_4)
        obtain ⟨ad432,e432,hx432_0⟩:=Kd.at_bool (Kd.R_reads' HO_5.out).2.2 x6_1 p432 q432
        (try rw [← Nbq8.out] at hx432_0)
        cases e432
        replace p432:=eq_true p432
        replace q432:=eq_true q432
        have p433:0≤(x6_1:Int):=oD6 (zsx6_4)
        have q433:x6_1 < (l0.length:Int):=oD6 (zsx6_4)
        obtain ⟨ad433,A433_0,c433_0,e433,hx433_0,hl433_0,hi433_0⟩:=at_L5 HR0.out x6_1 p433 q433
        cases e433
        replace hx433_0:=(HB.out.cell (bL6 w _ hx433_0)).trans hx433_0
        have HR433_0:=aM6 hi433_0
        have HC433_0:=aM6 hl433_0
        clear hi433_0 hl433_0
        replace p433:=eq_true p433
        replace q433:=eq_true q433
        go_wp2
        go_loopg [29] k1 (fun kq v29 w'=>∃ (x5_2:List Bool) (x29_2:Int),v29=.int .i64 x29_2∧Aside0 (spec_clLeast.l1 kq l0 x5_2 x6_1 (rd_L5 l0 x6_1) ((rd_L5 l0 x6_1).length:Int) x29_2=some r)∧Aside0 (kq≤k1)∧Aside0 (Kd.R Kd.bool 4 w' w.heap.size (fun _=>True) (.slice (some ad432) x5_1.length co11) x5_2)∧Aside0 (Below w.heap.size w w'))
        case atStart=>exact ⟨(x5_1),(0),(zsx6_3),H',⟨Nat.le_refl _⟩,⟨zsx6_5⟩,⟨zsx6_2⟩⟩
        case round =>
         clear H'
         try clear c1
         try clear p2
         try clear c4
         try clear p4
         try clear q4
         try clear hx4
         try clear c5
         try clear c5b0
         try clear c6
         try clear c6b0
         try clear p6
         try clear c7
         try clear c7b0
         try clear q8
         try clear c9
         try clear c10
         try clear c10b0
         try clear hx432_0
         try clear hx433_0
         try clear p2
         try clear p432
         try clear p433
         try clear q432
         try clear q433
         obtain ⟨x5_2,x29_2,rfl,HA,HK2,HO_5,HB⟩:=hrel
         have hl5_2:=(Kd.R_reads' HO_5.out).1
         rw [hl5_2] at HO_5
         (try simp only [hl5_2])
         cases gk with
         | zero=>exact absurd HA.out (by simp [spec_clLeast.l1])
         | succ k2 =>
          have H:=HA.out
          clear HA
          simp only [spec_clLeast.l1] at H
          by_cases c12:x29_2 < ((rd_L5 l0 x6_1).length:Int)
          ·rw [if_pos c12] at H
           have c12b0:decide (x29_2 < ((rd_L5 l0 x6_1).length:Int))=true:=dT6 c12
           clear c12
           by_cases c13:0≤x29_2
           ·rw [if_pos c13] at H
            have c13b0:decide (0≤x29_2)=true:=dT6 c13
            clear c13
            by_cases c14:x29_2 < ((rd_L5 l0 x6_1).length:Int)
            ·rw [if_pos c14] at H
             have c14b0:decide (x29_2 < ((rd_L5 l0 x6_1).length:Int))=true:=dT6 c14
             clear c14
             by_cases c15:0≤(rd (rd_L5 l0 x6_1) x29_2)
             ·rw [if_pos c15] at H
              have c15b0:decide (0≤(rd (rd_L5 l0 x6_1) x29_2))=true:=dT6 c15
              clear c15
              by_cases c16:(rd (rd_L5 l0 x6_1) x29_2) < (x5_2.length:Int)
              ·rw [if_pos c16] at H
               have c16b0:decide ((rd (rd_L5 l0 x6_1) x29_2) < (x5_2.length:Int))=true:=dT6 c16
               clear c16
               obtain ⟨y435,hy435⟩:∃ y_:List Bool,y_=(x5_2.set ((rd (rd_L5 l0 x6_1) x29_2):Int).toNat true):=⟨_,rfl⟩
               replace H:(spec_clLeast.l1 k2 l0 y435 x6_1 (rd_L5 l0 x6_1) ((rd_L5 l0 x6_1).length:Int) (wrap64 (x29_2 + 1)))=some r:=by first|(rw [hy435];with_reducible exact H)|(have H2_:=(Option.bind_some _ _).symm.trans H;rw [hy435];with_reducible exact H2_)|(have H2_:=(Option.bind_some _ _).symm.trans H;with_reducible exact H2_)|with_reducible exact H|(rw [hy435];exact H)|exact H
               have Ny435:=aM6 hy435
               clear hy435
               have H':=aM6 H
               clear H
               have p434:0≤(x29_2:Int):=oD6 (zsx6_4)
               have q434:x29_2 < ((rd_L5 l0 x6_1).length:Int):=oD6 (zsx6_4)
               obtain ⟨ad434,e434,hx434_0⟩:=Kd.at_int HR433_0.out x29_2 p434 q434
               cases e434
               replace hx434_0:=(HB.out.cell (bL6 w _ hx434_0)).trans hx434_0
               replace p434:=eq_true p434
               replace q434:=eq_true q434
               have p17:0≤((rd (rd_L5 l0 x6_1) x29_2):Int):=oD6 (zsx6_4)
               have q17:((rd (rd_L5 l0 x6_1) x29_2):Int) < ((x5_2.length:Int):Int):=oD6 (zsx6_4)
               obtain ⟨go17,co17,eo17,gb17,gl17,cl17,HG17⟩:=Kd.R_form HO_5.out (by omega)
               (first|cases eo17|(injection eo17 with ea_ en_ ec_;(first|subst ea_|(injection ea_ with ea_;subst ea_));subst ec_;clear en_))
               have GB17:=aM6 gb17
               have GG17:=aM6 HG17
               clear gb17 gl17 HG17
               (first|simp only [add_plain] at hx432_0|skip)
               obtain ⟨hx17_0,hf17_0⟩:=Kd.R_celln false HO_5.out ((rd (rd_L5 l0 x6_1) x29_2):Int) p17 q17
               replace p17:=eq_true p17
               replace q17:=eq_true q17
               have HP18:=Kd.R_putg HO_5.out ((rd (rd_L5 l0 x6_1) x29_2):Int) true
               go_wp2_with (first|((with_reducible refine gate_store (t:=4) (p:=35) rfl ?_);refine store_event (t:=4) (p:=35) (v:=?vo_w19) (w1:=(wr.setCell ⟨go17,((rd (rd_L5 l0 x6_1) x29_2):Int).toNat,none⟩ (.bool true))) ?hg ?ho ?hn ?hr ?_;(case ho=>rfl);(case hg=>rfl);(case hn=>rfl);(case hr=>exact zsx6_17);intro w19 hw;have hg:wr.grownBy w19 (some go17):=(by rw [hw];exact HP18.2);have hp_:Kd.R Kd.bool 4 w19 w.heap.size (fun _=>True) (.slice (some ⟨go17,0,none⟩) x5_2.length co11) y435:=(by rw [hw,Ny435.out];exact HP18.1);clear HP18;have n0_:=aM6 (hp_);have n1_:=aM6 ((by rw [hw];exact below_set (HB.out) GB17.out:Below w.heap.size w w19));clear HO_5 HB;have HO_5:=n0_;have HB:=n1_;clear n0_ n1_ hg hw hp_))
               (try simp only [← hl5_2])
               go_roundg k2
               case measure=>have:=HK1.out;have:=HK2.out;omega
               case rel=>exact ⟨(y435),(wrap64 (x29_2 + 1)),(zsx6_3),H',⟨zsx6_6⟩,⟨zsx6_7⟩,⟨zsx6_2⟩⟩
              ·rw [if_neg c16] at H
               exact absurd H (by simp)
             ·rw [if_neg c15] at H
              exact absurd H (by simp)
            ·rw [if_neg c14] at H
             exact absurd H (by simp)
           ·rw [if_neg c13] at H
            exact absurd H (by simp)
          ·rw [if_neg c12] at H
           have c12b0:decide (x29_2 < ((rd_L5 l0 x6_1).length:Int))=false:=decide_eq_false c12
           clear c12
           have H':=aM6 H
           clear H
           go_wp2
           (try simp only [← hl5_2])
           go_roundg k2
           case measure=>have:=HK1.out;have:=HK2.out;omega
           case rel=>exact ⟨(x5_2),(wrap64 (x6_1 - 1)),(zsx6_3),H',⟨zsx6_6⟩,⟨zsx6_7⟩,⟨zsx6_2⟩⟩
       ·rw [if_neg c10] at H
        exact absurd H (by simp)
      ·replace c9:=Bool.eq_false_iff.mpr c9
       subst c9
       have H1:(spec_clLeast.l0 k1 l0 x5_1 (wrap64 (x6_1 - 1)))=some r:=by rw [if_neg (show ¬ (false=true) by decide)] at H;exact H
       clear H
       have H:=H1
       clear H1
       have H':=aM6 H
       clear H
       obtain ⟨Ao20,co20,eo20⟩:=Kd.R_slice HO_5.out
       subst eo20
       have p432:0≤(x6_1:Int):=oD6 (zsx6_4)
       have q432:x6_1 < (x5_1.length:Int):=oD6 (zsx6_4)
       obtain ⟨ad432,e432,hx432_0⟩:=Kd.at_bool (Kd.R_reads' HO_5.out).2.2 x6_1 p432 q432
       (try rw [← Nbq8.out] at hx432_0)
       cases e432
       replace p432:=eq_true p432
       replace q432:=eq_true q432
       go_wp2
       go_roundg k1
       case measure=>have:=HK1.out;omega
       case rel=>exact ⟨(x5_1),(wrap64 (x6_1 - 1)),(zsx6_3),H',⟨zsx6_8⟩,⟨zsx6_5⟩,⟨zsx6_2⟩⟩
     ·rw [if_neg c7] at H
      exact absurd H (by simp)
    ·rw [if_neg c6] at H
     exact absurd H (by simp)
   ·rw [if_neg c5] at H
    have c5b0:decide (0≤x6_1)=false:=decide_eq_false c5
    clear c5
    replace H:=bI6.mp H
    obtain ⟨t429,A210,H⟩:=H
    replace H:(some t429)=some r:=H
    have A21:=aM6 A210
    clear A210
    obtain rfl:=Option.some.inj H
    obtain ⟨Ao22,co22,eo22⟩:=Kd.R_slice HO_5.out
    subst eo22
    go_wp2_with (first|((with_reducible refine gate_callee (f:=60) rfl ?_);refine goesL_ (some 38) rfl rfl Try.func60 (zsx6_0) rfl #[.slice Ao22 x5_1.length co22] rfl (zsx6_1) ?_;(with_reducible refine (spec_clList.calls k1 _ _ x5_1 t429 _ ?side1 ?side2 A21.out).mono ?_);(case side1=>exact zsx6_21);(case side2=>exact (Kd.R_reads' HO_5.out).2.1);rintro e w23 ⟨v430,rfl,ho0,hb⟩;refine ⟨_,rfl,?_⟩;have n0_:=aM6 (Kd.R_below (zsx6_5) hb);have n1_:=aM6 (Kd.R_lower ho0 (bZ6 (zsx6_2)));have n2_:=aM6 (below_step (zsx6_2) hb);clear HO_5 HB;have HO_5:=n0_;have HO431:=n1_;have HB:=n2_;clear n0_ n1_ n2_;(try clear hb);(try clear hb2);(try clear hk);(try clear hi);(try clear ho0)))
    go_ret
    exact ⟨_,zsx6_9,by (with_reducible repeat (first|apply Kd.R_alloc|apply Kd.R_drewN|apply Kd.R_drew));exact HO431.out,zsx6_2⟩
def spec_clUp.f (k:Nat) (l0:List (List Int)) (a1:Int):Option (List Int):=(spec_clLeast.f k l0 (([a1]:List Int))).bind fun t439=>(some t439)
set_option maxHeartbeats 8000000 in
set_option maxRecDepth 100000 in
theorem spec_clUp.calls (k:Nat) (A0:Option Addr) (c0:Nat) (l0:List (List Int)) (a1:Int) (r:List Int) (w:World) (hr0:Kd.C (Kd.slice 3 (Kd.int .i64)) w A0 l0.length l0) (hc0:l0.length≤c0) (h:spec_clUp.f k l0 a1=some r) :
  Calls Try.prog 57 #[.slice A0 l0.length c0,.int .i64 a1] w fun e w'=>∃ v0_:Value,e=.returned (v0_)∧Kd.R (Kd.int .i64) 3 w' w.heap.size (fun _=>True) v0_ r∧Below w.heap.size w w':=by
 have HR0:=aM6 hr0
 have HC0:=aM6 hc0
 clear hr0 hc0
 have HB:=aM6 (Below.refl w.heap.size w)
 have H:((spec_clLeast.f k l0 (([a1]:List Int))).bind fun t439=>(some t439))=some r:=h
 clear h
 obtain ⟨y436,hy436⟩:∃ y_:List Int,y_=(([a1]:List Int)):=⟨_,rfl⟩
 replace H:((spec_clLeast.f k l0 y436).bind fun t439=>(some t439))=some r:=by first|(rw [hy436];with_reducible exact H)|(have H2_:=(Option.bind_some _ _).symm.trans H;rw [hy436];with_reducible exact H2_)|(have H2_:=(Option.bind_some _ _).symm.trans H;with_reducible exact H2_)|with_reducible exact H|(rw [hy436];exact H)|exact H
 have Ny436:=aM6 hy436
 clear hy436
 replace H:=bI6.mp H
 obtain ⟨t439,A30,H⟩:=H
 replace H:(some t439)=some r:=H
 have A3:=aM6 A30
 clear A30
 obtain rfl:=Option.some.inj H
 go_enter Try.func57,Try.ntmps57
 go_wp2_with (first|((with_reducible refine gate_dst (N:=7) rfl ?_);refine Kd.R_lit (Kd.int .i64) _ 3 ?hg (N:=7) ?hd (xs:=([a1]:List Int)) (inner:=[.int .i64 a1]) (ok:=fun _=>True) (okp:=fun _=>True) ?hr ?hp (fun _ hk=>hk) trivial (Below.refl _ _) (Nat.le_refl _) (by simp) ?_;(case hd=>rfl);(case hg=>rfl);(case hr=>exact zsx6_17);(case hp=>exact (Reps.one (show Kd.M (Kd.int .i64) _ _ _ a1 [.int .i64 a1] from rfl) (Reps.none _ _)));intro v437 w4 ho5 hb hg_ hnew_;clear hg_ hnew_;(first|rw [← Ny436.out] at ho5|(simp only [Int.reduceToNat] at ho5;rw [← Ny436.out] at ho5));have n0_:=aM6 (Kd.R_lower ho5 (bZ6 (zsx6_2)));have n1_:=aM6 (below_step (zsx6_2) hb);clear HB;have HO438:=n0_;have HB:=n1_;clear n0_ n1_ hb ho5;obtain ⟨Ao6,co6,eo6⟩:=Kd.R_slice HO438.out;subst eo6)|((with_reducible refine gate_callee (f:=75) rfl ?_);refine goesL_ (some 8) rfl rfl Try.func75 (zsx6_0) rfl #[.slice A0 l0.length c0,.slice Ao6 y436.length co6] rfl (zsx6_1) ?_;(with_reducible refine (spec_clLeast.calls k _ _ l0 _ _ y436 t439 _ ?side1 ?side2 ?side3 ?side4 A3.out).mono ?_);(case side1=>exact zsx6_18);(case side2=>exact HC0.out);(case side3=>repeat (first|exact (Kd.R_reads' HO438.out).2.2|(with_reducible refine Kd.C_alloc ?_ _)|(with_reducible refine Kd.C_drewN ?_ _)|(with_reducible refine Kd.C_drew ?_)));(case side4=>exact (Kd.R_reads' HO438.out).2.1);rintro e w7 ⟨v440,rfl,ho0,hb⟩;refine ⟨_,rfl,?_⟩;have n0_:=aM6 (Kd.R_elder' (by (with_reducible repeat (first|apply Kd.R_alloc|apply Kd.R_drewN|apply Kd.R_drew));exact HO438.out) (Kd.R_base ho0) hb);have n1_:=aM6 (Kd.R_lower (Kd.R_new' ho0 (Kd.R_lt (by (with_reducible repeat (first|apply Kd.R_alloc|apply Kd.R_drewN|apply Kd.R_drew));exact HO438.out))) (bZ6 (zsx6_2)));have n2_:=aM6 (below_step (zsx6_2) hb);clear HO438 HB;have HO438:=n0_;have HO441:=n1_;have HB:=n2_;clear n0_ n1_ n2_;(try clear hb);(try clear hb2);(try clear hk);(try clear hi);(try clear ho0)))
 go_ret
 exact ⟨_,zsx6_9,by (with_reducible repeat (first|apply Kd.R_alloc|apply Kd.R_drewN|apply Kd.R_drew));exact Kd.R_mono HO441.out (fun _ hk=>trivial),zsx6_2⟩
def spec_ConeOf.f (k:Nat) (l0:List (List Int)) (a1:Int):Option (List Int × Bool):=(spec_clHas.f k l0 a1).bind fun t442=>(if t442=true then ((spec_clUp.f k l0 a1).bind fun t443=>(some (t443,true))) else (some (([]:List Int),false)))
set_option maxHeartbeats 8000000 in
set_option maxRecDepth 100000 in
theorem spec_ConeOf.calls (k:Nat) (A0:Option Addr) (c0:Nat) (l0:List (List Int)) (a1:Int) (r1:List Int) (r2:Bool) (w:World) (hr0:Kd.C (Kd.slice 3 (Kd.int .i64)) w A0 l0.length l0) (hc0:l0.length≤c0) (h:spec_ConeOf.f k l0 a1=some (r1,r2)) :
  Calls Try.prog 14 #[.slice A0 l0.length c0,.int .i64 a1] w fun e w'=>∃ v0_:Value,e=.returned (.tuple #[v0_,.bool r2])∧Kd.R (Kd.int .i64) 3 w' w.heap.size (fun _=>True) v0_ r1∧Below w.heap.size w w':=by
 have HR0:=aM6 hr0
 have HC0:=aM6 hc0
 clear hr0 hc0
 have HB:=aM6 (Below.refl w.heap.size w)
 have H:((spec_clHas.f k l0 a1).bind fun t442=>(if t442=true then ((spec_clUp.f k l0 a1).bind fun t443=>(some (t443,true))) else (some (([]:List Int),false))))=some (r1,r2):=h
 clear h
 replace H:=bI6.mp H
 obtain ⟨t442,A30,H⟩:=H
 replace H:(if t442=true then ((spec_clUp.f k l0 a1).bind fun t443=>(some (t443,true))) else (some (([]:List Int),false)))=some (r1,r2):=H
 have A3:=aM6 A30
 clear A30
 by_cases c4:t442=true
 ·subst c4
  have H1:((spec_clUp.f k l0 a1).bind fun t443=>(some (t443,true)))=some (r1,r2):=by rw [if_pos rfl] at H;exact H
  clear H
  have H:=H1
  clear H1
  replace H:=bI6.mp H
  obtain ⟨t443,A50,H⟩:=H
  replace H:(some (t443,true))=some (r1,r2):=H
  have A5:=aM6 A50
  clear A50
  simp only [Option.some.injEq,Prod.mk.injEq] at H
  obtain ⟨rfl,rfl⟩:=H
  go_enter Try.func14,Try.ntmps14
  go_wp2_with (first|((with_reducible refine gate_callee (f:=56) rfl ?_);refine goesL_ (some 8) rfl rfl Try.func56 (zsx6_0) rfl #[.slice A0 l0.length c0,.int .i64 a1] rfl (zsx6_1) ?_;(with_reducible refine (spec_clHas.calls k _ _ l0 a1 true _ ?side1 ?side2 A3.out).mono ?_);(case side1=>exact zsx6_20);(case side2=>exact HC0.out);rintro e w' ⟨rfl,⟨nd,rfl⟩⟩;refine ⟨_,rfl,?_⟩)|((with_reducible refine gate_callee (f:=57) rfl ?_);refine goesL_ (some 12) rfl rfl Try.func57 (zsx6_0) rfl #[.slice A0 l0.length c0,.int .i64 a1] rfl (zsx6_1) ?_;(with_reducible refine (spec_clUp.calls k _ _ l0 a1 t443 _ ?side1 ?side2 A5.out).mono ?_);(case side1=>exact zsx6_20);(case side2=>exact HC0.out);rintro e w6 ⟨v444,rfl,ho0,hb⟩;refine ⟨_,rfl,?_⟩;have n0_:=aM6 (Kd.R_lower ho0 (bZ6 (zsx6_2)));have n1_:=aM6 (below_step (zsx6_2) hb);clear HB;have HO445:=n0_;have HB:=n1_;clear n0_ n1_;(try clear hb);(try clear hb2);(try clear hk);(try clear hi);(try clear ho0)))
  go_ret2
  exact ⟨_,zsx6_9,by (with_reducible repeat (first|apply Kd.R_alloc|apply Kd.R_drewN|apply Kd.R_drew));exact HO445.out,zsx6_2⟩
 ·replace c4:=Bool.eq_false_iff.mpr c4
  subst c4
  have H1:(some (([]:List Int),false))=some (r1,r2):=by rw [if_neg (show ¬ (false=true) by decide)] at H;exact H
  clear H
  have H:=H1
  clear H1
  simp only [Option.some.injEq,Prod.mk.injEq] at H
  obtain ⟨rfl,rfl⟩:=H
  go_enter Try.func14,Try.ntmps14
  go_wp2_with (first|((with_reducible refine gate_callee (f:=56) rfl ?_);refine goesL_ (some 8) rfl rfl Try.func56 (zsx6_0) rfl #[.slice A0 l0.length c0,.int .i64 a1] rfl (zsx6_1) ?_;(with_reducible refine (spec_clHas.calls k _ _ l0 a1 false _ ?side1 ?side2 A3.out).mono ?_);(case side1=>exact zsx6_20);(case side2=>exact HC0.out);rintro e w' ⟨rfl,⟨nd,rfl⟩⟩;refine ⟨_,rfl,?_⟩))
  go_ret2
  exact ⟨_,zsx6_9,zsx6_11,zsx6_2⟩
mutual
def impl_belowOf.l0:Nat→List (List Int)→List Bool→Int→Option (List Bool)
 | 0,_,_,_=>none
 | k + 1,x0,x5,x6=>if x6 < (x0.length:Int) then (if 0≤x6 then (impl_belowOf.l1 k x0 x5 x6 (rd_L5 x0 x6) ((rd_L5 x0 x6).length:Int) 0) else (none)) else (some x5)
def impl_belowOf.l1:Nat→List (List Int)→List Bool→Int→List Int→Int→Int→Option (List Bool)
 | 0,_,_,_,_,_,_=>none
 | k + 1,x0,x5,x6,x25,x26,x27=>if x27 < x26 then (if 0≤x27 then (if x27 < (x25.length:Int) then (if 0≤x6 then (if x6 < (x5.length:Int) then (if rdOf false x5 x6=true then (impl_belowOf.l1 k x0 (x5.set (x6:Int).toNat true) x6 x25 x26 (wrap64 (x27 + 1))) else (if 0≤(rd x25 x27) then (if (rd x25 x27) < (x5.length:Int) then (impl_belowOf.l1 k x0 (x5.set (x6:Int).toNat (rdOf false x5 (rd x25 x27))) x6 x25 x26 (wrap64 (x27 + 1))) else (none)) else (none))) else (none)) else (none)) else (none)) else (none)) else (impl_belowOf.l0 k x0 x5 (wrap64 (x6 + 1)))
end
def impl_belowOf.f (k:Nat) (l0:List (List Int)) (a1:Int):Option (List Bool):=(impl_markOf.f k (l0.length:Int) (([a1]:List Int))).bind fun t449=>(impl_belowOf.l0 k l0 t449 (wrap64 (a1 + 1)))
set_option maxHeartbeats 8000000 in
set_option maxRecDepth 100000 in
theorem impl_belowOf.calls (k:Nat) (A0:Option Addr) (c0:Nat) (l0:List (List Int)) (a1:Int) (r:List Bool) (w:World) (hr0:Kd.C (Kd.slice 3 (Kd.int .i64)) w A0 l0.length l0) (hc0:l0.length≤c0) (h:impl_belowOf.f k l0 a1=some r) :
  Calls Try.prog 58 #[.slice A0 l0.length c0,.int .i64 a1] w fun e w'=>∃ v0_:Value,e=.returned (v0_)∧Kd.R Kd.bool 4 w' w.heap.size (fun _=>True) v0_ r∧Below w.heap.size w w':=by
 have HR0:=aM6 hr0
 have HC0:=aM6 hc0
 clear hr0 hc0
 have HB:=aM6 (Below.refl w.heap.size w)
 have H:((impl_markOf.f k (l0.length:Int) (([a1]:List Int))).bind fun t449=>(impl_belowOf.l0 k l0 t449 (wrap64 (a1 + 1))))=some r:=h
 clear h
 obtain ⟨y446,hy446⟩:∃ y_:List Int,y_=(([a1]:List Int)):=⟨_,rfl⟩
 replace H:((impl_markOf.f k (l0.length:Int) y446).bind fun t449=>(impl_belowOf.l0 k l0 t449 (wrap64 (a1 + 1))))=some r:=by first|(rw [hy446];with_reducible exact H)|(have H2_:=(Option.bind_some _ _).symm.trans H;rw [hy446];with_reducible exact H2_)|(have H2_:=(Option.bind_some _ _).symm.trans H;with_reducible exact H2_)|with_reducible exact H|(rw [hy446];exact H)|exact H
 have Ny446:=aM6 hy446
 clear hy446
 replace H:=bI6.mp H
 obtain ⟨t449,A30,H⟩:=H
 replace H:(impl_belowOf.l0 k l0 t449 (wrap64 (a1 + 1)))=some r:=H
 have A3:=aM6 A30
 clear A30
 have H':=aM6 H
 clear H
 go_enter Try.func58,Try.ntmps58
 go_wp2_with (first|((with_reducible refine gate_dst (N:=12) rfl ?_);refine Kd.R_lit (Kd.int .i64) _ 3 ?hg (N:=12) ?hd (xs:=([a1]:List Int)) (inner:=[.int .i64 a1]) (ok:=fun _=>True) (okp:=fun _=>True) ?hr ?hp (fun _ hk=>hk) trivial (Below.refl _ _) (Nat.le_refl _) (by simp) ?_;(case hd=>rfl);(case hg=>rfl);(case hr=>exact zsx6_17);(case hp=>exact (Reps.one (show Kd.M (Kd.int .i64) _ _ _ a1 [.int .i64 a1] from rfl) (Reps.none _ _)));intro v447 w4 ho5 hb hg_ hnew_;clear hg_ hnew_;(first|rw [← Ny446.out] at ho5|(simp only [Int.reduceToNat] at ho5;rw [← Ny446.out] at ho5));have n0_:=aM6 (Kd.R_lower ho5 (bZ6 (zsx6_2)));have n1_:=aM6 (below_step (zsx6_2) hb);clear HB;have HO448:=n0_;have HB:=n1_;clear n0_ n1_ hb ho5;obtain ⟨Ao6,co6,eo6⟩:=Kd.R_slice HO448.out;subst eo6)|((with_reducible refine gate_callee (f:=81) rfl ?_);refine goesL_ (some 13) rfl rfl Try.func81 (zsx6_0) rfl #[.int .i64 (l0.length:Int),.slice Ao6 y446.length co6] rfl (zsx6_1) ?_;(with_reducible refine (impl_markOf.calls k (l0.length:Int) _ _ y446 t449 _ ?side1 ?side2 A3.out).mono ?_);(case side1=>repeat (first|exact (Kd.R_reads' HO448.out).2.2|(with_reducible refine Kd.C_alloc ?_ _)|(with_reducible refine Kd.C_drewN ?_ _)|(with_reducible refine Kd.C_drew ?_)));(case side2=>exact (Kd.R_reads' HO448.out).2.1);rintro e w7 ⟨v450,rfl,ho0,hb⟩;refine ⟨_,rfl,?_⟩;have n0_:=aM6 (Kd.R_below (by (with_reducible repeat (first|apply Kd.R_alloc|apply Kd.R_drewN|apply Kd.R_drew));exact HO448.out) hb);have n1_:=aM6 (Kd.R_lower ho0 (bZ6 (zsx6_2)));have n2_:=aM6 (below_step (zsx6_2) hb);clear HO448 HB;have HO448:=n0_;have HO451:=n1_;have HB:=n2_;clear n0_ n1_ n2_;(try clear hb);(try clear hb2);(try clear hk);(try clear hi);(try clear ho0)))
 go_loopg [6] k (fun kq v6 w'=>∃ (x5_1:List Bool) (x6_1:Int),v6=.int .i64 x6_1∧Aside0 (impl_belowOf.l0 kq l0 x5_1 x6_1=some r)∧Aside0 (kq≤k)∧Aside0 (Kd.R Kd.bool 4 w' w.heap.size (fun _=>True) v450 x5_1)∧Aside0 (Below w.heap.size w w'))
 case atStart=>exact ⟨(t449),(wrap64 (a1 + 1)),(zsx6_3),H',⟨Nat.le_refl _⟩,⟨by (with_reducible repeat (first|apply Kd.R_alloc|apply Kd.R_drewN|apply Kd.R_drew));exact HO451.out⟩,⟨zsx6_2⟩⟩
 case round =>
  clear H'
  try clear p2
  try clear c5
  try clear p6
  obtain ⟨x5_1,x6_1,rfl,HA,HK1,HO_5,HB⟩:=hrel
  cases gk with
  | zero=>exact absurd HA.out (by simp [impl_belowOf.l0])
  | succ k1 =>
   have H:=HA.out
   clear HA
   simp only [impl_belowOf.l0] at H
   by_cases c8:x6_1 < (l0.length:Int)
   ·rw [if_pos c8] at H
    have c8b0:decide (x6_1 < (l0.length:Int))=true:=dT6 c8
    clear c8
    by_cases c9:0≤x6_1
    ·rw [if_pos c9] at H
     have c9b0:decide (0≤x6_1)=true:=dT6 c9
     clear c9
     have H':=aM6 H
     clear H
     have p452:0≤(x6_1:Int):=oD6 (zsx6_4)
     have q452:x6_1 < (l0.length:Int):=oD6 (zsx6_4)
     obtain ⟨ad452,A452_0,c452_0,e452,hx452_0,hl452_0,hi452_0⟩:=at_L5 HR0.out x6_1 p452 q452
     cases e452
     replace hx452_0:=(HB.out.cell (bL6 w _ hx452_0)).trans hx452_0
     have HR452_0:=aM6 hi452_0
     have HC452_0:=aM6 hl452_0
     clear hi452_0 hl452_0
     replace p452:=eq_true p452
     replace q452:=eq_true q452
     go_wp2
     go_loopg [27] k1 (fun kq v27 w'=>∃ (x5_2:List Bool) (x27_2:Int),v27=.int .i64 x27_2∧Aside0 (impl_belowOf.l1 kq l0 x5_2 x6_1 (rd_L5 l0 x6_1) ((rd_L5 l0 x6_1).length:Int) x27_2=some r)∧Aside0 (kq≤k1)∧Aside0 (Kd.R Kd.bool 4 w' w.heap.size (fun _=>True) v450 x5_2)∧Aside0 (Below w.heap.size w w'))
     case atStart=>exact ⟨(x5_1),(0),(zsx6_3),H',⟨Nat.le_refl _⟩,⟨zsx6_5⟩,⟨zsx6_2⟩⟩
     case round =>
      clear H'
      try clear p2
      try clear c4
      try clear p4
      try clear q4
      try clear hx4
      try clear c5
      try clear p6
      try clear c8
      try clear c8b0
      try clear c9
      try clear c9b0
      try clear hx452_0
      try clear p2
      try clear p452
      try clear p6
      try clear q452
      obtain ⟨x5_2,x27_2,rfl,HA,HK2,HO_5,HB⟩:=hrel
      cases gk with
      | zero=>exact absurd HA.out (by simp [impl_belowOf.l1])
      | succ k2 =>
       have H:=HA.out
       clear HA
       simp only [impl_belowOf.l1] at H
       by_cases c10:x27_2 < ((rd_L5 l0 x6_1).length:Int)
       ·rw [if_pos c10] at H
        have c10b0:decide (x27_2 < ((rd_L5 l0 x6_1).length:Int))=true:=dT6 c10
        clear c10
        by_cases c11:0≤x27_2
        ·rw [if_pos c11] at H
         have c11b0:decide (0≤x27_2)=true:=dT6 c11
         clear c11
         by_cases c12:x27_2 < ((rd_L5 l0 x6_1).length:Int)
         ·rw [if_pos c12] at H
          have c12b0:decide (x27_2 < ((rd_L5 l0 x6_1).length:Int))=true:=dT6 c12
          clear c12
          by_cases c13:0≤x6_1
          ·rw [if_pos c13] at H
           have c13b0:decide (0≤x6_1)=true:=dT6 c13
           clear c13
           by_cases c14:x6_1 < (x5_2.length:Int)
           ·rw [if_pos c14] at H
            have c14b0:decide (x6_1 < (x5_2.length:Int))=true:=dT6 c14
            clear c14
            obtain ⟨bq15,hbq15⟩:∃ b_:Bool,b_=(rdOf false x5_2 x6_1):=⟨_,rfl⟩
            replace H:(if bq15=true then (impl_belowOf.l1 k2 l0 (x5_2.set (x6_1:Int).toNat true) x6_1 (rd_L5 l0 x6_1) ((rd_L5 l0 x6_1).length:Int) (wrap64 (x27_2 + 1))) else (if 0≤(rd (rd_L5 l0 x6_1) x27_2) then (if (rd (rd_L5 l0 x6_1) x27_2) < (x5_2.length:Int) then (impl_belowOf.l1 k2 l0 (x5_2.set (x6_1:Int).toNat (rdOf false x5_2 (rd (rd_L5 l0 x6_1) x27_2))) x6_1 (rd_L5 l0 x6_1) ((rd_L5 l0 x6_1).length:Int) (wrap64 (x27_2 + 1))) else (none)) else (none)))=some r:=by rw [← hbq15] at H;exact H
            have Nbq15:=aM6 hbq15
            clear hbq15
            by_cases c16:bq15=true
            ·subst c16
             have H1:(impl_belowOf.l1 k2 l0 (x5_2.set (x6_1:Int).toNat true) x6_1 (rd_L5 l0 x6_1) ((rd_L5 l0 x6_1).length:Int) (wrap64 (x27_2 + 1)))=some r:=by rw [if_pos rfl] at H;exact H
             clear H
             have H:=H1
             clear H1
             obtain ⟨y455,hy455⟩:∃ y_:List Bool,y_=(x5_2.set (x6_1:Int).toNat true):=⟨_,rfl⟩
             replace H:(impl_belowOf.l1 k2 l0 y455 x6_1 (rd_L5 l0 x6_1) ((rd_L5 l0 x6_1).length:Int) (wrap64 (x27_2 + 1)))=some r:=by first|(rw [hy455];with_reducible exact H)|(have H2_:=(Option.bind_some _ _).symm.trans H;rw [hy455];with_reducible exact H2_)|(have H2_:=(Option.bind_some _ _).symm.trans H;with_reducible exact H2_)|with_reducible exact H|(rw [hy455];exact H)|exact H
             have Ny455:=aM6 hy455
             clear hy455
             have H':=aM6 H
             clear H
             have p453:0≤(x27_2:Int):=oD6 (zsx6_4)
             have q453:x27_2 < ((rd_L5 l0 x6_1).length:Int):=oD6 (zsx6_4)
             obtain ⟨ad453,e453,hx453_0⟩:=Kd.at_int HR452_0.out x27_2 p453 q453
             cases e453
             replace hx453_0:=(HB.out.cell (bL6 w _ hx453_0)).trans hx453_0
             replace p453:=eq_true p453
             replace q453:=eq_true q453
             obtain ⟨Ao18,co18,eo18⟩:=Kd.R_slice HO_5.out
             subst eo18
             have p454:0≤(x6_1:Int):=oD6 (zsx6_4)
             have q454:x6_1 < (x5_2.length:Int):=oD6 (zsx6_4)
             obtain ⟨ad454,e454,hx454_0⟩:=Kd.at_bool (Kd.R_reads' HO_5.out).2.2 x6_1 p454 q454
             (try rw [← Nbq15.out] at hx454_0)
             cases e454
             replace p454:=eq_true p454
             replace q454:=eq_true q454
             have p17:0≤(x6_1:Int):=oD6 (zsx6_4)
             have q17:(x6_1:Int) < ((x5_2.length:Int):Int):=oD6 (zsx6_4)
             obtain ⟨go17,co17,eo17,gb17,gl17,cl17,HG17⟩:=Kd.R_form HO_5.out (by omega)
             (first|cases eo17|(injection eo17 with ea_ en_ ec_;(first|subst ea_|(injection ea_ with ea_;subst ea_));subst ec_;clear en_))
             have GB17:=aM6 gb17
             have GG17:=aM6 HG17
             clear gb17 gl17 HG17
             (first|simp only [add_plain] at hx454_0|skip)
             obtain ⟨hx17_0,hf17_0⟩:=Kd.R_celln false HO_5.out (x6_1:Int) p17 q17
             replace p17:=eq_true p17
             replace q17:=eq_true q17
             have HP19:=Kd.R_putg HO_5.out (x6_1:Int) true
             go_wp2_with (first|((with_reducible refine gate_store (t:=4) (p:=43) rfl ?_);refine store_event (t:=4) (p:=43) (v:=?vo_w20) (w1:=(wr.setCell ⟨go17,(x6_1:Int).toNat,none⟩ (.bool true))) ?hg ?ho ?hn ?hr ?_;(case ho=>rfl);(case hg=>rfl);(case hn=>rfl);(case hr=>exact zsx6_17);intro w20 hw;have hg:wr.grownBy w20 (some go17):=(by rw [hw];exact HP19.2);have hp_:Kd.R Kd.bool 4 w20 w.heap.size (fun _=>True) (.slice (some ⟨go17,0,none⟩) x5_2.length co18) y455:=(by rw [hw,Ny455.out];exact HP19.1);clear HP19;have n0_:=aM6 (hp_);have n1_:=aM6 ((by rw [hw];exact below_set (HB.out) GB17.out:Below w.heap.size w w20));clear HO_5 HB;have HO_5:=n0_;have HB:=n1_;clear n0_ n1_ hg hw hp_))
             go_roundg k2
             case measure=>have:=HK1.out;have:=HK2.out;omega
             case rel=>exact ⟨(y455),(wrap64 (x27_2 + 1)),(zsx6_3),H',⟨zsx6_6⟩,⟨zsx6_5⟩,⟨zsx6_2⟩⟩
            ·replace c16:=Bool.eq_false_iff.mpr c16
             subst c16
             have H1:(if 0≤(rd (rd_L5 l0 x6_1) x27_2) then (if (rd (rd_L5 l0 x6_1) x27_2) < (x5_2.length:Int) then (impl_belowOf.l1 k2 l0 (x5_2.set (x6_1:Int).toNat (rdOf false x5_2 (rd (rd_L5 l0 x6_1) x27_2))) x6_1 (rd_L5 l0 x6_1) ((rd_L5 l0 x6_1).length:Int) (wrap64 (x27_2 + 1))) else (none)) else (none))=some r:=by rw [if_neg (show ¬ (false=true) by decide)] at H;exact H
             clear H
             have H:=H1
             clear H1
             by_cases c21:0≤(rd (rd_L5 l0 x6_1) x27_2)
             ·rw [if_pos c21] at H
              have c21b0:decide (0≤(rd (rd_L5 l0 x6_1) x27_2))=true:=dT6 c21
              clear c21
              by_cases c22:(rd (rd_L5 l0 x6_1) x27_2) < (x5_2.length:Int)
              ·rw [if_pos c22] at H
               have c22b0:decide ((rd (rd_L5 l0 x6_1) x27_2) < (x5_2.length:Int))=true:=dT6 c22
               clear c22
               obtain ⟨y457,hy457⟩:∃ y_:List Bool,y_=(x5_2.set (x6_1:Int).toNat (rdOf false x5_2 (rd (rd_L5 l0 x6_1) x27_2))):=⟨_,rfl⟩
               replace H:(impl_belowOf.l1 k2 l0 y457 x6_1 (rd_L5 l0 x6_1) ((rd_L5 l0 x6_1).length:Int) (wrap64 (x27_2 + 1)))=some r:=by first|(rw [hy457];with_reducible exact H)|(have H2_:=(Option.bind_some _ _).symm.trans H;rw [hy457];with_reducible exact H2_)|(have H2_:=(Option.bind_some _ _).symm.trans H;with_reducible exact H2_)|with_reducible exact H|(rw [hy457];exact H)|exact H
               have Ny457:=aM6 hy457
               clear hy457
               have H':=aM6 H
               clear H
               have p453:0≤(x27_2:Int):=oD6 (zsx6_4)
               have q453:x27_2 < ((rd_L5 l0 x6_1).length:Int):=oD6 (zsx6_4)
               obtain ⟨ad453,e453,hx453_0⟩:=Kd.at_int HR452_0.out x27_2 p453 q453
               cases e453
               replace hx453_0:=(HB.out.cell (bL6 w _ hx453_0)).trans hx453_0
               replace p453:=eq_true p453
               replace q453:=eq_true q453
               obtain ⟨Ao24,co24,eo24⟩:=Kd.R_slice HO_5.out
               subst eo24
               have p454:0≤(x6_1:Int):=oD6 (zsx6_4)
               have q454:x6_1 < (x5_2.length:Int):=oD6 (zsx6_4)
               obtain ⟨ad454,e454,hx454_0⟩:=Kd.at_bool (Kd.R_reads' HO_5.out).2.2 x6_1 p454 q454
               (try rw [← Nbq15.out] at hx454_0)
               cases e454
               replace p454:=eq_true p454
               replace q454:=eq_true q454
               have p456:0≤((rd (rd_L5 l0 x6_1) x27_2):Int):=oD6 (zsx6_4)
               have q456:(rd (rd_L5 l0 x6_1) x27_2) < (x5_2.length:Int):=oD6 (zsx6_4)
               obtain ⟨ad456,e456,hx456_0⟩:=Kd.at_bool (Kd.R_reads' HO_5.out).2.2 (rd (rd_L5 l0 x6_1) x27_2) p456 q456
               (try rw [← Nbq15.out] at hx456_0)
               obtain rfl:ad454=ad456:=(by injection e456)
               replace p456:=eq_true p456
               replace q456:=eq_true q456
               have p23:0≤(x6_1:Int):=oD6 (zsx6_4)
               have q23:(x6_1:Int) < ((x5_2.length:Int):Int):=oD6 (zsx6_4)
               obtain ⟨go23,co23,eo23,gb23,gl23,cl23,HG23⟩:=Kd.R_form HO_5.out (by omega)
               (first|cases eo23|(injection eo23 with ea_ en_ ec_;(first|subst ea_|(injection ea_ with ea_;subst ea_));subst ec_;clear en_))
               have GB23:=aM6 gb23
               have GG23:=aM6 HG23
               clear gb23 gl23 HG23
               (first|simp only [add_plain] at hx454_0|skip)
               (first|simp only [add_plain] at hx456_0|skip)
               obtain ⟨hx23_0,hf23_0⟩:=Kd.R_celln false HO_5.out (x6_1:Int) p23 q23
               replace p23:=eq_true p23
               replace q23:=eq_true q23
               have HP25:=Kd.R_putg HO_5.out (x6_1:Int) (rdOf false x5_2 (rd (rd_L5 l0 x6_1) x27_2))
               go_wp2_with (first|((with_reducible refine gate_store (t:=4) (p:=43) rfl ?_);refine store_event (t:=4) (p:=43) (v:=?vo_w26) (w1:=(wr.setCell ⟨go23,(x6_1:Int).toNat,none⟩ (.bool (rdOf false x5_2 (rd (rd_L5 l0 x6_1) x27_2))))) ?hg ?ho ?hn ?hr ?_;(case ho=>rfl);(case hg=>rfl);(case hn=>rfl);(case hr=>exact zsx6_17);intro w26 hw;have hg:wr.grownBy w26 (some go23):=(by rw [hw];exact HP25.2);have hp_:Kd.R Kd.bool 4 w26 w.heap.size (fun _=>True) (.slice (some ⟨go23,0,none⟩) x5_2.length co24) y457:=(by rw [hw,Ny457.out];exact HP25.1);clear HP25;have n0_:=aM6 (hp_);have n1_:=aM6 ((by rw [hw];exact below_set (HB.out) GB23.out:Below w.heap.size w w26));clear HO_5 HB;have HO_5:=n0_;have HB:=n1_;clear n0_ n1_ hg hw hp_))
               go_roundg k2
               case measure=>have:=HK1.out;have:=HK2.out;omega
               case rel=>exact ⟨(y457),(wrap64 (x27_2 + 1)),(zsx6_3),H',⟨zsx6_6⟩,⟨zsx6_5⟩,⟨zsx6_2⟩⟩
              ·rw [if_neg c22] at H
               exact absurd H (by simp)
             ·rw [if_neg c21] at H
              exact absurd H (by simp)
           ·rw [if_neg c14] at H
            exact absurd H (by simp)
          ·rw [if_neg c13] at H
           exact absurd H (by simp)
         ·rw [if_neg c12] at H
          exact absurd H (by simp)
        ·rw [if_neg c11] at H
         exact absurd H (by simp)
       ·rw [if_neg c10] at H
        have c10b0:decide (x27_2 < ((rd_L5 l0 x6_1).length:Int))=false:=decide_eq_false c10
        clear c10
        have H':=aM6 H
        clear H
        go_wp2
        go_roundg k2
        case measure=>have:=HK1.out;have:=HK2.out;omega
        case rel=>exact ⟨(x5_2),(wrap64 (x6_1 + 1)),(zsx6_3),H',⟨zsx6_6⟩,⟨zsx6_5⟩,⟨zsx6_2⟩⟩
    ·rw [if_neg c9] at H
     exact absurd H (by simp)
   ·rw [if_neg c8] at H
    have c8b0:decide (x6_1 < (l0.length:Int))=false:=decide_eq_false c8
    clear c8
    obtain rfl:=Option.some.inj H
    go_wp2
    go_ret
    exact ⟨_,zsx6_9,zsx6_5,zsx6_2⟩
def impl_BelowOf.j0:Nat→List (List Int)→Int→Bool→Option (List Int × Bool)
 | 0,_,_,_=>none
 | k + 1,x0,x1,x18=>if x18=true then (some (([]:List Int),false)) else ((impl_belowOf.f k x0 x1).bind fun t459=>((impl_listOf.f k t459).bind fun t462=>(some (t462,true))))
def impl_BelowOf.f (k:Nat) (l0:List (List Int)) (a1:Int):Option (List Int × Bool):=(impl_AreArcs.f k l0).bind fun t458=>(if t458=true then (if a1 < 0 then (impl_BelowOf.j0 k l0 a1 true) else (impl_BelowOf.j0 k l0 a1 (decide (a1 ≥ (l0.length:Int))))) else (impl_BelowOf.j0 k l0 a1 true))
set_option maxHeartbeats 8000000 in
set_option maxRecDepth 100000 in
theorem impl_BelowOf.calls (k:Nat) (A0:Option Addr) (c0:Nat) (l0:List (List Int)) (a1:Int) (r1:List Int) (r2:Bool) (w:World) (hr0:Kd.C (Kd.slice 3 (Kd.int .i64)) w A0 l0.length l0) (hc0:l0.length≤c0) (h:impl_BelowOf.f k l0 a1=some (r1,r2)) :
  Calls Try.prog 15 #[.slice A0 l0.length c0,.int .i64 a1] w fun e w'=>∃ v0_:Value,e=.returned (.tuple #[v0_,.bool r2])∧Kd.R (Kd.int .i64) 3 w' w.heap.size (fun _=>True) v0_ r1∧Below w.heap.size w w':=by
 have HR0:=aM6 hr0
 have HC0:=aM6 hc0
 clear hr0 hc0
 have HB:=aM6 (Below.refl w.heap.size w)
 have H:((impl_AreArcs.f k l0).bind fun t458=>(if t458=true then (if a1 < 0 then (impl_BelowOf.j0 k l0 a1 true) else (impl_BelowOf.j0 k l0 a1 (decide (a1 ≥ (l0.length:Int))))) else (impl_BelowOf.j0 k l0 a1 true)))=some (r1,r2):=h
 clear h
 have HC3:=aM6 H
 clear H
 go_enter Try.func15,Try.ntmps15
 go_upto_region 1 with (fail)
 go_cut [18] (fun v18 wc=>∃ (kq:Nat) (x18_2:Bool),v18=.bool x18_2∧Aside0 (impl_BelowOf.j0 kq l0 a1 x18_2=some (r1,r2))∧Aside0 (kq≤k)∧Aside0 (Below w.heap.size w wc))
 case first =>
  have H:=HC3.out
  clear HC3
  replace H:=bI6.mp H
  obtain ⟨t458,A40,H⟩:=H
  replace H:(if t458=true then (if a1 < 0 then (impl_BelowOf.j0 k l0 a1 true) else (impl_BelowOf.j0 k l0 a1 (decide (a1 ≥ (l0.length:Int))))) else (impl_BelowOf.j0 k l0 a1 true))=some (r1,r2):=H
  have A4:=aM6 A40
  clear A40
  by_cases c5:t458=true
  ·subst c5
   have H1:(if a1 < 0 then (impl_BelowOf.j0 k l0 a1 true) else (impl_BelowOf.j0 k l0 a1 (decide (a1 ≥ (l0.length:Int)))))=some (r1,r2):=by rw [if_pos rfl] at H;exact H
   clear H
   have H:=H1
   clear H1
   by_cases c6:a1 < 0
   ·rw [if_pos c6] at H
    have c6b0:decide (a1 < 0)=true:=dT6 c6
    clear c6
    (first|rw [c6b0]|(simp only [i64_w,i32_w];rw [c6b0])|skip)
    have H':=aM6 H
    clear H
    go_wp2_with (first|((with_reducible refine gate_callee (f:=18) rfl ?_);refine goesL_ (some 7) rfl rfl Try.func18 (zsx6_0) rfl #[.slice A0 l0.length c0] rfl (zsx6_1) ?_;(with_reducible refine (impl_AreArcs.calls k _ _ l0 true _ ?side1 ?side2 A4.out).mono ?_);(case side1=>exact zsx6_18);(case side2=>exact HC0.out);rintro e w' ⟨rfl,⟨nd,rfl⟩⟩;refine ⟨_,rfl,?_⟩))
    go_meet
    case rel=>exact ⟨_,(true),(zsx6_3),H',⟨zsx6_10⟩,⟨zsx6_2⟩⟩
   ·rw [if_neg c6] at H
    have c6b0:decide (a1 < 0)=false:=decide_eq_false c6
    clear c6
    (first|rw [c6b0]|(simp only [i64_w,i32_w];rw [c6b0])|skip)
    have H':=aM6 H
    clear H
    go_wp2_with (first|((with_reducible refine gate_callee (f:=18) rfl ?_);refine goesL_ (some 7) rfl rfl Try.func18 (zsx6_0) rfl #[.slice A0 l0.length c0] rfl (zsx6_1) ?_;(with_reducible refine (impl_AreArcs.calls k _ _ l0 true _ ?side1 ?side2 A4.out).mono ?_);(case side1=>exact zsx6_18);(case side2=>exact HC0.out);rintro e w' ⟨rfl,⟨nd,rfl⟩⟩;refine ⟨_,rfl,?_⟩))
    go_meet
    case rel=>exact ⟨_,(decide (a1 ≥ (l0.length:Int))),(zsx6_3),H',⟨zsx6_10⟩,⟨zsx6_2⟩⟩
  ·replace c5:=Bool.eq_false_iff.mpr c5
   subst c5
   have H1:(impl_BelowOf.j0 k l0 a1 true)=some (r1,r2):=by rw [if_neg (show ¬ (false=true) by decide)] at H;exact H
   clear H
   have H:=H1
   clear H1
   have H':=aM6 H
   clear H
   go_wp2_with (first|((with_reducible refine gate_callee (f:=18) rfl ?_);refine goesL_ (some 7) rfl rfl Try.func18 (zsx6_0) rfl #[.slice A0 l0.length c0] rfl (zsx6_1) ?_;(with_reducible refine (impl_AreArcs.calls k _ _ l0 false _ ?side1 ?side2 A4.out).mono ?_);(case side1=>exact zsx6_18);(case side2=>exact HC0.out);rintro e w' ⟨rfl,⟨nd,rfl⟩⟩;refine ⟨_,rfl,?_⟩))
   go_meet
   case rel=>exact ⟨_,(true),(zsx6_3),H',⟨zsx6_10⟩,⟨zsx6_2⟩⟩
 case rest =>
  clear HC3
  try clear c1
  try clear p2
  try clear c5
  try clear c6
  try clear c6b0
  obtain ⟨kq,x18_2,rfl,HA,HJ2,HB⟩:=hcut
  cases kq with
  | zero=>exact absurd HA.out (by simp [impl_BelowOf.j0])
  | succ kj2 =>
   have H:=HA.out
   clear HA
   simp only [impl_BelowOf.j0] at H
   by_cases c7:x18_2=true
   ·subst c7
    have H1:(some (([]:List Int),false))=some (r1,r2):=by rw [if_pos rfl] at H;exact H
    clear H
    have H:=H1
    clear H1
    simp only [Option.some.injEq,Prod.mk.injEq] at H
    obtain ⟨rfl,rfl⟩:=H
    go_wp2
    go_ret2
    exact ⟨_,zsx6_9,zsx6_11,zsx6_2⟩
   ·replace c7:=Bool.eq_false_iff.mpr c7
    subst c7
    have H1:((impl_belowOf.f kj2 l0 a1).bind fun t459=>((impl_listOf.f kj2 t459).bind fun t462=>(some (t462,true))))=some (r1,r2):=by rw [if_neg (show ¬ (false=true) by decide)] at H;exact H
    clear H
    have H:=H1
    clear H1
    replace H:=bI6.mp H
    obtain ⟨t459,A80,H⟩:=H
    replace H:((impl_listOf.f kj2 t459).bind fun t462=>(some (t462,true)))=some (r1,r2):=H
    have A8:=aM6 A80
    clear A80
    replace H:=bI6.mp H
    obtain ⟨t462,A90,H⟩:=H
    replace H:(some (t462,true))=some (r1,r2):=H
    have A9:=aM6 A90
    clear A90
    simp only [Option.some.injEq,Prod.mk.injEq] at H
    obtain ⟨rfl,rfl⟩:=H
    go_wp2_with (first|((with_reducible refine gate_callee (f:=58) rfl ?_);refine goesL_ (some 21) rfl rfl Try.func58 (zsx6_0) rfl #[.slice A0 l0.length c0,.int .i64 a1] rfl (zsx6_1) ?_;(with_reducible refine (impl_belowOf.calls kj2 _ _ l0 a1 t459 _ ?side1 ?side2 A8.out).mono ?_);(case side1=>exact zsx6_18);(case side2=>exact HC0.out);rintro e w10 ⟨v460,rfl,ho0,hb⟩;refine ⟨_,rfl,?_⟩;have n0_:=aM6 (Kd.R_lower ho0 (bZ6 (zsx6_2)));have n1_:=aM6 (below_step (zsx6_2) hb);clear HB;have HO461:=n0_;have HB:=n1_;clear n0_ n1_;(try clear hb);(try clear hb2);(try clear hk);(try clear hi);(try clear ho0);obtain ⟨Ao11,co11,eo11⟩:=Kd.R_slice HO461.out;subst eo11)|((with_reducible refine gate_callee (f:=54) rfl ?_);refine goesL_ (some 22) rfl rfl Try.func54 (zsx6_0) rfl #[.slice Ao11 t459.length co11] rfl (zsx6_1) ?_;(with_reducible refine (impl_listOf.calls kj2 _ _ t459 t462 _ ?side1 ?side2 A9.out).mono ?_);(case side1=>repeat (first|exact (Kd.R_reads' HO461.out).2.2|(with_reducible refine Kd.C_alloc ?_ _)|(with_reducible refine Kd.C_drewN ?_ _)|(with_reducible refine Kd.C_drew ?_)));(case side2=>exact (Kd.R_reads' HO461.out).2.1);rintro e w12 ⟨v463,rfl,ho0,hb⟩;refine ⟨_,rfl,?_⟩;have n0_:=aM6 (Kd.R_below (by (with_reducible repeat (first|apply Kd.R_alloc|apply Kd.R_drewN|apply Kd.R_drew));exact HO461.out) hb);have n1_:=aM6 (Kd.R_lower ho0 (bZ6 (zsx6_2)));have n2_:=aM6 (below_step (zsx6_2) hb);clear HO461 HB;have HO461:=n0_;have HO464:=n1_;have HB:=n2_;clear n0_ n1_ n2_;(try clear hb);(try clear hb2);(try clear hk);(try clear hi);(try clear ho0)))
    go_ret2
    exact ⟨_,zsx6_9,by (with_reducible repeat (first|apply Kd.R_alloc|apply Kd.R_drewN|apply Kd.R_drew));exact HO464.out,zsx6_2⟩
mutual
def spec_BelowOf.l0:Nat→List Bool→List (List Int)→Int→Int→Option (List Int × Bool)
 | 0,_,_,_,_=>none
 | k + 1,x6,x20,x21,x22=>if x22 < x21 then (if 0≤x22 then (if x22 < (x20.length:Int) then (spec_BelowOf.l1 k x6 x22 x20 x21 x22 (rd_L5 x20 x22) ((rd_L5 x20 x22).length:Int) 0) else (none)) else (none)) else ((spec_clList.f k x6).bind fun t472=>(some (t472,true)))
def spec_BelowOf.l1:Nat→List Bool→Int→List (List Int)→Int→Int→List Int→Int→Int→Option (List Int × Bool)
 | 0,_,_,_,_,_,_,_,_=>none
 | k + 1,x6,x7,x20,x21,x22,x27,x28,x29=>if x29 < x28 then (if 0≤x29 then (if x29 < (x27.length:Int) then (if 0≤x7 then (if x7 < (x6.length:Int) then (if rdOf false x6 x7=true then (spec_BelowOf.l1 k (x6.set (x7:Int).toNat true) x7 x20 x21 x22 x27 x28 (wrap64 (x29 + 1))) else (if 0≤(rd x27 x29) then (if (rd x27 x29) < (x6.length:Int) then (spec_BelowOf.l1 k (x6.set (x7:Int).toNat (rdOf false x6 (rd x27 x29))) x7 x20 x21 x22 x27 x28 (wrap64 (x29 + 1))) else (none)) else (none))) else (none)) else (none)) else (none)) else (none)) else (spec_BelowOf.l0 k x6 x20 x21 (wrap64 (x22 + 1)))
end
def spec_BelowOf.f (k:Nat) (l0:List (List Int)) (a1:Int):Option (List Int × Bool):=(spec_clHas.f k l0 a1).bind fun t465=>(if t465=true then ((spec_clMarks.f k (l0.length:Int) (([a1]:List Int))).bind fun t469=>(spec_BelowOf.l0 k t469 l0 (l0.length:Int) 0)) else (some (([]:List Int),false)))
set_option maxHeartbeats 8000000 in
set_option maxRecDepth 100000 in
theorem spec_BelowOf.calls (k:Nat) (A0:Option Addr) (c0:Nat) (l0:List (List Int)) (a1:Int) (r1:List Int) (r2:Bool) (w:World) (hr0:Kd.C (Kd.slice 3 (Kd.int .i64)) w A0 l0.length l0) (hc0:l0.length≤c0) (h:spec_BelowOf.f k l0 a1=some (r1,r2)) :
  Calls Try.prog 16 #[.slice A0 l0.length c0,.int .i64 a1] w fun e w'=>∃ v0_:Value,e=.returned (.tuple #[v0_,.bool r2])∧Kd.R (Kd.int .i64) 3 w' w.heap.size (fun _=>True) v0_ r1∧Below w.heap.size w w':=by
 have HR0:=aM6 hr0
 have HC0:=aM6 hc0
 clear hr0 hc0
 have HB:=aM6 (Below.refl w.heap.size w)
 have H:((spec_clHas.f k l0 a1).bind fun t465=>(if t465=true then ((spec_clMarks.f k (l0.length:Int) (([a1]:List Int))).bind fun t469=>(spec_BelowOf.l0 k t469 l0 (l0.length:Int) 0)) else (some (([]:List Int),false))))=some (r1,r2):=h
 clear h
 replace H:=bI6.mp H
 obtain ⟨t465,A30,H⟩:=H
 replace H:(if t465=true then ((spec_clMarks.f k (l0.length:Int) (([a1]:List Int))).bind fun t469=>(spec_BelowOf.l0 k t469 l0 (l0.length:Int) 0)) else (some (([]:List Int),false)))=some (r1,r2):=H
 have A3:=aM6 A30
 clear A30
 by_cases c4:t465=true
 ·subst c4
  have H1:((spec_clMarks.f k (l0.length:Int) (([a1]:List Int))).bind fun t469=>(spec_BelowOf.l0 k t469 l0 (l0.length:Int) 0))=some (r1,r2):=by rw [if_pos rfl] at H;exact H
  clear H
  have H:=H1
  clear H1
  obtain ⟨y466,hy466⟩:∃ y_:List Int,y_=(([a1]:List Int)):=⟨_,rfl⟩
  replace H:((spec_clMarks.f k (l0.length:Int) y466).bind fun t469=>(spec_BelowOf.l0 k t469 l0 (l0.length:Int) 0))=some (r1,r2):=by first|(rw [hy466];with_reducible exact H)|(have H2_:=(Option.bind_some _ _).symm.trans H;rw [hy466];with_reducible exact H2_)|(have H2_:=(Option.bind_some _ _).symm.trans H;with_reducible exact H2_)|with_reducible exact H|(rw [hy466];exact H)|exact H
  have Ny466:=aM6 hy466
  clear hy466
  replace H:=bI6.mp H
  obtain ⟨t469,A50,H⟩:=H
  replace H:(spec_BelowOf.l0 k t469 l0 (l0.length:Int) 0)=some (r1,r2):=H
  have A5:=aM6 A50
  clear A50
  have H':=aM6 H
  clear H
  go_enter Try.func16,Try.ntmps16
  go_wp2_with (first|((with_reducible refine gate_callee (f:=56) rfl ?_);refine goesL_ (some 13) rfl rfl Try.func56 (zsx6_0) rfl #[.slice A0 l0.length c0,.int .i64 a1] rfl (zsx6_1) ?_;(with_reducible refine (spec_clHas.calls k _ _ l0 a1 true _ ?side1 ?side2 A3.out).mono ?_);(case side1=>exact zsx6_20);(case side2=>exact HC0.out);rintro e w' ⟨rfl,⟨nd,rfl⟩⟩;refine ⟨_,rfl,?_⟩)|((with_reducible refine gate_dst (N:=18) rfl ?_);refine Kd.R_lit (Kd.int .i64) _ 3 ?hg (N:=18) ?hd (xs:=([a1]:List Int)) (inner:=[.int .i64 a1]) (ok:=fun _=>True) (okp:=fun _=>True) ?hr ?hp (fun _ hk=>hk) trivial (Below.refl _ _) (Nat.le_refl _) (by simp) ?_;(case hd=>rfl);(case hg=>rfl);(case hr=>exact zsx6_17);(case hp=>exact (Reps.one (show Kd.M (Kd.int .i64) _ _ _ a1 [.int .i64 a1] from rfl) (Reps.none _ _)));intro v467 w6 ho7 hb hg_ hnew_;clear hg_ hnew_;(first|rw [← Ny466.out] at ho7|(simp only [Int.reduceToNat] at ho7;rw [← Ny466.out] at ho7));have n0_:=aM6 (Kd.R_lower ho7 (bZ6 (zsx6_2)));have n1_:=aM6 (below_step (zsx6_2) hb);clear HB;have HO468:=n0_;have HB:=n1_;clear n0_ n1_ hb ho7;obtain ⟨Ao8,co8,eo8⟩:=Kd.R_slice HO468.out;subst eo8)|((with_reducible refine gate_callee (f:=59) rfl ?_);refine goesL_ (some 19) rfl rfl Try.func59 (zsx6_0) rfl #[.int .i64 (l0.length:Int),.slice Ao8 y466.length co8] rfl (zsx6_1) ?_;(with_reducible refine (spec_clMarks.calls k (l0.length:Int) _ _ y466 t469 _ ?side1 ?side2 A5.out).mono ?_);(case side1=>repeat (first|exact (Kd.R_reads' HO468.out).2.2|(with_reducible refine Kd.C_alloc ?_ _)|(with_reducible refine Kd.C_drewN ?_ _)|(with_reducible refine Kd.C_drew ?_)));(case side2=>exact (Kd.R_reads' HO468.out).2.1);rintro e w9 ⟨v470,rfl,ho0,hb⟩;refine ⟨_,rfl,?_⟩;have n0_:=aM6 (Kd.R_below (by (with_reducible repeat (first|apply Kd.R_alloc|apply Kd.R_drewN|apply Kd.R_drew));exact HO468.out) hb);have n1_:=aM6 (Kd.R_lower ho0 (bZ6 (zsx6_2)));have n2_:=aM6 (below_step (zsx6_2) hb);clear HO468 HB;have HO468:=n0_;have HO471:=n1_;have HB:=n2_;clear n0_ n1_ n2_;(try clear hb);(try clear hb2);(try clear hk);(try clear hi);(try clear ho0)))
  go_loopg [22] k (fun kq v22 w'=>∃ (x6_1:List Bool) (x22_1:Int),v22=.int .i64 x22_1∧Aside0 (spec_BelowOf.l0 kq x6_1 l0 (l0.length:Int) x22_1=some (r1,r2))∧Aside0 (kq≤k)∧Aside0 (Kd.R Kd.bool 4 w' w.heap.size (fun _=>True) v470 x6_1)∧Aside0 (Below w.heap.size w w'))
  case atStart=>exact ⟨(t469),(0),(zsx6_3),H',⟨Nat.le_refl _⟩,⟨by (with_reducible repeat (first|apply Kd.R_alloc|apply Kd.R_drewN|apply Kd.R_drew));exact HO471.out⟩,⟨zsx6_2⟩⟩
  case round =>
   clear H'
   try clear c1
   try clear p2
   try clear c4
   try clear c5
   obtain ⟨x6_1,x22_1,rfl,HA,HK1,HO_6,HB⟩:=hrel
   cases gk with
   | zero=>exact absurd HA.out (by simp [spec_BelowOf.l0])
   | succ k1 =>
    have H:=HA.out
    clear HA
    simp only [spec_BelowOf.l0] at H
    by_cases c10:x22_1 < (l0.length:Int)
    ·rw [if_pos c10] at H
     have c10b0:decide (x22_1 < (l0.length:Int))=true:=dT6 c10
     clear c10
     by_cases c11:0≤x22_1
     ·rw [if_pos c11] at H
      have c11b0:decide (0≤x22_1)=true:=dT6 c11
      clear c11
      by_cases c12:x22_1 < (l0.length:Int)
      ·rw [if_pos c12] at H
       have c12b0:decide (x22_1 < (l0.length:Int))=true:=dT6 c12
       clear c12
       have H':=aM6 H
       clear H
       have p475:0≤(x22_1:Int):=oD6 (zsx6_4)
       have q475:x22_1 < (l0.length:Int):=oD6 (zsx6_4)
       obtain ⟨ad475,A475_0,c475_0,e475,hx475_0,hl475_0,hi475_0⟩:=at_L5 HR0.out x22_1 p475 q475
       cases e475
       replace hx475_0:=(HB.out.cell (bL6 w _ hx475_0)).trans hx475_0
       have HR475_0:=aM6 hi475_0
       have HC475_0:=aM6 hl475_0
       clear hi475_0 hl475_0
       replace p475:=eq_true p475
       replace q475:=eq_true q475
       go_wp2
       go_loopg [29] k1 (fun kq v29 w'=>∃ (x6_2:List Bool) (x29_2:Int),v29=.int .i64 x29_2∧Aside0 (spec_BelowOf.l1 kq x6_2 x22_1 l0 (l0.length:Int) x22_1 (rd_L5 l0 x22_1) ((rd_L5 l0 x22_1).length:Int) x29_2=some (r1,r2))∧Aside0 (kq≤k1)∧Aside0 (Kd.R Kd.bool 4 w' w.heap.size (fun _=>True) v470 x6_2)∧Aside0 (Below w.heap.size w w'))
       case atStart=>exact ⟨(x6_1),(0),(zsx6_3),H',⟨Nat.le_refl _⟩,⟨zsx6_15⟩,⟨zsx6_2⟩⟩
       case round =>
        clear H'
        try clear c1
        try clear p2
        try clear c4
        try clear p4
        try clear q4
        try clear hx4
        try clear c5
        try clear c10
        try clear c10b0
        try clear c11
        try clear c11b0
        try clear c12
        try clear c12b0
        try clear hx475_0
        try clear p2
        try clear p475
        try clear q475
        obtain ⟨x6_2,x29_2,rfl,HA,HK2,HO_6,HB⟩:=hrel
        cases gk with
        | zero=>exact absurd HA.out (by simp [spec_BelowOf.l1])
        | succ k2 =>
         have H:=HA.out
         clear HA
         simp only [spec_BelowOf.l1] at H
         by_cases c13:x29_2 < ((rd_L5 l0 x22_1).length:Int)
         ·rw [if_pos c13] at H
          have c13b0:decide (x29_2 < ((rd_L5 l0 x22_1).length:Int))=true:=dT6 c13
          clear c13
          by_cases c14:0≤x29_2
          ·rw [if_pos c14] at H
           have c14b0:decide (0≤x29_2)=true:=dT6 c14
           clear c14
           by_cases c15:x29_2 < ((rd_L5 l0 x22_1).length:Int)
           ·rw [if_pos c15] at H
            have c15b0:decide (x29_2 < ((rd_L5 l0 x22_1).length:Int))=true:=dT6 c15
            clear c15
            by_cases c16:0≤x22_1
            ·rw [if_pos c16] at H
             have c16b0:decide (0≤x22_1)=true:=dT6 c16
             clear c16
             by_cases c17:x22_1 < (x6_2.length:Int)
             ·rw [if_pos c17] at H
              have c17b0:decide (x22_1 < (x6_2.length:Int))=true:=dT6 c17
              clear c17
              obtain ⟨bq18,hbq18⟩:∃ b_:Bool,b_=(rdOf false x6_2 x22_1):=⟨_,rfl⟩
              replace H:(if bq18=true then (spec_BelowOf.l1 k2 (x6_2.set (x22_1:Int).toNat true) x22_1 l0 (l0.length:Int) x22_1 (rd_L5 l0 x22_1) ((rd_L5 l0 x22_1).length:Int) (wrap64 (x29_2 + 1))) else (if 0≤(rd (rd_L5 l0 x22_1) x29_2) then (if (rd (rd_L5 l0 x22_1) x29_2) < (x6_2.length:Int) then (spec_BelowOf.l1 k2 (x6_2.set (x22_1:Int).toNat (rdOf false x6_2 (rd (rd_L5 l0 x22_1) x29_2))) x22_1 l0 (l0.length:Int) x22_1 (rd_L5 l0 x22_1) ((rd_L5 l0 x22_1).length:Int) (wrap64 (x29_2 + 1))) else (none)) else (none)))=some (r1,r2):=by rw [← hbq18] at H;exact H
              have Nbq18:=aM6 hbq18
              clear hbq18
              by_cases c19:bq18=true
              ·subst c19
               have H1:(spec_BelowOf.l1 k2 (x6_2.set (x22_1:Int).toNat true) x22_1 l0 (l0.length:Int) x22_1 (rd_L5 l0 x22_1) ((rd_L5 l0 x22_1).length:Int) (wrap64 (x29_2 + 1)))=some (r1,r2):=by rw [if_pos rfl] at H;exact H
               clear H
               have H:=H1
               clear H1
               obtain ⟨y478,hy478⟩:∃ y_:List Bool,y_=(x6_2.set (x22_1:Int).toNat true):=⟨_,rfl⟩
               replace H:(spec_BelowOf.l1 k2 y478 x22_1 l0 (l0.length:Int) x22_1 (rd_L5 l0 x22_1) ((rd_L5 l0 x22_1).length:Int) (wrap64 (x29_2 + 1)))=some (r1,r2):=by first|(rw [hy478];with_reducible exact H)|(have H2_:=(Option.bind_some _ _).symm.trans H;rw [hy478];with_reducible exact H2_)|(have H2_:=(Option.bind_some _ _).symm.trans H;with_reducible exact H2_)|with_reducible exact H|(rw [hy478];exact H)|exact H
               have Ny478:=aM6 hy478
               clear hy478
               have H':=aM6 H
               clear H
               have p476:0≤(x29_2:Int):=oD6 (zsx6_4)
               have q476:x29_2 < ((rd_L5 l0 x22_1).length:Int):=oD6 (zsx6_4)
               obtain ⟨ad476,e476,hx476_0⟩:=Kd.at_int HR475_0.out x29_2 p476 q476
               cases e476
               replace hx476_0:=(HB.out.cell (bL6 w _ hx476_0)).trans hx476_0
               replace p476:=eq_true p476
               replace q476:=eq_true q476
               obtain ⟨Ao21,co21,eo21⟩:=Kd.R_slice HO_6.out
               subst eo21
               have p477:0≤(x22_1:Int):=oD6 (zsx6_4)
               have q477:x22_1 < (x6_2.length:Int):=oD6 (zsx6_4)
               obtain ⟨ad477,e477,hx477_0⟩:=Kd.at_bool (Kd.R_reads' HO_6.out).2.2 x22_1 p477 q477
               (try rw [← Nbq18.out] at hx477_0)
               cases e477
               replace p477:=eq_true p477
               replace q477:=eq_true q477
               have p20:0≤(x22_1:Int):=oD6 (zsx6_4)
               have q20:(x22_1:Int) < ((x6_2.length:Int):Int):=oD6 (zsx6_4)
               obtain ⟨go20,co20,eo20,gb20,gl20,cl20,HG20⟩:=Kd.R_form HO_6.out (by omega)
               (first|cases eo20|(injection eo20 with ea_ en_ ec_;(first|subst ea_|(injection ea_ with ea_;subst ea_));subst ec_;clear en_))
               have GB20:=aM6 gb20
               have GG20:=aM6 HG20
               clear gb20 gl20 HG20
               (first|simp only [add_plain] at hx477_0|skip)
               obtain ⟨hx20_0,hf20_0⟩:=Kd.R_celln false HO_6.out (x22_1:Int) p20 q20
               replace p20:=eq_true p20
               replace q20:=eq_true q20
               have HP22:=Kd.R_putg HO_6.out (x22_1:Int) true
               go_wp2_with (first|((with_reducible refine gate_store (t:=4) (p:=45) rfl ?_);refine store_event (t:=4) (p:=45) (v:=?vo_w23) (w1:=(wr.setCell ⟨go20,(x22_1:Int).toNat,none⟩ (.bool true))) ?hg ?ho ?hn ?hr ?_;(case ho=>rfl);(case hg=>rfl);(case hn=>rfl);(case hr=>exact zsx6_17);intro w23 hw;have hg:wr.grownBy w23 (some go20):=(by rw [hw];exact HP22.2);have hp_:Kd.R Kd.bool 4 w23 w.heap.size (fun _=>True) (.slice (some ⟨go20,0,none⟩) x6_2.length co21) y478:=(by rw [hw,Ny478.out];exact HP22.1);clear HP22;have n0_:=aM6 (hp_);have n1_:=aM6 ((by rw [hw];exact below_set (HB.out) GB20.out:Below w.heap.size w w23));clear HO_6 HB;have HO_6:=n0_;have HB:=n1_;clear n0_ n1_ hg hw hp_))
               go_roundg k2
               case measure=>have:=HK1.out;have:=HK2.out;omega
               case rel=>exact ⟨(y478),(wrap64 (x29_2 + 1)),(zsx6_3),H',⟨zsx6_6⟩,⟨zsx6_15⟩,⟨zsx6_2⟩⟩
              ·replace c19:=Bool.eq_false_iff.mpr c19
               subst c19
               have H1:(if 0≤(rd (rd_L5 l0 x22_1) x29_2) then (if (rd (rd_L5 l0 x22_1) x29_2) < (x6_2.length:Int) then (spec_BelowOf.l1 k2 (x6_2.set (x22_1:Int).toNat (rdOf false x6_2 (rd (rd_L5 l0 x22_1) x29_2))) x22_1 l0 (l0.length:Int) x22_1 (rd_L5 l0 x22_1) ((rd_L5 l0 x22_1).length:Int) (wrap64 (x29_2 + 1))) else (none)) else (none))=some (r1,r2):=by rw [if_neg (show ¬ (false=true) by decide)] at H;exact H
               clear H
               have H:=H1
               clear H1
               by_cases c24:0≤(rd (rd_L5 l0 x22_1) x29_2)
               ·rw [if_pos c24] at H
                have c24b0:decide (0≤(rd (rd_L5 l0 x22_1) x29_2))=true:=dT6 c24
                clear c24
                by_cases c25:(rd (rd_L5 l0 x22_1) x29_2) < (x6_2.length:Int)
                ·rw [if_pos c25] at H
                 have c25b0:decide ((rd (rd_L5 l0 x22_1) x29_2) < (x6_2.length:Int))=true:=dT6 c25
                 clear c25
                 obtain ⟨y480,hy480⟩:∃ y_:List Bool,y_=(x6_2.set (x22_1:Int).toNat (rdOf false x6_2 (rd (rd_L5 l0 x22_1) x29_2))):=⟨_,rfl⟩
                 replace H:(spec_BelowOf.l1 k2 y480 x22_1 l0 (l0.length:Int) x22_1 (rd_L5 l0 x22_1) ((rd_L5 l0 x22_1).length:Int) (wrap64 (x29_2 + 1)))=some (r1,r2):=by first|(rw [hy480];with_reducible exact H)|(have H2_:=(Option.bind_some _ _).symm.trans H;rw [hy480];with_reducible exact H2_)|(have H2_:=(Option.bind_some _ _).symm.trans H;with_reducible exact H2_)|with_reducible exact H|(rw [hy480];exact H)|exact H
                 have Ny480:=aM6 hy480
                 clear hy480
                 have H':=aM6 H
                 clear H
                 have p476:0≤(x29_2:Int):=oD6 (zsx6_4)
                 have q476:x29_2 < ((rd_L5 l0 x22_1).length:Int):=oD6 (zsx6_4)
                 obtain ⟨ad476,e476,hx476_0⟩:=Kd.at_int HR475_0.out x29_2 p476 q476
                 cases e476
                 replace hx476_0:=(HB.out.cell (bL6 w _ hx476_0)).trans hx476_0
                 replace p476:=eq_true p476
                 replace q476:=eq_true q476
                 obtain ⟨Ao27,co27,eo27⟩:=Kd.R_slice HO_6.out
                 subst eo27
                 have p477:0≤(x22_1:Int):=oD6 (zsx6_4)
                 have q477:x22_1 < (x6_2.length:Int):=oD6 (zsx6_4)
                 obtain ⟨ad477,e477,hx477_0⟩:=Kd.at_bool (Kd.R_reads' HO_6.out).2.2 x22_1 p477 q477
                 (try rw [← Nbq18.out] at hx477_0)
                 cases e477
                 replace p477:=eq_true p477
                 replace q477:=eq_true q477
                 have p479:0≤((rd (rd_L5 l0 x22_1) x29_2):Int):=oD6 (zsx6_4)
                 have q479:(rd (rd_L5 l0 x22_1) x29_2) < (x6_2.length:Int):=oD6 (zsx6_4)
                 obtain ⟨ad479,e479,hx479_0⟩:=Kd.at_bool (Kd.R_reads' HO_6.out).2.2 (rd (rd_L5 l0 x22_1) x29_2) p479 q479
                 (try rw [← Nbq18.out] at hx479_0)
                 obtain rfl:ad477=ad479:=(by injection e479)
                 replace p479:=eq_true p479
                 replace q479:=eq_true q479
                 have p26:0≤(x22_1:Int):=oD6 (zsx6_4)
                 have q26:(x22_1:Int) < ((x6_2.length:Int):Int):=oD6 (zsx6_4)
                 obtain ⟨go26,co26,eo26,gb26,gl26,cl26,HG26⟩:=Kd.R_form HO_6.out (by omega)
                 (first|cases eo26|(injection eo26 with ea_ en_ ec_;(first|subst ea_|(injection ea_ with ea_;subst ea_));subst ec_;clear en_))
                 have GB26:=aM6 gb26
                 have GG26:=aM6 HG26
                 clear gb26 gl26 HG26
                 (first|simp only [add_plain] at hx477_0|skip)
                 (first|simp only [add_plain] at hx479_0|skip)
                 obtain ⟨hx26_0,hf26_0⟩:=Kd.R_celln false HO_6.out (x22_1:Int) p26 q26
                 replace p26:=eq_true p26
                 replace q26:=eq_true q26
                 have HP28:=Kd.R_putg HO_6.out (x22_1:Int) (rdOf false x6_2 (rd (rd_L5 l0 x22_1) x29_2))
                 go_wp2_with (first|((with_reducible refine gate_store (t:=4) (p:=45) rfl ?_);refine store_event (t:=4) (p:=45) (v:=?vo_w29) (w1:=(wr.setCell ⟨go26,(x22_1:Int).toNat,none⟩ (.bool (rdOf false x6_2 (rd (rd_L5 l0 x22_1) x29_2))))) ?hg ?ho ?hn ?hr ?_;(case ho=>rfl);(case hg=>rfl);(case hn=>rfl);(case hr=>exact zsx6_17);intro w29 hw;have hg:wr.grownBy w29 (some go26):=(by rw [hw];exact HP28.2);have hp_:Kd.R Kd.bool 4 w29 w.heap.size (fun _=>True) (.slice (some ⟨go26,0,none⟩) x6_2.length co27) y480:=(by rw [hw,Ny480.out];exact HP28.1);clear HP28;have n0_:=aM6 (hp_);have n1_:=aM6 ((by rw [hw];exact below_set (HB.out) GB26.out:Below w.heap.size w w29));clear HO_6 HB;have HO_6:=n0_;have HB:=n1_;clear n0_ n1_ hg hw hp_))
                 go_roundg k2
                 case measure=>have:=HK1.out;have:=HK2.out;omega
                 case rel=>exact ⟨(y480),(wrap64 (x29_2 + 1)),(zsx6_3),H',⟨zsx6_6⟩,⟨zsx6_15⟩,⟨zsx6_2⟩⟩
                ·rw [if_neg c25] at H
                 exact absurd H (by simp)
               ·rw [if_neg c24] at H
                exact absurd H (by simp)
             ·rw [if_neg c17] at H
              exact absurd H (by simp)
            ·rw [if_neg c16] at H
             exact absurd H (by simp)
           ·rw [if_neg c15] at H
            exact absurd H (by simp)
          ·rw [if_neg c14] at H
           exact absurd H (by simp)
         ·rw [if_neg c13] at H
          have c13b0:decide (x29_2 < ((rd_L5 l0 x22_1).length:Int))=false:=decide_eq_false c13
          clear c13
          have H':=aM6 H
          clear H
          go_wp2
          go_roundg k2
          case measure=>have:=HK1.out;have:=HK2.out;omega
          case rel=>exact ⟨(x6_2),(wrap64 (x22_1 + 1)),(zsx6_3),H',⟨zsx6_6⟩,⟨zsx6_15⟩,⟨zsx6_2⟩⟩
      ·rw [if_neg c12] at H
       exact absurd H (by simp)
     ·rw [if_neg c11] at H
      exact absurd H (by simp)
    ·rw [if_neg c10] at H
     have c10b0:decide (x22_1 < (l0.length:Int))=false:=decide_eq_false c10
     clear c10
     replace H:=bI6.mp H
     obtain ⟨t472,A300,H⟩:=H
     replace H:(some (t472,true))=some (r1,r2):=H
     have A30:=aM6 A300
     clear A300
     simp only [Option.some.injEq,Prod.mk.injEq] at H
     obtain ⟨rfl,rfl⟩:=H
     obtain ⟨Ao31,co31,eo31⟩:=Kd.R_slice HO_6.out
     subst eo31
     go_wp2_with (first|((with_reducible refine gate_callee (f:=60) rfl ?_);refine goesL_ (some 49) rfl rfl Try.func60 (zsx6_0) rfl #[.slice Ao31 x6_1.length co31] rfl (zsx6_1) ?_;(with_reducible refine (spec_clList.calls k1 _ _ x6_1 t472 _ ?side1 ?side2 A30.out).mono ?_);(case side1=>repeat (first|exact (Kd.R_reads' HO_6.out).2.2|(with_reducible refine Kd.C_alloc ?_ _)|(with_reducible refine Kd.C_drewN ?_ _)|(with_reducible refine Kd.C_drew ?_)));(case side2=>exact (Kd.R_reads' HO_6.out).2.1);rintro e w32 ⟨v473,rfl,ho0,hb⟩;refine ⟨_,rfl,?_⟩;have n0_:=aM6 (Kd.R_below (zsx6_15) hb);have n1_:=aM6 (Kd.R_lower ho0 (bZ6 (zsx6_2)));have n2_:=aM6 (below_step (zsx6_2) hb);clear HO_6 HB;have HO_6:=n0_;have HO474:=n1_;have HB:=n2_;clear n0_ n1_ n2_;(try clear hb);(try clear hb2);(try clear hk);(try clear hi);(try clear ho0)))
     go_ret2
     exact ⟨_,zsx6_9,by (with_reducible repeat (first|apply Kd.R_alloc|apply Kd.R_drewN|apply Kd.R_drew));exact HO474.out,zsx6_2⟩
 ·replace c4:=Bool.eq_false_iff.mpr c4
  subst c4
  have H1:(some (([]:List Int),false))=some (r1,r2):=by rw [if_neg (show ¬ (false=true) by decide)] at H;exact H
  clear H
  have H:=H1
  clear H1
  simp only [Option.some.injEq,Prod.mk.injEq] at H
  obtain ⟨rfl,rfl⟩:=H
  go_enter Try.func16,Try.ntmps16
  go_wp2_with (first|((with_reducible refine gate_callee (f:=56) rfl ?_);refine goesL_ (some 13) rfl rfl Try.func56 (zsx6_0) rfl #[.slice A0 l0.length c0,.int .i64 a1] rfl (zsx6_1) ?_;(with_reducible refine (spec_clHas.calls k _ _ l0 a1 false _ ?side1 ?side2 A3.out).mono ?_);(case side1=>exact zsx6_20);(case side2=>exact HC0.out);rintro e w' ⟨rfl,⟨nd,rfl⟩⟩;refine ⟨_,rfl,?_⟩))
  go_ret2
  exact ⟨_,zsx6_9,zsx6_11,zsx6_2⟩
def spec_AreArcs.f (k:Nat) (l0:List (List Int)):Option (Bool):=(spec_clArcs.f k l0).bind fun t483=>(some t483)
set_option maxHeartbeats 8000000 in
set_option maxRecDepth 100000 in
theorem spec_AreArcs.calls (k:Nat) (A0:Option Addr) (c0:Nat) (l0:List (List Int)) (r:Bool) (w:World) (hr0:Kd.C (Kd.slice 3 (Kd.int .i64)) w A0 l0.length l0) (hc0:l0.length≤c0) (h:spec_AreArcs.f k l0=some r) :
  Calls Try.prog 19 #[.slice A0 l0.length c0] w fun e w'=>e=.returned (.bool r)∧Drawn0 w w':=by
 have HR0:=aM6 hr0
 have HC0:=aM6 hc0
 clear hr0 hc0
 have H:((spec_clArcs.f k l0).bind fun t483=>(some t483))=some r:=h
 clear h
 replace H:=bI6.mp H
 obtain ⟨t483,A20,H⟩:=H
 replace H:(some t483)=some r:=H
 have A2:=aM6 A20
 clear A20
 obtain rfl:=Option.some.inj H
 go_enter Try.func19,Try.ntmps19
 go_wp2_with (first|((with_reducible refine gate_callee (f:=47) rfl ?_);refine goesL_ (some 4) rfl rfl Try.func47 (zsx6_0) rfl #[.slice A0 l0.length c0] rfl (zsx6_1) ?_;(with_reducible refine (spec_clArcs.calls k _ _ l0 t483 _ ?side1 ?side2 A2.out).mono ?_);(case side1=>exact zsx6_20);(case side2=>exact HC0.out);rintro e w' ⟨rfl,⟨nd,rfl⟩⟩;refine ⟨_,rfl,?_⟩))
 go_ret
 exact ⟨zsx6_3,zsx6_13⟩
def impl_allIn.l0:Nat→List Bool→List Int→Int→Int→Option (Bool)
 | 0,_,_,_,_=>none
 | k + 1,x0,x7,x8,x9=>if x9 < x8 then (if 0≤x9 then (if x9 < (x7.length:Int) then (if 0≤(rd x7 x9) then (if (rd x7 x9) < (x0.length:Int) then (if (rdOf false x0 (rd x7 x9)=true) then (impl_allIn.l0 k x0 x7 x8 (wrap64 (x9 + 1))) else (some false)) else (none)) else (none)) else (none)) else (none)) else (some true)
def impl_allIn.f (k:Nat) (l0:List Bool) (l1:List Int):Option (Bool):=impl_allIn.l0 k l0 l1 (l1.length:Int) 0
set_option maxHeartbeats 8000000 in
set_option maxRecDepth 100000 in
theorem impl_allIn.calls (k:Nat) (A0:Option Addr) (c0:Nat) (l0:List Bool) (A1:Option Addr) (c1:Nat) (l1:List Int) (r:Bool) (w:World) (hr0:Kd.C Kd.bool w A0 l0.length l0) (hc0:l0.length≤c0) (hr1:Kd.C (Kd.int .i64) w A1 l1.length l1) (hc1:l1.length≤c1) (h:impl_allIn.f k l0 l1=some r) :
  Calls Try.prog 50 #[.slice A0 l0.length c0,.slice A1 l1.length c1] w fun e w'=>e=.returned (.bool r)∧Drawn0 w w':=by
 have HR0:=aM6 hr0
 have HC0:=aM6 hc0
 clear hr0 hc0
 have HR1:=aM6 hr1
 have HC1:=aM6 hc1
 clear hr1 hc1
 have H:(impl_allIn.l0 k l0 l1 (l1.length:Int) 0)=some r:=h
 clear h
 have H':=aM6 H
 clear H
 go_enter Try.func50,Try.ntmps50
 go_wp2
 go_loopg [9] k (fun kq v9 w'=>∃ (x9_1:Int),v9=.int .i64 x9_1∧Aside0 (impl_allIn.l0 kq l0 l1 (l1.length:Int) x9_1=some r)∧Aside0 (kq≤k)∧Drawn0 w w')
 case atStart=>exact ⟨(0),(zsx6_3),H',⟨Nat.le_refl _⟩,zsx6_13⟩
 case round =>
  clear H'
  try clear c1
  try clear p2
  obtain ⟨x9_1,rfl,HA,HK1,⟨m1,rfl⟩⟩:=hrel
  cases gk with
  | zero=>exact absurd HA.out (by simp [impl_allIn.l0])
  | succ k1 =>
   have H:=HA.out
   clear HA
   simp only [impl_allIn.l0] at H
   by_cases c3:x9_1 < (l1.length:Int)
   ·rw [if_pos c3] at H
    have c3b0:decide (x9_1 < (l1.length:Int))=true:=dT6 c3
    clear c3
    by_cases c4:0≤x9_1
    ·rw [if_pos c4] at H
     have c4b0:decide (0≤x9_1)=true:=dT6 c4
     clear c4
     by_cases c5:x9_1 < (l1.length:Int)
     ·rw [if_pos c5] at H
      have c5b0:decide (x9_1 < (l1.length:Int))=true:=dT6 c5
      clear c5
      by_cases c6:0≤(rd l1 x9_1)
      ·rw [if_pos c6] at H
       have c6b0:decide (0≤(rd l1 x9_1))=true:=dT6 c6
       clear c6
       by_cases c7:(rd l1 x9_1) < (l0.length:Int)
       ·rw [if_pos c7] at H
        have c7b0:decide ((rd l1 x9_1) < (l0.length:Int))=true:=dT6 c7
        clear c7
        obtain ⟨bq8,hbq8⟩:∃ b_:Bool,b_=(rdOf false l0 (rd l1 x9_1)):=⟨_,rfl⟩
        replace H:(if (bq8=true) then (impl_allIn.l0 k1 l0 l1 (l1.length:Int) (wrap64 (x9_1 + 1))) else (some false))=some r:=by rw [← hbq8] at H;exact H
        have Nbq8:=aM6 hbq8
        clear hbq8
        by_cases c9:(bq8=true)
        ·subst c9
         have H1:(impl_allIn.l0 k1 l0 l1 (l1.length:Int) (wrap64 (x9_1 + 1)))=some r:=by rw [if_pos rfl] at H;exact H
         clear H
         have H:=H1
         clear H1
         have H':=aM6 H
         clear H
         have p484:0≤(x9_1:Int):=oD6 (zsx6_4)
         have q484:x9_1 < (l1.length:Int):=oD6 (zsx6_4)
         obtain ⟨ad484,e484,hx484_0⟩:=Kd.at_int HR1.out x9_1 p484 q484
         cases e484
         replace p484:=eq_true p484
         replace q484:=eq_true q484
         have p485:0≤((rd l1 x9_1):Int):=oD6 (zsx6_4)
         have q485:(rd l1 x9_1) < (l0.length:Int):=oD6 (zsx6_4)
         obtain ⟨ad485,e485,hx485_0⟩:=Kd.at_bool HR0.out (rd l1 x9_1) p485 q485
         (try rw [← Nbq8.out] at hx485_0)
         cases e485
         replace p485:=eq_true p485
         replace q485:=eq_true q485
         go_wp2
         go_roundg k1
         case measure=>have:=HK1.out;omega
         case rel=>exact ⟨(wrap64 (x9_1 + 1)),(zsx6_3),H',⟨zsx6_8⟩,zsx6_13⟩
        ·replace c9:=Bool.eq_false_iff.mpr c9
         subst c9
         have H1:(some false)=some r:=by rw [if_neg (show ¬ (false=true) by decide)] at H;exact H
         clear H
         have H:=H1
         clear H1
         obtain rfl:=Option.some.inj H
         have p484:0≤(x9_1:Int):=oD6 (zsx6_4)
         have q484:x9_1 < (l1.length:Int):=oD6 (zsx6_4)
         obtain ⟨ad484,e484,hx484_0⟩:=Kd.at_int HR1.out x9_1 p484 q484
         cases e484
         replace p484:=eq_true p484
         replace q484:=eq_true q484
         have p485:0≤((rd l1 x9_1):Int):=oD6 (zsx6_4)
         have q485:(rd l1 x9_1) < (l0.length:Int):=oD6 (zsx6_4)
         obtain ⟨ad485,e485,hx485_0⟩:=Kd.at_bool HR0.out (rd l1 x9_1) p485 q485
         (try rw [← Nbq8.out] at hx485_0)
         cases e485
         replace p485:=eq_true p485
         replace q485:=eq_true q485
         go_wp2
         go_ret
         exact ⟨zsx6_3,zsx6_13⟩
       ·rw [if_neg c7] at H
        exact absurd H (by simp)
      ·rw [if_neg c6] at H
       exact absurd H (by simp)
     ·rw [if_neg c5] at H
      exact absurd H (by simp)
    ·rw [if_neg c4] at H
     exact absurd H (by simp)
   ·rw [if_neg c3] at H
    have c3b0:decide (x9_1 < (l1.length:Int))=false:=decide_eq_false c3
    clear c3
    obtain rfl:=Option.some.inj H
    go_wp2
    go_ret
    exact ⟨zsx6_3,zsx6_13⟩
def impl_isClosure.l0:Nat→List (List Int)→List Bool→List Int→Int→Int→Option (Bool)
 | 0,_,_,_,_,_=>none
 | k + 1,x0,x5,x12,x13,x14=>if x14 < x13 then (if 0≤x14 then (if x14 < (x12.length:Int) then (if 0≤(rd x12 x14) then (if (rd x12 x14) < (x0.length:Int) then ((impl_allIn.f k x5 (rd_L5 x0 (rd x12 x14))).bind fun t491=>(if t491=true then (impl_isClosure.l0 k x0 x5 x12 x13 (wrap64 (x14 + 1))) else (some false))) else (none)) else (none)) else (none)) else (none)) else (some true)
def impl_isClosure.f (k:Nat) (l0:List (List Int)) (l1:List Int):Option (Bool):=(impl_markOf.f k (l0.length:Int) l1).bind fun t486=>(impl_isClosure.l0 k l0 t486 l1 (l1.length:Int) 0)
set_option maxHeartbeats 8000000 in
set_option maxRecDepth 100000 in
theorem impl_isClosure.calls (k:Nat) (A0:Option Addr) (c0:Nat) (l0:List (List Int)) (A1:Option Addr) (c1:Nat) (l1:List Int) (r:Bool) (w:World) (hr0:Kd.C (Kd.slice 3 (Kd.int .i64)) w A0 l0.length l0) (hc0:l0.length≤c0) (hr1:Kd.C (Kd.int .i64) w A1 l1.length l1) (hc1:l1.length≤c1) (h:impl_isClosure.f k l0 l1=some r) :
  Calls Try.prog 62 #[.slice A0 l0.length c0,.slice A1 l1.length c1] w fun e w'=>e=.returned (.bool r)∧Below w.heap.size w w':=by
 have HR0:=aM6 hr0
 have HC0:=aM6 hc0
 clear hr0 hc0
 have HR1:=aM6 hr1
 have HC1:=aM6 hc1
 clear hr1 hc1
 have HB:=aM6 (Below.refl w.heap.size w)
 have H:((impl_markOf.f k (l0.length:Int) l1).bind fun t486=>(impl_isClosure.l0 k l0 t486 l1 (l1.length:Int) 0))=some r:=h
 clear h
 replace H:=bI6.mp H
 obtain ⟨t486,A30,H⟩:=H
 replace H:(impl_isClosure.l0 k l0 t486 l1 (l1.length:Int) 0)=some r:=H
 have A3:=aM6 A30
 clear A30
 have H':=aM6 H
 clear H
 go_enter Try.func62,Try.ntmps62
 go_wp2_with (first|((with_reducible refine gate_callee (f:=81) rfl ?_);refine goesL_ (some 11) rfl rfl Try.func81 (zsx6_0) rfl #[.int .i64 (l0.length:Int),.slice A1 l1.length c1] rfl (zsx6_1) ?_;(with_reducible refine (impl_markOf.calls k (l0.length:Int) _ _ l1 t486 _ ?side1 ?side2 A3.out).mono ?_);(case side1=>exact zsx6_16);(case side2=>exact HC1.out);rintro e w4 ⟨v487,rfl,ho0,hb⟩;refine ⟨_,rfl,?_⟩;have n0_:=aM6 (Kd.R_lower ho0 (bZ6 (zsx6_2)));have n1_:=aM6 (below_step (zsx6_2) hb);clear HB;have HO488:=n0_;have HB:=n1_;clear n0_ n1_;(try clear hb);(try clear hb2);(try clear hk);(try clear hi);(try clear ho0)))
 go_loopg [14] k (fun kq v14 w'=>∃ (x14_1:Int),v14=.int .i64 x14_1∧Aside0 (impl_isClosure.l0 kq l0 t486 l1 (l1.length:Int) x14_1=some r)∧Aside0 (kq≤k)∧Aside0 (Kd.R Kd.bool 4 w' w.heap.size (fun _=>True) v487 t486)∧Aside0 (Below w.heap.size w w'))
 case atStart=>exact ⟨(0),(zsx6_3),H',⟨Nat.le_refl _⟩,⟨by (with_reducible repeat (first|apply Kd.R_alloc|apply Kd.R_drewN|apply Kd.R_drew));exact HO488.out⟩,⟨zsx6_2⟩⟩
 case round =>
  clear H'
  try clear c1
  try clear p2
  obtain ⟨x14_1,rfl,HA,HK1,HO_5,HB⟩:=hrel
  cases gk with
  | zero=>exact absurd HA.out (by simp [impl_isClosure.l0])
  | succ k1 =>
   have H:=HA.out
   clear HA
   simp only [impl_isClosure.l0] at H
   by_cases c5:x14_1 < (l1.length:Int)
   ·rw [if_pos c5] at H
    have c5b0:decide (x14_1 < (l1.length:Int))=true:=dT6 c5
    clear c5
    by_cases c6:0≤x14_1
    ·rw [if_pos c6] at H
     have c6b0:decide (0≤x14_1)=true:=dT6 c6
     clear c6
     by_cases c7:x14_1 < (l1.length:Int)
     ·rw [if_pos c7] at H
      have c7b0:decide (x14_1 < (l1.length:Int))=true:=dT6 c7
      clear c7
      by_cases c8:0≤(rd l1 x14_1)
      ·rw [if_pos c8] at H
       have c8b0:decide (0≤(rd l1 x14_1))=true:=dT6 c8
       clear c8
       by_cases c9:(rd l1 x14_1) < (l0.length:Int)
       ·rw [if_pos c9] at H
        have c9b0:decide ((rd l1 x14_1) < (l0.length:Int))=true:=dT6 c9
        clear c9
        replace H:=bI6.mp H
        obtain ⟨t491,A100,H⟩:=H
        replace H:(if t491=true then (impl_isClosure.l0 k1 l0 t486 l1 (l1.length:Int) (wrap64 (x14_1 + 1))) else (some false))=some r:=H
        have A10:=aM6 A100
        clear A100
        by_cases c11:t491=true
        ·subst c11
         have H1:(impl_isClosure.l0 k1 l0 t486 l1 (l1.length:Int) (wrap64 (x14_1 + 1)))=some r:=by rw [if_pos rfl] at H;exact H
         clear H
         have H:=H1
         clear H1
         have H':=aM6 H
         clear H
         have p489:0≤(x14_1:Int):=oD6 (zsx6_4)
         have q489:x14_1 < (l1.length:Int):=oD6 (zsx6_4)
         obtain ⟨ad489,e489,hx489_0⟩:=Kd.at_int HR1.out x14_1 p489 q489
         cases e489
         replace hx489_0:=(HB.out.cell (bL6 w _ hx489_0)).trans hx489_0
         replace p489:=eq_true p489
         replace q489:=eq_true q489
         have p490:0≤((rd l1 x14_1):Int):=oD6 (zsx6_4)
         have q490:(rd l1 x14_1) < (l0.length:Int):=oD6 (zsx6_4)
         obtain ⟨ad490,A490_0,c490_0,e490,hx490_0,hl490_0,hi490_0⟩:=at_L5 HR0.out (rd l1 x14_1) p490 q490
         cases e490
         replace hx490_0:=(HB.out.cell (bL6 w _ hx490_0)).trans hx490_0
         have HR490_0:=aM6 hi490_0
         have HC490_0:=aM6 hl490_0
         clear hi490_0 hl490_0
         replace p490:=eq_true p490
         replace q490:=eq_true q490
         obtain ⟨Ao12,co12,eo12⟩:=Kd.R_slice HO_5.out
         subst eo12
         go_wp2_with (first|((with_reducible refine gate_callee (f:=50) rfl ?_);refine goesL_ (some 23) rfl rfl Try.func50 (zsx6_0) rfl #[.slice Ao12 t486.length co12,.slice A490_0 (rd_L5 l0 (rd l1 x14_1)).length c490_0] rfl (zsx6_1) ?_;(with_reducible refine (impl_allIn.calls k1 _ _ t486 _ _ (rd_L5 l0 (rd l1 x14_1)) true _ ?side1 ?side2 ?side3 ?side4 A10.out).mono ?_);(case side1=>exact zsx6_21);(case side2=>exact (Kd.R_reads' HO_5.out).2.1);(case side3=>exact zsx6_22);(case side4=>exact HC490_0.out);rintro e w' ⟨rfl,⟨nd,rfl⟩⟩;refine ⟨_,rfl,?_⟩))
         go_roundg k1
         case measure=>have:=HK1.out;omega
         case rel=>exact ⟨(wrap64 (x14_1 + 1)),(zsx6_3),H',⟨zsx6_8⟩,⟨zsx6_5⟩,⟨zsx6_2⟩⟩
        ·replace c11:=Bool.eq_false_iff.mpr c11
         subst c11
         have H1:(some false)=some r:=by rw [if_neg (show ¬ (false=true) by decide)] at H;exact H
         clear H
         have H:=H1
         clear H1
         obtain rfl:=Option.some.inj H
         have p489:0≤(x14_1:Int):=oD6 (zsx6_4)
         have q489:x14_1 < (l1.length:Int):=oD6 (zsx6_4)
         obtain ⟨ad489,e489,hx489_0⟩:=Kd.at_int HR1.out x14_1 p489 q489
         cases e489
         replace hx489_0:=(HB.out.cell (bL6 w _ hx489_0)).trans hx489_0
         replace p489:=eq_true p489
         replace q489:=eq_true q489
         have p490:0≤((rd l1 x14_1):Int):=oD6 (zsx6_4)
         have q490:(rd l1 x14_1) < (l0.length:Int):=oD6 (zsx6_4)
         obtain ⟨ad490,A490_0,c490_0,e490,hx490_0,hl490_0,hi490_0⟩:=at_L5 HR0.out (rd l1 x14_1) p490 q490
         cases e490
         replace hx490_0:=(HB.out.cell (bL6 w _ hx490_0)).trans hx490_0
         have HR490_0:=aM6 hi490_0
         have HC490_0:=aM6 hl490_0
         clear hi490_0 hl490_0
         replace p490:=eq_true p490
         replace q490:=eq_true q490
         obtain ⟨Ao13,co13,eo13⟩:=Kd.R_slice HO_5.out
         subst eo13
         go_wp2_with (first|((with_reducible refine gate_callee (f:=50) rfl ?_);refine goesL_ (some 23) rfl rfl Try.func50 (zsx6_0) rfl #[.slice Ao13 t486.length co13,.slice A490_0 (rd_L5 l0 (rd l1 x14_1)).length c490_0] rfl (zsx6_1) ?_;(with_reducible refine (impl_allIn.calls k1 _ _ t486 _ _ (rd_L5 l0 (rd l1 x14_1)) false _ ?side1 ?side2 ?side3 ?side4 A10.out).mono ?_);(case side1=>exact zsx6_21);(case side2=>exact (Kd.R_reads' HO_5.out).2.1);(case side3=>exact zsx6_22);(case side4=>exact HC490_0.out);rintro e w' ⟨rfl,⟨nd,rfl⟩⟩;refine ⟨_,rfl,?_⟩))
         go_ret
         exact ⟨zsx6_9,zsx6_2⟩
       ·rw [if_neg c9] at H
        exact absurd H (by simp)
      ·rw [if_neg c8] at H
       exact absurd H (by simp)
     ·rw [if_neg c7] at H
      exact absurd H (by simp)
    ·rw [if_neg c6] at H
     exact absurd H (by simp)
   ·rw [if_neg c5] at H
    have c5b0:decide (x14_1 < (l1.length:Int))=false:=decide_eq_false c5
    clear c5
    obtain rfl:=Option.some.inj H
    go_wp2
    go_ret
    exact ⟨zsx6_9,zsx6_2⟩
def impl_IsClosure.f (k:Nat) (l0:List (List Int)) (l1:List Int):Option (Bool × Bool):=(impl_AreArcs.f k l0).bind fun t492=>(if t492=true then ((impl_areBlocks.f k l1 (l0.length:Int)).bind fun t493=>(if t493=true then ((impl_isClosure.f k l0 l1).bind fun t494=>(some (t494,true))) else (some (false,false)))) else (some (false,false)))
set_option maxHeartbeats 8000000 in
set_option maxRecDepth 100000 in
theorem impl_IsClosure.calls (k:Nat) (A0:Option Addr) (c0:Nat) (l0:List (List Int)) (A1:Option Addr) (c1:Nat) (l1:List Int) (r1:Bool) (r2:Bool) (w:World) (hr0:Kd.C (Kd.slice 3 (Kd.int .i64)) w A0 l0.length l0) (hc0:l0.length≤c0) (hr1:Kd.C (Kd.int .i64) w A1 l1.length l1) (hc1:l1.length≤c1) (h:impl_IsClosure.f k l0 l1=some (r1,r2)) :
  Calls Try.prog 20 #[.slice A0 l0.length c0,.slice A1 l1.length c1] w fun e w'=>e=.returned (.tuple #[.bool r1,.bool r2])∧Below w.heap.size w w':=by
 have HR0:=aM6 hr0
 have HC0:=aM6 hc0
 clear hr0 hc0
 have HR1:=aM6 hr1
 have HC1:=aM6 hc1
 clear hr1 hc1
 have HB:=aM6 (Below.refl w.heap.size w)
 have H:((impl_AreArcs.f k l0).bind fun t492=>(if t492=true then ((impl_areBlocks.f k l1 (l0.length:Int)).bind fun t493=>(if t493=true then ((impl_isClosure.f k l0 l1).bind fun t494=>(some (t494,true))) else (some (false,false)))) else (some (false,false))))=some (r1,r2):=h
 clear h
 replace H:=bI6.mp H
 obtain ⟨t492,A30,H⟩:=H
 replace H:(if t492=true then ((impl_areBlocks.f k l1 (l0.length:Int)).bind fun t493=>(if t493=true then ((impl_isClosure.f k l0 l1).bind fun t494=>(some (t494,true))) else (some (false,false)))) else (some (false,false)))=some (r1,r2):=H
 have A3:=aM6 A30
 clear A30
 by_cases c4:t492=true
 ·subst c4
  have H1:((impl_areBlocks.f k l1 (l0.length:Int)).bind fun t493=>(if t493=true then ((impl_isClosure.f k l0 l1).bind fun t494=>(some (t494,true))) else (some (false,false))))=some (r1,r2):=by rw [if_pos rfl] at H;exact H
  clear H
  have H:=H1
  clear H1
  replace H:=bI6.mp H
  obtain ⟨t493,A50,H⟩:=H
  replace H:(if t493=true then ((impl_isClosure.f k l0 l1).bind fun t494=>(some (t494,true))) else (some (false,false)))=some (r1,r2):=H
  have A5:=aM6 A50
  clear A50
  by_cases c6:t493=true
  ·subst c6
   have H1:((impl_isClosure.f k l0 l1).bind fun t494=>(some (t494,true)))=some (r1,r2):=by rw [if_pos rfl] at H;exact H
   clear H
   have H:=H1
   clear H1
   replace H:=bI6.mp H
   obtain ⟨t494,A70,H⟩:=H
   replace H:(some (t494,true))=some (r1,r2):=H
   have A7:=aM6 A70
   clear A70
   simp only [Option.some.injEq,Prod.mk.injEq] at H
   obtain ⟨rfl,rfl⟩:=H
   go_enter Try.func20,Try.ntmps20
   go_wp2_with (first|((with_reducible refine gate_callee (f:=18) rfl ?_);refine goesL_ (some 7) rfl rfl Try.func18 (zsx6_0) rfl #[.slice A0 l0.length c0] rfl (zsx6_1) ?_;(with_reducible refine (impl_AreArcs.calls k _ _ l0 true _ ?side1 ?side2 A3.out).mono ?_);(case side1=>exact zsx6_20);(case side2=>exact HC0.out);rintro e w' ⟨rfl,⟨nd,rfl⟩⟩;refine ⟨_,rfl,?_⟩)|(go_at_call 61;(with_reducible refine (impl_areBlocks.calls k _ _ l1 (l0.length:Int) true _ ?side1 ?side2 A5.out).mono ?_);(case side1=>exact zsx6_16);(case side2=>exact HC1.out);rintro e w' ⟨rfl,⟨nd,rfl⟩⟩)|((with_reducible refine gate_callee (f:=62) rfl ?_);refine goesL_ (some 18) rfl rfl Try.func62 (zsx6_0) rfl #[.slice A0 l0.length c0,.slice A1 l1.length c1] rfl (zsx6_1) ?_;(with_reducible refine (impl_isClosure.calls k _ _ l0 _ _ l1 t494 _ ?side1 ?side2 ?side3 ?side4 A7.out).mono ?_);(case side1=>exact zsx6_20);(case side2=>exact HC0.out);(case side3=>exact zsx6_16);(case side4=>exact HC1.out);rintro e w8 ⟨rfl,hb⟩;refine ⟨_,rfl,?_⟩;have n0_:=aM6 (below_step (zsx6_2) hb);clear HB;have HB:=n0_;clear n0_;(try clear hb);(try clear hb2);(try clear hk);(try clear hi)))
   go_ret2
   exact ⟨zsx6_9,zsx6_2⟩
  ·replace c6:=Bool.eq_false_iff.mpr c6
   subst c6
   have H1:(some (false,false))=some (r1,r2):=by rw [if_neg (show ¬ (false=true) by decide)] at H;exact H
   clear H
   have H:=H1
   clear H1
   simp only [Option.some.injEq,Prod.mk.injEq] at H
   obtain ⟨rfl,rfl⟩:=H
   go_enter Try.func20,Try.ntmps20
   go_wp2_with (first|((with_reducible refine gate_callee (f:=18) rfl ?_);refine goesL_ (some 7) rfl rfl Try.func18 (zsx6_0) rfl #[.slice A0 l0.length c0] rfl (zsx6_1) ?_;(with_reducible refine (impl_AreArcs.calls k _ _ l0 true _ ?side1 ?side2 A3.out).mono ?_);(case side1=>exact zsx6_20);(case side2=>exact HC0.out);rintro e w' ⟨rfl,⟨nd,rfl⟩⟩;refine ⟨_,rfl,?_⟩)|(go_at_call 61;(with_reducible refine (impl_areBlocks.calls k _ _ l1 (l0.length:Int) false _ ?side1 ?side2 A5.out).mono ?_);(case side1=>exact zsx6_16);(case side2=>exact HC1.out);rintro e w' ⟨rfl,⟨nd,rfl⟩⟩))
   go_ret2
   exact ⟨zsx6_9,zsx6_2⟩
 ·replace c4:=Bool.eq_false_iff.mpr c4
  subst c4
  have H1:(some (false,false))=some (r1,r2):=by rw [if_neg (show ¬ (false=true) by decide)] at H;exact H
  clear H
  have H:=H1
  clear H1
  simp only [Option.some.injEq,Prod.mk.injEq] at H
  obtain ⟨rfl,rfl⟩:=H
  go_enter Try.func20,Try.ntmps20
  go_wp2_with (first|((with_reducible refine gate_callee (f:=18) rfl ?_);refine goesL_ (some 7) rfl rfl Try.func18 (zsx6_0) rfl #[.slice A0 l0.length c0] rfl (zsx6_1) ?_;(with_reducible refine (impl_AreArcs.calls k _ _ l0 false _ ?side1 ?side2 A3.out).mono ?_);(case side1=>exact zsx6_20);(case side2=>exact HC0.out);rintro e w' ⟨rfl,⟨nd,rfl⟩⟩;refine ⟨_,rfl,?_⟩))
  go_ret2
  exact ⟨zsx6_9,zsx6_2⟩
end Go.Proofs.Ytbhlffakpneecaa.PFnCones
end
