/- Texts that print.sh has printed for the law FnMoney,one function each,put together in one file: contracts of its functions. -/
import Derived.Test.YtahhiedlkegkgaaTStepW
import Derived.Test.YtahhiedlkegkgaaProg
import Derived.Below
import Derived.Deep.Draws
import Derived.Deep.AppendLies
import Derived.Maps.AppendAt
import Derived.OwnWalk
import Derived.Laws.BytesArg
import Derived.Laws.MakeOwn
import Derived.Laws.OwnMore
import Derived.Deep.OwnRows
import Derived.Tactics
import Derived.Lib.ConvBytes
import Derived.Laws.Slices
import Derived.WalkKit
import Derived.KernelRfl
import Derived.RowKit3
import Derived.Deep.LoopGhost
import Derived.Deep.QuietTactic
import Derived.BigQuiet
import Derived.WideLaws
import Derived.Deep.DeepCutAuto
import Derived.Deep.CutBlock
import Derived.Deep.RegionHeld3
import Derived.Laws.Rows
import Derived.Lib.AppendStr
import Derived.ArgAppend
import Derived.Laws.IdiomCopy
import Derived.OrdersHeld
import Derived.Laws.BitsLemmas
import Derived.RowKit
import Derived.Test.YtahhiedlkegkgaaTWWords
import Derived.Test.YtahhiedlkegkgaaTWLast
import Derived.Test.YtahhiedlkegkgaaTWTab
import Derived.Test.YtahhiedlkegkgaaTWFour
import Derived.Test.YtahhiedlkegkgaaTWQPut
import Derived.Test.YtahhiedlkegkgaaTWApart
import Derived.Test.YtahhiedlkegkgaaTWArr
import Derived.Test.YtahhiedlkegkgaaTWZeros
import Derived.Test.YtahhiedlkegkgaaTWFoot
import Derived.Test.YtahhiedlkegkgaaTWKept
import Derived.Test.YtahhiedlkegkgaaTWShare
import Derived.Test.YtahhiedlkegkgaaTWN
import Derived.Test.YtahhiedlkegkgaaTWFootNe
import Derived.Test.YtahhiedlkegkgaaTWAt
import Derived.Test.YtahhiedlkegkgaaTWEqStruct
import Derived.Test.YtahhiedlkegkgaaTWRepsOne
import Derived.Test.YtahhiedlkegkgaaTWInv
import Derived.Test.YtahhiedlkegkgaaTWInvWords
import Derived.Test.YtahhiedlkegkgaaTWGuard
import Derived.Test.YtahhiedlkegkgaaTWNEv
import Derived.Test.YtahhiedlkegkgaaTWMore
section
namespace Go.Proofs.Ytahhiedlkegkgaa.PFnMoney
open Go.RowKit Go.Proofs.YtahhiedlkegkgaaW.PrintWords Go.Proofs.YtahhiedlkegkgaaW.PrintLast Go.Proofs.YtahhiedlkegkgaaW.PrintMore
attribute [local go_sem] max2_int min2_int max_two min_two max_three min_three max_four min_four   -- for this text's walks alone
set_option linter.unusedVariables false
set_option linter.unusedSimpArgs false
theorem aM0:type_of% @Aside0.mk:=@Aside0.mk
theorem oD0:type_of% @of_decide_eq_true:=@of_decide_eq_true
theorem dT0:type_of% @decide_eq_true:=@decide_eq_true
theorem bI0:type_of% @Option.bind_eq_some_iff.{0,0}:=@Option.bind_eq_some_iff.{0,0}
theorem bL0:type_of% @World.block_lt_of_cell?:=@World.block_lt_of_cell?
theorem eT0:type_of% @eq_true:=@eq_true
theorem bS0:type_of% @below_step:=@below_step
theorem gC0:type_of% @gate_callee:=@gate_callee
theorem bB0:type_of% @blk_below:=@blk_below
theorem zyx0_0 {P:Prop} (h:P:=by repeat (first|(with_reducible first|exact HB.out|apply below_alloc|apply pw_below_drewN|apply below_drew1)|exact HB.out)):P:=h
theorem zyx0_1 {P:Prop} (h:P:=by repeat (first|(with_reducible first|exact HB.out|apply below_alloc|apply pw_below_drewN|apply below_drew1|refine below_set ?_ GE349.out)|exact HB.out)):P:=h
theorem zyx0_2 {P:Prop} (h:P:=by (with_reducible repeat (first|refine blk_drewN ?_ _|refine blk_drew ?_|refine blk_alloc ?_ _));exact BK349.out):P:=h
theorem zyx0_3 {P:Prop} (h:P:=by first|rfl|(simp;done)|(simp [*];done)):P:=h
theorem zyx0_4 {P:Prop} (h:P:=by first|(with_reducible assumption)|assumption):P:=h
theorem zyx0_5 {P:Prop} (h:P:=by first|rfl|(simp [errW_none,errW_some] <;> rfl)|(simp [*,errW_none,errW_some] <;> rfl)):P:=h
theorem zyx0_6 {P:Prop} (h:P:=by repeat (first|(with_reducible first|exact HB.out|apply below_alloc|apply pw_below_drewN|apply below_drew1|refine below_set ?_ GE354.out)|exact HB.out)):P:=h
theorem zyx0_7 {P:Prop} (h:P:=by (try simp only [List.map_toArray,List.map_cons,List.map_nil]);first|done|rfl|(simp only [List.length_drop,List.length_take];rfl)):P:=h
theorem zyx0_8 {P:Prop} (h:P:=by (with_reducible repeat (first|refine blk_drewN ?_ _|refine blk_drew ?_|refine blk_alloc ?_ _));exact BK356.out):P:=h
theorem zyx0_9 {P:Prop} (h:P:=by repeat (first|(with_reducible first|exact HB.out|apply below_alloc|apply pw_below_drewN|apply below_drew1|refine below_set ?_ GE356.out)|exact HB.out)):P:=h
theorem zyx0_10 {P:Prop} (h:P:=by (with_reducible repeat (first|refine blk_drewN ?_ _|refine blk_drew ?_|refine blk_alloc ?_ _));exact BK365.out):P:=h
theorem zyx0_11 {P:Prop} (h:P:=by repeat (first|(with_reducible first|exact HB.out|apply below_alloc|apply pw_below_drewN|apply below_drew1|refine below_set ?_ GE365.out)|exact HB.out)):P:=h
theorem zyx0_12 {P:Prop} (h:P:=by (with_reducible repeat (first|refine blk_drewN ?_ _|refine blk_drew ?_|refine blk_alloc ?_ _));exact BK370.out):P:=h
theorem zyx0_13 {P:Prop} (h:P:=by repeat (first|(with_reducible first|exact HB.out|apply below_alloc|apply pw_below_drewN|apply below_drew1|refine below_set ?_ GE370.out)|exact HB.out)):P:=h
theorem zyx0_14 {P:Prop} (h:P:=by (with_reducible repeat (first|refine blk_drewN ?_ _|refine blk_drew ?_|refine blk_alloc ?_ _));exact BK371.out):P:=h
theorem zyx0_15 {P:Prop} (h:P:=by repeat (first|(with_reducible first|exact HB.out|apply below_alloc|apply pw_below_drewN|apply below_drew1|refine below_set ?_ GE370.out|refine below_set ?_ GE371.out)|exact HB.out)):P:=h
theorem zyx0_16 {P:Prop} (h:P:=by (with_reducible repeat (first|refine blk_drewN ?_ _|refine blk_drew ?_|refine blk_alloc ?_ _));exact BK411.out):P:=h
theorem zyx0_17 {P:Prop} (h:P:=by repeat (first|(with_reducible first|exact HB.out|apply below_alloc|apply pw_below_drewN|apply below_drew1|refine below_set ?_ GE411.out)|exact HB.out)):P:=h
theorem zyx0_18 {P:Prop} (h:P:=by (with_reducible repeat (first|refine blk_drewN ?_ _|refine blk_drew ?_|refine blk_alloc ?_ _));exact BK412.out):P:=h
theorem zyx0_19 {P:Prop} (h:P:=by repeat (first|(with_reducible first|exact HB.out|apply below_alloc|apply pw_below_drewN|apply below_drew1|refine below_set ?_ GE411.out|refine below_set ?_ GE412.out)|exact HB.out)):P:=h
theorem zyx0_20 {P:Prop} (h:P:=by (with_reducible repeat (first|apply Kd.R_alloc|apply Kd.R_drewN|apply Kd.R_drew));exact HO_6.out):P:=h
theorem zyx0_21 {P:Prop} (h:P:=by (with_reducible repeat (first|refine blk_drewN ?_ _|refine blk_drew ?_|refine blk_alloc ?_ _));exact BK739.out):P:=h
theorem zyx0_22 {P:Prop} (h:P:=by repeat (first|(with_reducible first|exact HB.out|apply below_alloc|apply pw_below_drewN|apply below_drew1|refine below_set ?_ GE739.out)|exact HB.out)):P:=h
theorem zyx0_23 {P:Prop} (h:P:=by first|(go_simp;done)|(go_simp;rfl)):P:=h
theorem zyx0_24 {P:Prop} (h:P:=by repeat (first|exact (Kd.C_below HR0_3.out HB.out)|(with_reducible refine Kd.C_alloc ?_ _)|(with_reducible refine Kd.C_drewN ?_ _)|(with_reducible refine Kd.C_drew ?_))):P:=h
theorem zyx0_25 {P:Prop} (h:P:=by repeat (first|exact (Kd.C_below HR0_4.out HB.out)|(with_reducible refine Kd.C_alloc ?_ _)|(with_reducible refine Kd.C_drewN ?_ _)|(with_reducible refine Kd.C_drew ?_))):P:=h
theorem zyx0_26 {P:Prop} (h:P:=by repeat (first|exact (Kd.C_below HR0_5.out HB.out)|(with_reducible refine Kd.C_alloc ?_ _)|(with_reducible refine Kd.C_drewN ?_ _)|(with_reducible refine Kd.C_drew ?_))):P:=h
theorem zyx0_27 {P:Prop} (h:P:=by rw [hg];exact (below_size (zyx0_0))):P:=h
theorem zyx0_28 {P:Prop} (h:P:=by rw [hg];exact (below_size (zyx0_11))):P:=h
theorem zyx0_29 {P:Prop} (h:P:=by rw [hg];exact Nat.ne_of_lt (blk_lt (g:=gb365) (o:=.cells #[.int .i64 a0_0,.int .i64 a0_1,.int .i64 a0_2,.slice A0_3 l0_3.length c0_3,.slice A0_4 l0_4.length c0_4,.slice A0_5 l0_5.length c0_5] 27 (0,0)) (zyx0_10))):P:=h
theorem zyx0_30 {P:Prop} (h:P:=by rw [hg];exact Nat.ne_of_gt (blk_lt (g:=gb365) (o:=.cells #[.int .i64 a0_0,.int .i64 a0_1,.int .i64 a0_2,.slice A0_3 l0_3.length c0_3,.slice A0_4 l0_4.length c0_4,.slice A0_5 l0_5.length c0_5] 27 (0,0)) (zyx0_10))):P:=h
theorem zyx0_31 {P:Prop} (h:P:=by rw [hg];exact (below_size (zyx0_13))):P:=h
theorem zyx0_32 {P:Prop} (h:P:=by rw [hg];exact Nat.ne_of_lt (blk_lt (g:=gb370) (o:=.cells #[.int .i64 a0_0,.int .i64 a0_1,.int .i64 a0_2,.slice A0_3 l0_3.length c0_3,.slice A0_4 l0_4.length c0_4,.slice A0_5 l0_5.length c0_5] 27 (0,0)) (zyx0_12))):P:=h
theorem zyx0_33 {P:Prop} (h:P:=by rw [hg];exact Nat.ne_of_gt (blk_lt (g:=gb370) (o:=.cells #[.int .i64 a0_0,.int .i64 a0_1,.int .i64 a0_2,.slice A0_3 l0_3.length c0_3,.slice A0_4 l0_4.length c0_4,.slice A0_5 l0_5.length c0_5] 27 (0,0)) (zyx0_12))):P:=h
def errW:Option Int→Value
 | none=>.nilIface
 | some c=>.iface 0 (.int .i64 c)
theorem errW_none:errW none=.nilIface:=rfl
theorem errW_some (c:Int):errW (some c)=.iface 0 (.int .i64 c):=rfl
theorem info3:(Try.prog.info? 3).map (fun i=>(i.zero,i.size,i.bytes))=some (some (.int .i64 0),1,8):=by kernel_rfl
theorem info9:(Try.prog.info? 9).map (fun i=>(i.zero,i.size,i.bytes))=some (some (.string ⟨#[]⟩),1,16):=by kernel_rfl
theorem info25:(Try.prog.info? 25).map (fun i=>(i.zero,i.size,i.bytes))=some (some (.slice none 0 0),1,24):=by kernel_rfl
-- the values' own types
structure S24 where
 f0:Int
 f1:Int
 f2:Int
def z24:S24:=⟨(0:Int),(0:Int),(0:Int)⟩
def k24:Kd S24:=Kd.iso (Kd.pair (Kd.int .i64) (Kd.pair (Kd.int .i64) (Kd.int .i64))) (fun x:S24=>(x.f0,x.f1,x.f2))
theorem k24_open {w:World} {x:S24} {cs:List Value} (h:k24.K w x cs):cs=[.int .i64 x.f0,.int .i64 x.f1,.int .i64 x.f2]:=by
 obtain ⟨_,_,rfl,rfl,⟨_,_,rfl,rfl,rfl⟩⟩:=h;exact rfl
theorem k24_mkM (w:World) (base:Nat) (ok:Nat→Prop) (x:S24)  : k24.M w base ok x [.int .i64 x.f0,.int .i64 x.f1,.int .i64 x.f2]:=⟨[.int .i64 x.f0],[.int .i64 x.f1,.int .i64 x.f2],rfl,rfl,⟨[.int .i64 x.f1],[.int .i64 x.f2],rfl,rfl,rfl⟩⟩
def rd_T24 (xs:List S24) (i:Int):S24:=xs.getD i.toNat z24
theorem at_T24 {w:World} {A:Option Addr} {n:Nat} {xs:List S24} (h:Kd.C k24 w A n xs) (i:Int) (h0:0≤i) (h1:i < n):∃ ad ,A=some ad∧w.cell? (ad.add (i.toNat * 3))=some (.int .i64 (rd_T24 xs i).f0)∧w.cell? ⟨(ad.add (i.toNat * 3)).block,(ad.add (i.toNat * 3)).off + 1,none⟩=some (.int .i64 (rd_T24 xs i).f1)∧w.cell? ⟨(ad.add (i.toNat * 3)).block,(ad.add (i.toNat * 3)).off + 2,none⟩=some (.int .i64 (rd_T24 xs i).f2):=by
 obtain ⟨ad,c,e,_,hK,hc0⟩:=Kd.C_get h z24 i h0 h1;have hc:∀ j u,c[j]?=some u→w.cell? (ad.add (i.toNat * 3 + j))=some u:=hc0;obtain rfl:=k24_open hK;exact ⟨ad,e,hc 0 _ rfl,by rw [← add_field _ _ 1 (by omega)];exact hc 1 _ rfl,by rw [← add_field _ _ 2 (by omega)];exact hc 2 _ rfl⟩
structure S94 where
 f0:Int
 f1:Int
def z94:S94:=⟨(0:Int),(0:Int)⟩
def k94:Kd S94:=Kd.iso (Kd.pair (Kd.int .i64) (Kd.int .i64)) (fun x:S94=>(x.f0,x.f1))
theorem k94_open {w:World} {x:S94} {cs:List Value} (h:k94.K w x cs):cs=[.int .i64 x.f0,.int .i64 x.f1]:=by
 obtain ⟨_,_,rfl,rfl,rfl⟩:=h;exact rfl
theorem k94_openM {w:World} {base:Nat} {ok:Nat→Prop} {x:S94} {cs:List Value} (h:k94.M w base ok x cs):cs=[.int .i64 x.f0,.int .i64 x.f1]:=by
 obtain ⟨_,_,rfl,rfl,rfl⟩:=h;exact rfl
theorem k94_mkM (w:World) (base:Nat) (ok:Nat→Prop) (x:S94)  : k94.M w base ok x [.int .i64 x.f0,.int .i64 x.f1]:=⟨[.int .i64 x.f0],[.int .i64 x.f1],rfl,rfl,rfl⟩
def rd_T94 (xs:List S94) (i:Int):S94:=xs.getD i.toNat z94
theorem at_T94 {w:World} {A:Option Addr} {n:Nat} {xs:List S94} (h:Kd.C k94 w A n xs) (i:Int) (h0:0≤i) (h1:i < n):∃ ad ,A=some ad∧w.cell? (ad.add (i.toNat * 2))=some (.int .i64 (rd_T94 xs i).f0)∧w.cell? ⟨(ad.add (i.toNat * 2)).block,(ad.add (i.toNat * 2)).off + 1,none⟩=some (.int .i64 (rd_T94 xs i).f1):=by
 obtain ⟨ad,c,e,_,hK,hc0⟩:=Kd.C_get h z94 i h0 h1;have hc:∀ j u,c[j]?=some u→w.cell? (ad.add (i.toNat * 2 + j))=some u:=hc0;obtain rfl:=k94_open hK;exact ⟨ad,e,hc 0 _ rfl,by rw [← add_field _ _ 1 (by omega)];exact hc 1 _ rfl⟩
def rd_L5 (xs:List (List Int)) (i:Int):(List Int):=xs.getD i.toNat ([]:List Int)
theorem at_L5 {w:World} {A:Option Addr} {n:Nat} {xs:List (List Int)} (h:Kd.C (Kd.slice 3 (Kd.int .i64)) w A n xs) (i:Int) (h0:0≤i) (h1:i < n):∃ ad A0 c0,A=some ad∧w.cell? (ad.add i.toNat)=some (.slice A0 (rd_L5 xs i).length c0)∧(rd_L5 xs i).length≤c0∧(Kd.int .i64).C w A0 (rd_L5 xs i).length (rd_L5 xs i):=by
 obtain ⟨ad,c,e,_,hK,hc0⟩:=Kd.C_get h ([]:List Int) i h0 h1;have hc:∀ j u,c[j]?=some u→w.cell? (ad.add (i.toNat * 1 + j))=some u:=hc0;obtain ⟨A0,c0,rfl,l0,g0⟩:=hK;exact ⟨ad,A0,c0,e,by have hq:=hc 0 _ rfl;rwa [Nat.mul_one,Nat.add_zero] at hq,l0,g0⟩
def impl_ArePrices.l0:Nat→List Int→Int→Int→Option (Bool)
 | 0,_,_,_=>none
 | k + 1,x13,x14,x15=>if x15 < x14 then (if 0≤x15 then (if x15 < (x13.length:Int) then (if (rd x13 x15) < 0 then (some false) else (if (rd x13 x15) > 1000 then (some false) else (impl_ArePrices.l0 k x13 x14 (wrap64 (x15 + 1))))) else (none)) else (none)) else (some true)
def impl_ArePrices.f (k:Nat) (a0_0:Int) (a0_1:Int) (a0_2:Int) (a0_3:Int):Option (Bool):=(some (([a0_0,a0_1,a0_2,a0_3]:List Int):List Int)).bind fun y350=>(impl_ArePrices.l0 k y350 (y350.length:Int) 0)
set_option maxHeartbeats 8000000 in
set_option maxRecDepth 100000 in
theorem impl_ArePrices.calls (k:Nat) (a0_0:Int) (a0_1:Int) (a0_2:Int) (a0_3:Int) (r:Bool) (w:World) (h:impl_ArePrices.f k a0_0 a0_1 a0_2 a0_3=some r) :
  Calls Try.prog 18 #[.agg #[.int .i64 a0_0,.int .i64 a0_1,.int .i64 a0_2,.int .i64 a0_3]] w fun e w'=>e=.returned (.bool r)∧Below w.heap.size w w':=by
 have hu29:=Try.underlying29;have HB:=aM0 (Below.refl w.heap.size w);have H:((some (([a0_0,a0_1,a0_2,a0_3]:List Int):List Int)).bind fun y350=>(impl_ArePrices.l0 k y350 (y350.length:Int) 0))=some r:=h;clear h;obtain ⟨y350,hy350⟩:∃ y_:List Int,y_=(([a0_0,a0_1,a0_2,a0_3]:List Int)):=⟨_,rfl⟩
 replace H:(impl_ArePrices.l0 k y350 (y350.length:Int) 0)=some r:=by first|(rw [hy350];with_reducible exact H)|(have H2_:=(Option.bind_some _ _).symm.trans H;rw [hy350];with_reducible exact H2_)|(have H2_:=(Option.bind_some _ _).symm.trans H;with_reducible exact H2_)|with_reducible exact H|(rw [hy350];exact H)|exact H
 have Ny350:=aM0 hy350;clear hy350;have H':=aM0 H;clear H;go_enter Try.func18,Try.ntmps18
 go_wp2_with (first|((with_reducible refine gate_dst (N:=1) rfl ?_);refine box_event ?hg (N:=1) ?hd (cs:=#[.int .i64 a0_0,.int .i64 a0_1,.int .i64 a0_2,.int .i64 a0_3]) (t:=29) ?hr ?_;(case hd=>rfl);(case hg=>rfl);(case hr=>exact zyx0_23);intro gb349 hg w2 hbox hb;have n0_:=aM0 (bS0 (zyx0_0) hb);have n1_:=aM0 (hbox);have n2_:=aM0 ((zyx0_27:w.heap.size≤gb349));have n3_:=aM0 ((zyx0_27:w.heap.size≤gb349));clear HB;have HB:=n0_;have BK349:=n1_;have GW349:=n2_;have GE349:=n3_;clear n0_ n1_ n2_ n3_ hb hbox hg;obtain ⟨hcz3_0,hfz3_0,hcz3_1,hfz3_1,hcz3_2,hfz3_2,hcz3_3,hfz3_3⟩:=cf4 BK349.out)|((with_reducible refine gate_dst (N:=13) rfl ?_);refine Kd.R_lit (Kd.int .i64) _ 3 ?hg (N:=13) ?hd (xs:=([a0_0,a0_1,a0_2,a0_3]:List Int)) (inner:=[.int .i64 a0_0,.int .i64 a0_1,.int .i64 a0_2,.int .i64 a0_3]) (ok:=fun _=>True) (okp:=fun _=>True) ?hr ?hp (fun _ hk=>hk) trivial (Below.refl _ _) (Nat.le_refl _) (by simp) ?_;(case hd=>rfl);(case hg=>rfl);(case hr=>exact zyx0_23);(case hp=>exact (Reps.one (show Kd.M (Kd.int .i64) _ _ _ a0_0 [.int .i64 a0_0] from rfl) (Reps.one (show Kd.M (Kd.int .i64) _ _ _ a0_1 [.int .i64 a0_1] from rfl) (Reps.one (show Kd.M (Kd.int .i64) _ _ _ a0_2 [.int .i64 a0_2] from rfl) (Reps.one (show Kd.M (Kd.int .i64) _ _ _ a0_3 [.int .i64 a0_3] from rfl) (Reps.none _ _))))));intro v351 w4 ho5 hb hg_ hnew_;clear hg_ hnew_;(first|rw [← Ny350.out] at ho5|(simp only [Int.reduceToNat] at ho5;rw [← Ny350.out] at ho5));have n0_:=aM0 (Kd.R_lower ho5 (below_size (zyx0_1)));have n1_:=aM0 (bB0 (g:=gb349) (o:=.cells #[.int .i64 a0_0,.int .i64 a0_1,.int .i64 a0_2,.int .i64 a0_3] 29 (0,0)) (zyx0_2) hb);have n2_:=aM0 (bS0 (zyx0_1) hb);clear BK349 HB;have HO352:=n0_;have BK349:=n1_;have HB:=n2_;clear n0_ n1_ n2_ hb ho5;obtain ⟨Ao6,co6,eo6⟩:=Kd.R_slice HO352.out;subst eo6))
 go_loopg [15] k (fun kq v15 w'=>∃ (x15_1:Int),v15=.int .i64 x15_1∧Aside0 (impl_ArePrices.l0 kq y350 (y350.length:Int) x15_1=some r)∧Aside0 (kq≤k)∧Aside0 (Kd.R (Kd.int .i64) 3 w' w.heap.size (fun _=>True) (.slice Ao6 y350.length co6) y350)∧Aside0 (w'.heap[gb349]?=some (.cells #[.int .i64 a0_0,.int .i64 a0_1,.int .i64 a0_2,.int .i64 a0_3] 29 (0,0)))∧Aside0 (Below w.heap.size w w'))
 case atStart=>exact ⟨(0),(zyx0_3),H',⟨Nat.le_refl _⟩,⟨by (with_reducible repeat (first|apply Kd.R_alloc|apply Kd.R_drewN|apply Kd.R_drew));exact HO352.out⟩,⟨zyx0_2⟩,⟨zyx0_1⟩⟩
 case round =>
  clear H';(try clear c1);(try clear p2);(try clear hcz3_0);(try clear hcz3_1);(try clear hcz3_2);(try clear hcz3_3);(try clear hfz3_0);(try clear hfz3_1);(try clear hfz3_2);(try clear hfz3_3);obtain ⟨x15_1,rfl,HA,HK1,HO_13,BK349,HB⟩:=hrel
  cases gk with
  | zero=>exact absurd HA.out (by simp [impl_ArePrices.l0])
  | succ k1 =>
   have H:=HA.out;clear HA;simp only [impl_ArePrices.l0] at H
   by_cases c7:x15_1 < (y350.length:Int)
   ·rw [if_pos c7] at H
    have c7b0:decide (x15_1 < (y350.length:Int))=true:=dT0 c7;clear c7
    by_cases c8:0≤x15_1
    ·rw [if_pos c8] at H
     have c8b0:decide (0≤x15_1)=true:=dT0 c8;clear c8
     by_cases c9:x15_1 < (y350.length:Int)
     ·rw [if_pos c9] at H
      have c9b0:decide (x15_1 < (y350.length:Int))=true:=dT0 c9;clear c9
      by_cases c10:(rd y350 x15_1) < 0
      ·rw [if_pos c10] at H
       have c10b0:decide ((rd y350 x15_1) < 0)=true:=dT0 c10;clear c10;obtain rfl:=Option.some.inj H;have p353:0≤(x15_1:Int):=oD0 (zyx0_4);have q353:x15_1 < (y350.length:Int):=oD0 (zyx0_4);obtain ⟨ad353,e353,hx353_0⟩:=Kd.at_int (Kd.R_reads' HO_13.out).2.2 x15_1 p353 q353
       cases e353
       replace p353:=eT0 p353;replace q353:=eT0 q353
       go_wp2
       go_ret
       exact ⟨zyx0_5,zyx0_1⟩
      ·rw [if_neg c10] at H
       have c10b0:decide ((rd y350 x15_1) < 0)=false:=decide_eq_false c10;clear c10
       by_cases c11:(rd y350 x15_1) > 1000
       ·rw [if_pos c11] at H
        have c11b0:decide (1000 < (rd y350 x15_1))=true:=dT0 c11;clear c11;obtain rfl:=Option.some.inj H;have p353:0≤(x15_1:Int):=oD0 (zyx0_4);have q353:x15_1 < (y350.length:Int):=oD0 (zyx0_4);obtain ⟨ad353,e353,hx353_0⟩:=Kd.at_int (Kd.R_reads' HO_13.out).2.2 x15_1 p353 q353
        cases e353
        replace p353:=eT0 p353;replace q353:=eT0 q353
        go_wp2
        go_ret
        exact ⟨zyx0_5,zyx0_1⟩
       ·rw [if_neg c11] at H
        have c11b0:decide (1000 < (rd y350 x15_1))=false:=decide_eq_false c11;clear c11;have H':=aM0 H;clear H;have p353:0≤(x15_1:Int):=oD0 (zyx0_4);have q353:x15_1 < (y350.length:Int):=oD0 (zyx0_4);obtain ⟨ad353,e353,hx353_0⟩:=Kd.at_int (Kd.R_reads' HO_13.out).2.2 x15_1 p353 q353
        cases e353
        replace p353:=eT0 p353;replace q353:=eT0 q353
        go_wp2
        go_roundg k1
        case measure=>have:=HK1.out;omega
        case rel=>exact ⟨(wrap64 (x15_1 + 1)),(zyx0_3),H',⟨by have:=HK1.out;omega⟩,⟨by (with_reducible repeat (first|apply Kd.R_alloc|apply Kd.R_drewN|apply Kd.R_drew));exact HO_13.out⟩,⟨zyx0_2⟩,⟨zyx0_1⟩⟩
     ·rw [if_neg c9] at H
      exact absurd H (by simp)
    ·rw [if_neg c8] at H
     exact absurd H (by simp)
   ·rw [if_neg c7] at H
    have c7b0:decide (x15_1 < (y350.length:Int))=false:=decide_eq_false c7;clear c7;obtain rfl:=Option.some.inj H
    go_wp2
    go_ret
    exact ⟨zyx0_5,zyx0_1⟩
def impl_IsGrid.f (a0_0:Int) (a0_1:Int) (a0_2:Int):Option (Bool):=if a0_0 ≥ 1 then (if a0_0≤8 then (if a0_1 ≥ 1 then (if a0_1≤6 then (if a0_2 ≥ 1 then (if a0_2≤5 then (some (decide ((wrap64 ((wrap64 (a0_0 * a0_1)) * a0_2))≤120))) else (some false)) else (some false)) else (some false)) else (some false)) else (some false)) else (some false)
set_option maxHeartbeats 8000000 in
set_option maxRecDepth 100000 in
theorem impl_IsGrid.calls (a0_0:Int) (a0_1:Int) (a0_2:Int) (r:Bool) (w:World) (h:impl_IsGrid.f a0_0 a0_1 a0_2=some r) :
  Calls Try.prog 45 #[.agg #[.int .i64 a0_0,.int .i64 a0_1,.int .i64 a0_2]] w fun e w'=>e=.returned (.bool r)∧Below w.heap.size w w':=by
 have hu24:=Try.underlying24;have HB:=aM0 (Below.refl w.heap.size w);have H:(if a0_0 ≥ 1 then (if a0_0≤8 then (if a0_1 ≥ 1 then (if a0_1≤6 then (if a0_2 ≥ 1 then (if a0_2≤5 then (some (decide ((wrap64 ((wrap64 (a0_0 * a0_1)) * a0_2))≤120))) else (some false)) else (some false)) else (some false)) else (some false)) else (some false)) else (some false))=some r:=h;clear h
 by_cases c2:a0_0 ≥ 1
 ·rw [if_pos c2] at H
  have c2b0:decide (1≤a0_0)=true:=dT0 c2;clear c2
  by_cases c3:a0_0≤8
  ·rw [if_pos c3] at H
   have c3b0:decide (a0_0≤8)=true:=dT0 c3;clear c3
   by_cases c4:a0_1 ≥ 1
   ·rw [if_pos c4] at H
    have c4b0:decide (1≤a0_1)=true:=dT0 c4;clear c4
    by_cases c5:a0_1≤6
    ·rw [if_pos c5] at H
     have c5b0:decide (a0_1≤6)=true:=dT0 c5;clear c5
     by_cases c6:a0_2 ≥ 1
     ·rw [if_pos c6] at H
      have c6b0:decide (1≤a0_2)=true:=dT0 c6;clear c6
      by_cases c7:a0_2≤5
      ·rw [if_pos c7] at H
       have c7b0:decide (a0_2≤5)=true:=dT0 c7;clear c7;obtain rfl:=Option.some.inj H;go_enter Try.func45,Try.ntmps45
       go_wp2_with (first|((with_reducible refine gate_dst (N:=1) rfl ?_);refine box_event ?hg (N:=1) ?hd (cs:=#[.int .i64 a0_0,.int .i64 a0_1,.int .i64 a0_2]) (t:=24) ?hr ?_;(case hd=>rfl);(case hg=>rfl);(case hr=>exact zyx0_23);intro gb354 hg w8 hbox hb;have n0_:=aM0 (bS0 (zyx0_0) hb);have n1_:=aM0 (hbox);have n2_:=aM0 ((zyx0_27:w.heap.size≤gb354));have n3_:=aM0 ((zyx0_27:w.heap.size≤gb354));clear HB;have HB:=n0_;have BK354:=n1_;have GW354:=n2_;have GE354:=n3_;clear n0_ n1_ n2_ n3_ hb hbox hg;obtain ⟨hcz9_0,hfz9_0,hcz9_1,hfz9_1,hcz9_2,hfz9_2⟩:=cf3 BK354.out))
       go_ret
       exact ⟨zyx0_5,zyx0_6⟩
      ·rw [if_neg c7] at H
       have c7b0:decide (a0_2≤5)=false:=decide_eq_false c7;clear c7;obtain rfl:=Option.some.inj H;go_enter Try.func45,Try.ntmps45
       go_wp2_with (first|((with_reducible refine gate_dst (N:=1) rfl ?_);refine box_event ?hg (N:=1) ?hd (cs:=#[.int .i64 a0_0,.int .i64 a0_1,.int .i64 a0_2]) (t:=24) ?hr ?_;(case hd=>rfl);(case hg=>rfl);(case hr=>exact zyx0_23);intro gb354 hg w10 hbox hb;have n0_:=aM0 (bS0 (zyx0_0) hb);have n1_:=aM0 (hbox);have n2_:=aM0 ((zyx0_27:w.heap.size≤gb354));have n3_:=aM0 ((zyx0_27:w.heap.size≤gb354));clear HB;have HB:=n0_;have BK354:=n1_;have GW354:=n2_;have GE354:=n3_;clear n0_ n1_ n2_ n3_ hb hbox hg;obtain ⟨hcz11_0,hfz11_0,hcz11_1,hfz11_1,hcz11_2,hfz11_2⟩:=cf3 BK354.out))
       go_ret
       exact ⟨zyx0_5,zyx0_6⟩
     ·rw [if_neg c6] at H
      have c6b0:decide (1≤a0_2)=false:=decide_eq_false c6;clear c6;obtain rfl:=Option.some.inj H;go_enter Try.func45,Try.ntmps45
      go_wp2_with (first|((with_reducible refine gate_dst (N:=1) rfl ?_);refine box_event ?hg (N:=1) ?hd (cs:=#[.int .i64 a0_0,.int .i64 a0_1,.int .i64 a0_2]) (t:=24) ?hr ?_;(case hd=>rfl);(case hg=>rfl);(case hr=>exact zyx0_23);intro gb354 hg w12 hbox hb;have n0_:=aM0 (bS0 (zyx0_0) hb);have n1_:=aM0 (hbox);have n2_:=aM0 ((zyx0_27:w.heap.size≤gb354));have n3_:=aM0 ((zyx0_27:w.heap.size≤gb354));clear HB;have HB:=n0_;have BK354:=n1_;have GW354:=n2_;have GE354:=n3_;clear n0_ n1_ n2_ n3_ hb hbox hg;obtain ⟨hcz13_0,hfz13_0,hcz13_1,hfz13_1,hcz13_2,hfz13_2⟩:=cf3 BK354.out))
      go_ret
      exact ⟨zyx0_5,zyx0_6⟩
    ·rw [if_neg c5] at H
     have c5b0:decide (a0_1≤6)=false:=decide_eq_false c5;clear c5;obtain rfl:=Option.some.inj H;go_enter Try.func45,Try.ntmps45
     go_wp2_with (first|((with_reducible refine gate_dst (N:=1) rfl ?_);refine box_event ?hg (N:=1) ?hd (cs:=#[.int .i64 a0_0,.int .i64 a0_1,.int .i64 a0_2]) (t:=24) ?hr ?_;(case hd=>rfl);(case hg=>rfl);(case hr=>exact zyx0_23);intro gb354 hg w14 hbox hb;have n0_:=aM0 (bS0 (zyx0_0) hb);have n1_:=aM0 (hbox);have n2_:=aM0 ((zyx0_27:w.heap.size≤gb354));have n3_:=aM0 ((zyx0_27:w.heap.size≤gb354));clear HB;have HB:=n0_;have BK354:=n1_;have GW354:=n2_;have GE354:=n3_;clear n0_ n1_ n2_ n3_ hb hbox hg;obtain ⟨hcz15_0,hfz15_0,hcz15_1,hfz15_1,hcz15_2,hfz15_2⟩:=cf3 BK354.out))
     go_ret
     exact ⟨zyx0_5,zyx0_6⟩
   ·rw [if_neg c4] at H
    have c4b0:decide (1≤a0_1)=false:=decide_eq_false c4;clear c4;obtain rfl:=Option.some.inj H;go_enter Try.func45,Try.ntmps45
    go_wp2_with (first|((with_reducible refine gate_dst (N:=1) rfl ?_);refine box_event ?hg (N:=1) ?hd (cs:=#[.int .i64 a0_0,.int .i64 a0_1,.int .i64 a0_2]) (t:=24) ?hr ?_;(case hd=>rfl);(case hg=>rfl);(case hr=>exact zyx0_23);intro gb354 hg w16 hbox hb;have n0_:=aM0 (bS0 (zyx0_0) hb);have n1_:=aM0 (hbox);have n2_:=aM0 ((zyx0_27:w.heap.size≤gb354));have n3_:=aM0 ((zyx0_27:w.heap.size≤gb354));clear HB;have HB:=n0_;have BK354:=n1_;have GW354:=n2_;have GE354:=n3_;clear n0_ n1_ n2_ n3_ hb hbox hg;obtain ⟨hcz17_0,hfz17_0,hcz17_1,hfz17_1,hcz17_2,hfz17_2⟩:=cf3 BK354.out))
    go_ret
    exact ⟨zyx0_5,zyx0_6⟩
  ·rw [if_neg c3] at H
   have c3b0:decide (a0_0≤8)=false:=decide_eq_false c3;clear c3;obtain rfl:=Option.some.inj H;go_enter Try.func45,Try.ntmps45
   go_wp2_with (first|((with_reducible refine gate_dst (N:=1) rfl ?_);refine box_event ?hg (N:=1) ?hd (cs:=#[.int .i64 a0_0,.int .i64 a0_1,.int .i64 a0_2]) (t:=24) ?hr ?_;(case hd=>rfl);(case hg=>rfl);(case hr=>exact zyx0_23);intro gb354 hg w18 hbox hb;have n0_:=aM0 (bS0 (zyx0_0) hb);have n1_:=aM0 (hbox);have n2_:=aM0 ((zyx0_27:w.heap.size≤gb354));have n3_:=aM0 ((zyx0_27:w.heap.size≤gb354));clear HB;have HB:=n0_;have BK354:=n1_;have GW354:=n2_;have GE354:=n3_;clear n0_ n1_ n2_ n3_ hb hbox hg;obtain ⟨hcz19_0,hfz19_0,hcz19_1,hfz19_1,hcz19_2,hfz19_2⟩:=cf3 BK354.out))
   go_ret
   exact ⟨zyx0_5,zyx0_6⟩
 ·rw [if_neg c2] at H
  have c2b0:decide (1≤a0_0)=false:=decide_eq_false c2;clear c2;obtain rfl:=Option.some.inj H;go_enter Try.func45,Try.ntmps45
  go_wp2_with (first|((with_reducible refine gate_dst (N:=1) rfl ?_);refine box_event ?hg (N:=1) ?hd (cs:=#[.int .i64 a0_0,.int .i64 a0_1,.int .i64 a0_2]) (t:=24) ?hr ?_;(case hd=>rfl);(case hg=>rfl);(case hr=>exact zyx0_23);intro gb354 hg w20 hbox hb;have n0_:=aM0 (bS0 (zyx0_0) hb);have n1_:=aM0 (hbox);have n2_:=aM0 ((zyx0_27:w.heap.size≤gb354));have n3_:=aM0 ((zyx0_27:w.heap.size≤gb354));clear HB;have HB:=n0_;have BK354:=n1_;have GW354:=n2_;have GE354:=n3_;clear n0_ n1_ n2_ n3_ hb hbox hg;obtain ⟨hcz21_0,hfz21_0,hcz21_1,hfz21_1,hcz21_2,hfz21_2⟩:=cf3 BK354.out))
  go_ret
  exact ⟨zyx0_5,zyx0_6⟩
def impl_blocksOf.f (a0_0:Int) (a0_1:Int) (a0_2:Int):Option (Int):=some (wrap64 ((wrap64 (a0_0 * a0_1)) * a0_2))
set_option maxHeartbeats 8000000 in
set_option maxRecDepth 100000 in
theorem impl_blocksOf.calls (a0_0:Int) (a0_1:Int) (a0_2:Int) (r:Int) (w:World) (h:impl_blocksOf.f a0_0 a0_1 a0_2=some r) :
  Calls Try.prog 46 #[.agg #[.int .i64 a0_0,.int .i64 a0_1,.int .i64 a0_2]] w fun e w'=>e=.returned (.int .i64 r)∧Below w.heap.size w w':=by
 have hu24:=Try.underlying24;have HB:=aM0 (Below.refl w.heap.size w);have H:(some (wrap64 ((wrap64 (a0_0 * a0_1)) * a0_2)))=some r:=h;clear h;obtain rfl:=Option.some.inj H;go_enter Try.func46,Try.ntmps46
 go_wp2_with (first|((with_reducible refine gate_dst (N:=1) rfl ?_);refine box_event ?hg (N:=1) ?hd (cs:=#[.int .i64 a0_0,.int .i64 a0_1,.int .i64 a0_2]) (t:=24) ?hr ?_;(case hd=>rfl);(case hg=>rfl);(case hr=>exact zyx0_23);intro gb355 hg w2 hbox hb;have n0_:=aM0 (bS0 (zyx0_0) hb);have n1_:=aM0 (hbox);have n2_:=aM0 ((zyx0_27:w.heap.size≤gb355));have n3_:=aM0 ((zyx0_27:w.heap.size≤gb355));clear HB;have HB:=n0_;have BK355:=n1_;have GW355:=n2_;have GE355:=n3_;clear n0_ n1_ n2_ n3_ hb hbox hg;obtain ⟨hcz3_0,hfz3_0,hcz3_1,hfz3_1,hcz3_2,hfz3_2⟩:=cf3 BK355.out))
 go_ret
 exact ⟨zyx0_5,by repeat (first|(with_reducible first|exact HB.out|apply below_alloc|apply pw_below_drewN|apply below_drew1|refine below_set ?_ GE355.out)|exact HB.out)⟩
mutual
def impl_IsModel.j0:Nat→Int→Bool→Int→Int→Int→List Int→List Int→List Int→Option (Bool)
 | 0,_,_,_,_,_,_,_,_=>none
 | k + 1,x3,x30,x357000,x357001,x357002,x357003,x357004,x357005=>if x30=true then (some false) else (impl_IsModel.l0 k x3 0 x357000 x357001 x357002 x357003 x357004 x357005)
def impl_IsModel.l0:Nat→Int→Int→Int→Int→Int→List Int→List Int→List Int→Option (Bool)
 | 0,_,_,_,_,_,_,_,_=>none
 | k + 1,x31,x32,x357000,x357001,x357002,x357003,x357004,x357005=>if x32 < x31 then (if 0≤x32 then (if x32 < (x357003.length:Int) then (if (rd x357003 x32) < 0 then (some false) else (if (rd x357003 x32) > 10000 then (some false) else (if x32 < (x357004.length:Int) then (if (rd x357004 x32) < 0 then (some false) else (if (rd x357004 x32) > 1000 then (some false) else (if x32 < (x357005.length:Int) then (if (rd x357005 x32) < 0 then (some false) else (if (rd x357005 x32) > 4 then (some false) else (impl_IsModel.l0 k x31 (wrap64 (x32 + 1)) x357000 x357001 x357002 x357003 x357004 x357005))) else (none)))) else (none)))) else (none)) else (none)) else (some true)
end
def impl_IsModel.f (k:Nat) (a0_0:Int) (a0_1:Int) (a0_2:Int) (l0_3:List Int) (l0_4:List Int) (l0_5:List Int):Option (Bool):=(impl_IsGrid.f a0_0 a0_1 a0_2).bind fun t357=>(if t357=true then ((impl_blocksOf.f a0_0 a0_1 a0_2).bind fun t358=>(if (l0_3.length:Int)=t358 then (if (l0_4.length:Int)=t358 then (impl_IsModel.j0 k t358 ((l0_5.length:Int) != t358) a0_0 a0_1 a0_2 l0_3 l0_4 l0_5) else (impl_IsModel.j0 k t358 true a0_0 a0_1 a0_2 l0_3 l0_4 l0_5)) else (impl_IsModel.j0 k t358 true a0_0 a0_1 a0_2 l0_3 l0_4 l0_5))) else (some false))
set_option maxHeartbeats 8000000 in
set_option maxRecDepth 100000 in
theorem impl_IsModel.calls (k:Nat) (a0_0:Int) (a0_1:Int) (a0_2:Int) (A0_3:Option Addr) (c0_3:Nat) (l0_3:List Int) (A0_4:Option Addr) (c0_4:Nat) (l0_4:List Int) (A0_5:Option Addr) (c0_5:Nat) (l0_5:List Int) (r:Bool) (w:World) (hr0_3:Kd.C (Kd.int .i64) w A0_3 l0_3.length l0_3) (hc0_3:l0_3.length≤c0_3) (hr0_4:Kd.C (Kd.int .i64) w A0_4 l0_4.length l0_4) (hc0_4:l0_4.length≤c0_4) (hr0_5:Kd.C (Kd.int .i64) w A0_5 l0_5.length l0_5) (hc0_5:l0_5.length≤c0_5) (h:impl_IsModel.f k a0_0 a0_1 a0_2 l0_3 l0_4 l0_5=some r) :
  Calls Try.prog 24 #[.agg #[.int .i64 a0_0,.int .i64 a0_1,.int .i64 a0_2,.slice A0_3 l0_3.length c0_3,.slice A0_4 l0_4.length c0_4,.slice A0_5 l0_5.length c0_5]] w fun e w'=>e=.returned (.bool r)∧Below w.heap.size w w':=by
 have hu27:=Try.underlying27;have hu24:=Try.underlying24;have HR0_3:=aM0 hr0_3;have HC0_3:=aM0 hc0_3;clear hr0_3 hc0_3;have HR0_4:=aM0 hr0_4;have HC0_4:=aM0 hc0_4;clear hr0_4 hc0_4;have HR0_5:=aM0 hr0_5;have HC0_5:=aM0 hc0_5;clear hr0_5 hc0_5;have HB:=aM0 (Below.refl w.heap.size w);have H:((impl_IsGrid.f a0_0 a0_1 a0_2).bind fun t357=>(if t357=true then ((impl_blocksOf.f a0_0 a0_1 a0_2).bind fun t358=>(if (l0_3.length:Int)=t358 then (if (l0_4.length:Int)=t358 then (impl_IsModel.j0 k t358 ((l0_5.length:Int) != t358) a0_0 a0_1 a0_2 l0_3 l0_4 l0_5) else (impl_IsModel.j0 k t358 true a0_0 a0_1 a0_2 l0_3 l0_4 l0_5)) else (impl_IsModel.j0 k t358 true a0_0 a0_1 a0_2 l0_3 l0_4 l0_5))) else (some false)))=some r:=h;clear h;replace H:=bI0.mp H;obtain ⟨t357,A20,H⟩:=H;(try dsimp only at H);have A2:=aM0 A20;clear A20
 by_cases c3:t357=true
 ·subst c3
  rw [if_pos rfl] at H;(try dsimp only at H);replace H:=bI0.mp H;obtain ⟨t358,A40,H⟩:=H;(try dsimp only at H);have A4:=aM0 A40;clear A40;have HC5:=aM0 H;clear H;go_enter Try.func24,Try.ntmps24
  go_upto_region 4 with (first|((with_reducible refine gate_dst (N:=1) rfl ?_);(try (refine gate_guard (by rfl) ?_;dsimp only));refine box_event ?hg (N:=1) ?hd (cs:=#[.int .i64 a0_0,.int .i64 a0_1,.int .i64 a0_2,.slice A0_3 l0_3.length c0_3,.slice A0_4 l0_4.length c0_4,.slice A0_5 l0_5.length c0_5]) (t:=27) ?hr ?_;(case hd=>rfl);(case hg=>rfl);(case hr=>exact zyx0_23);intro gb356 hg w6 hbox hb;have n0_:=aM0 (bS0 (zyx0_0) hb);have n1_:=aM0 (hbox);have n2_:=aM0 ((zyx0_27:w.heap.size≤gb356));have n3_:=aM0 ((zyx0_27:w.heap.size≤gb356));clear HB;have HB:=n0_;have BK356:=n1_;have GW356:=n2_;have GE356:=n3_;clear n0_ n1_ n2_ n3_ hb hbox hg;obtain ⟨hcz7_0,hfz7_0,hcz7_1,hfz7_1,hcz7_2,hfz7_2,hcz7_3,hfz7_3,hcz7_4,hfz7_4,hcz7_5,hfz7_5⟩:=cf6 BK356.out)|((with_reducible refine gC0 (f:=45) rfl ?_);refine goesL_ (some 7) rfl rfl Try.func45 (by kernel_rfl) rfl #[.agg #[.int .i64 a0_0,.int .i64 a0_1,.int .i64 a0_2]] rfl (zyx0_7) ?_;(with_reducible refine (impl_IsGrid.calls a0_0 a0_1 a0_2 true _ A2.out).mono ?_);rintro e w8 ⟨rfl,hb⟩;refine ⟨_,rfl,?_⟩;have n0_:=aM0 (bB0 (g:=gb356) (o:=.cells #[.int .i64 a0_0,.int .i64 a0_1,.int .i64 a0_2,.slice A0_3 l0_3.length c0_3,.slice A0_4 l0_4.length c0_4,.slice A0_5 l0_5.length c0_5] 27 (0,0)) (zyx0_8) hb);have n1_:=aM0 (bS0 (zyx0_9) hb);clear BK356 HB;have BK356:=n0_;have HB:=n1_;clear n0_ n1_;(try clear hb);(try clear hb2);(try clear hk);(try clear hi);obtain ⟨hcz9_0,hfz9_0,hcz9_1,hfz9_1,hcz9_2,hfz9_2,hcz9_3,hfz9_3,hcz9_4,hfz9_4,hcz9_5,hfz9_5⟩:=cf6 BK356.out)|((with_reducible refine gC0 (f:=46) rfl ?_);refine goesL_ (some 11) rfl rfl Try.func46 (by kernel_rfl) rfl #[.agg #[.int .i64 a0_0,.int .i64 a0_1,.int .i64 a0_2]] rfl (zyx0_7) ?_;(with_reducible refine (impl_blocksOf.calls a0_0 a0_1 a0_2 t358 _ A4.out).mono ?_);rintro e w10 ⟨rfl,hb⟩;refine ⟨_,rfl,?_⟩;have n0_:=aM0 (bB0 (g:=gb356) (o:=.cells #[.int .i64 a0_0,.int .i64 a0_1,.int .i64 a0_2,.slice A0_3 l0_3.length c0_3,.slice A0_4 l0_4.length c0_4,.slice A0_5 l0_5.length c0_5] 27 (0,0)) (zyx0_8) hb);have n1_:=aM0 (bS0 (zyx0_9) hb);clear BK356 HB;have BK356:=n0_;have HB:=n1_;clear n0_ n1_;(try clear hb);(try clear hb2);(try clear hk);(try clear hi)))
  (try simp only [Act.put,List.setIfInBounds_toArray,List.set_cons_zero,List.set_cons_succ])
  go_cut [30] (fun v30 wc=>∃ (kq:Nat) (x30_4:Bool),v30=.bool x30_4∧Aside0 (impl_IsModel.j0 kq t358 x30_4 a0_0 a0_1 a0_2 l0_3 l0_4 l0_5=some r)∧Aside0 (kq≤k)∧Aside0 (wc.heap[gb356]?=some (.cells #[.int .i64 a0_0,.int .i64 a0_1,.int .i64 a0_2,(.slice A0_3 l0_3.length c0_3),(.slice A0_4 l0_4.length c0_4),(.slice A0_5 l0_5.length c0_5)] 27 (0,0)))∧Aside0 (Below w.heap.size w wc))
  case first =>
   have H:=HC5.out;clear HC5
   by_cases c11:(l0_3.length:Int)=t358
   ·rw [if_pos c11] at H
    have c11b0:((l0_3.length:Int) == t358)=true:=beq_iff_eq.mpr c11;have c11b1:((l0_3.length:Int) != t358)=false:=bne_eq_false_iff_eq.mpr c11;clear c11
    (first|rw [c11b0]|(simp only [i64_w,i32_w];rw [c11b0])|skip)
    by_cases c12:(l0_4.length:Int)=t358
    ·rw [if_pos c12] at H
     have c12b0:((l0_4.length:Int) == t358)=true:=beq_iff_eq.mpr c12;have c12b1:((l0_4.length:Int) != t358)=false:=bne_eq_false_iff_eq.mpr c12;clear c12;have H':=aM0 H;clear H;obtain ⟨hcz13_0,hfz13_0,hcz13_1,hfz13_1,hcz13_2,hfz13_2,hcz13_3,hfz13_3,hcz13_4,hfz13_4,hcz13_5,hfz13_5⟩:=cf6 BK356.out
     go_wp2
     go_meet
     case rel=>exact ⟨_,(((l0_5.length:Int) != t358)),(zyx0_3),H',⟨by first|omega|exact Nat.le_refl _⟩,⟨zyx0_8⟩,⟨zyx0_9⟩⟩
    ·rw [if_neg c12] at H
     have c12b0:((l0_4.length:Int) == t358)=false:=beq_eq_false_iff_ne.mpr c12;have c12b1:((l0_4.length:Int) != t358)=true:=bne_iff_ne.mpr c12;have H':=aM0 H;clear H;obtain ⟨hcz14_0,hfz14_0,hcz14_1,hfz14_1,hcz14_2,hfz14_2,hcz14_3,hfz14_3,hcz14_4,hfz14_4,hcz14_5,hfz14_5⟩:=cf6 BK356.out
     go_wp2
     go_meet
     case rel=>exact ⟨_,(true),(zyx0_3),H',⟨by first|omega|exact Nat.le_refl _⟩,⟨zyx0_8⟩,⟨zyx0_9⟩⟩
   ·rw [if_neg c11] at H
    have c11b0:((l0_3.length:Int) == t358)=false:=beq_eq_false_iff_ne.mpr c11;have c11b1:((l0_3.length:Int) != t358)=true:=bne_iff_ne.mpr c11
    (first|rw [c11b0]|(simp only [i64_w,i32_w];rw [c11b0])|skip)
    have H':=aM0 H;clear H;obtain ⟨hcz15_0,hfz15_0,hcz15_1,hfz15_1,hcz15_2,hfz15_2,hcz15_3,hfz15_3,hcz15_4,hfz15_4,hcz15_5,hfz15_5⟩:=cf6 BK356.out
    go_wp2
    go_meet
    case rel=>exact ⟨_,(true),(zyx0_3),H',⟨by first|omega|exact Nat.le_refl _⟩,⟨zyx0_8⟩,⟨zyx0_9⟩⟩
  case rest =>
   clear HC5;(try clear c1);(try clear c2);(try clear p2);(try clear c3);(try clear c4);(try clear c11);(try clear c11b0);(try clear c11b1);(try clear c12);(try clear c12b0);(try clear c12b1);(try clear hcz13_0);(try clear hcz13_1);(try clear hcz13_2);(try clear hcz13_3);(try clear hcz13_4);(try clear hcz13_5);(try clear hcz14_0);(try clear hcz14_1);(try clear hcz14_2);(try clear hcz14_3);(try clear hcz14_4);(try clear hcz14_5);(try clear hcz15_0);(try clear hcz15_1);(try clear hcz15_2);(try clear hcz15_3);(try clear hcz15_4);(try clear hcz15_5);(try clear hcz7_0);(try clear hcz7_1);(try clear hcz7_2);(try clear hcz7_3);(try clear hcz7_4);(try clear hcz7_5);(try clear hcz9_0);(try clear hcz9_1);(try clear hcz9_2);(try clear hcz9_3);(try clear hcz9_4);(try clear hcz9_5);(try clear hfz13_0);(try clear hfz13_1);(try clear hfz13_2);(try clear hfz13_3);(try clear hfz13_4);(try clear hfz13_5);(try clear hfz14_0);(try clear hfz14_1);(try clear hfz14_2);(try clear hfz14_3);(try clear hfz14_4);(try clear hfz14_5);(try clear hfz15_0);(try clear hfz15_1);(try clear hfz15_2);(try clear hfz15_3);(try clear hfz15_4);(try clear hfz15_5);(try clear hfz7_0);(try clear hfz7_1);(try clear hfz7_2);(try clear hfz7_3);(try clear hfz7_4);(try clear hfz7_5);(try clear hfz9_0);(try clear hfz9_1);(try clear hfz9_2);(try clear hfz9_3);(try clear hfz9_4);(try clear hfz9_5);obtain ⟨kq,x30_4,rfl,HA,HJ4,BK356,HB⟩:=hcut
   cases kq with
   | zero=>exact absurd HA.out (by simp [impl_IsModel.j0])
   | succ kj4 =>
    have H:=HA.out;clear HA;simp only [impl_IsModel.j0] at H
    by_cases c16:x30_4=true
    ·subst c16
     rw [if_pos rfl] at H;(try dsimp only at H);obtain rfl:=Option.some.inj H
     go_wp2
     go_ret
     exact ⟨zyx0_5,zyx0_9⟩
    ·replace c16:=Bool.eq_false_iff.mpr c16
     subst c16;rw [if_neg (show ¬ (false=true) by decide)] at H;(try dsimp only at H);have H':=aM0 H;clear H
     go_wp2
     go_loopg [32] kj4 (fun kq v32 w'=>∃ (x32_2:Int),v32=.int .i64 x32_2∧Aside0 (impl_IsModel.l0 kq t358 x32_2 a0_0 a0_1 a0_2 l0_3 l0_4 l0_5=some r)∧Aside0 (kq≤kj4)∧Aside0 (w'.heap[gb356]?=some (.cells #[.int .i64 a0_0,.int .i64 a0_1,.int .i64 a0_2,(.slice A0_3 l0_3.length c0_3),(.slice A0_4 l0_4.length c0_4),(.slice A0_5 l0_5.length c0_5)] 27 (0,0)))∧Aside0 (Below w.heap.size w w'))
     case atStart=>exact ⟨(0),(zyx0_3),H',⟨Nat.le_refl _⟩,⟨zyx0_8⟩,⟨zyx0_9⟩⟩
     case round =>
      clear H';(try clear c1);(try clear c2);(try clear p2);(try clear c3);(try clear c4);(try clear c11);(try clear c11b0);(try clear c11b1);(try clear c12);(try clear c12b0);(try clear c12b1);(try clear c16);(try clear hcz13_0);(try clear hcz13_1);(try clear hcz13_2);(try clear hcz13_3);(try clear hcz13_4);(try clear hcz13_5);(try clear hcz14_0);(try clear hcz14_1);(try clear hcz14_2);(try clear hcz14_3);(try clear hcz14_4);(try clear hcz14_5);(try clear hcz15_0);(try clear hcz15_1);(try clear hcz15_2);(try clear hcz15_3);(try clear hcz15_4);(try clear hcz15_5);(try clear hcz7_0);(try clear hcz7_1);(try clear hcz7_2);(try clear hcz7_3);(try clear hcz7_4);(try clear hcz7_5);(try clear hcz9_0);(try clear hcz9_1);(try clear hcz9_2);(try clear hcz9_3);(try clear hcz9_4);(try clear hcz9_5);(try clear hfz13_0);(try clear hfz13_1);(try clear hfz13_2);(try clear hfz13_3);(try clear hfz13_4);(try clear hfz13_5);(try clear hfz14_0);(try clear hfz14_1);(try clear hfz14_2);(try clear hfz14_3);(try clear hfz14_4);(try clear hfz14_5);(try clear hfz15_0);(try clear hfz15_1);(try clear hfz15_2);(try clear hfz15_3);(try clear hfz15_4);(try clear hfz15_5);(try clear hfz7_0);(try clear hfz7_1);(try clear hfz7_2);(try clear hfz7_3);(try clear hfz7_4);(try clear hfz7_5);(try clear hfz9_0);(try clear hfz9_1);(try clear hfz9_2);(try clear hfz9_3);(try clear hfz9_4);(try clear hfz9_5);(try clear p2);obtain ⟨x32_2,rfl,HA,HK2,BK356,HB⟩:=hrel
      cases gk with
      | zero=>exact absurd HA.out (by simp [impl_IsModel.l0])
      | succ k2 =>
       have H:=HA.out;clear HA;simp only [impl_IsModel.l0] at H
       by_cases c17:x32_2 < t358
       ·rw [if_pos c17] at H
        have c17b0:decide (x32_2 < t358)=true:=dT0 c17;clear c17
        by_cases c18:0≤x32_2
        ·rw [if_pos c18] at H
         have c18b0:decide (0≤x32_2)=true:=dT0 c18;clear c18
         by_cases c19:x32_2 < (l0_3.length:Int)
         ·rw [if_pos c19] at H
          have c19b0:decide (x32_2 < (l0_3.length:Int))=true:=dT0 c19;clear c19
          by_cases c20:(rd l0_3 x32_2) < 0
          ·rw [if_pos c20] at H
           have c20b0:decide ((rd l0_3 x32_2) < 0)=true:=dT0 c20;clear c20;obtain rfl:=Option.some.inj H;obtain ⟨hcz21_0,hfz21_0,hcz21_1,hfz21_1,hcz21_2,hfz21_2,hcz21_3,hfz21_3,hcz21_4,hfz21_4,hcz21_5,hfz21_5⟩:=cf6 BK356.out;have p359:0≤(x32_2:Int):=oD0 (zyx0_4);have q359:x32_2 < (l0_3.length:Int):=oD0 (zyx0_4);obtain ⟨ad359,e359,hx359_0⟩:=Kd.at_int HR0_3.out x32_2 p359 q359
           cases e359
           replace hx359_0:=(HB.out.cell (bL0 w _ hx359_0)).trans hx359_0;replace p359:=eT0 p359;replace q359:=eT0 q359
           go_wp2
           go_ret
           exact ⟨zyx0_5,zyx0_9⟩
          ·rw [if_neg c20] at H
           have c20b0:decide ((rd l0_3 x32_2) < 0)=false:=decide_eq_false c20;clear c20
           by_cases c22:(rd l0_3 x32_2) > 10000
           ·rw [if_pos c22] at H
            have c22b0:decide (10000 < (rd l0_3 x32_2))=true:=dT0 c22;clear c22;obtain rfl:=Option.some.inj H;obtain ⟨hcz23_0,hfz23_0,hcz23_1,hfz23_1,hcz23_2,hfz23_2,hcz23_3,hfz23_3,hcz23_4,hfz23_4,hcz23_5,hfz23_5⟩:=cf6 BK356.out;have p359:0≤(x32_2:Int):=oD0 (zyx0_4);have q359:x32_2 < (l0_3.length:Int):=oD0 (zyx0_4);obtain ⟨ad359,e359,hx359_0⟩:=Kd.at_int HR0_3.out x32_2 p359 q359
            cases e359
            replace hx359_0:=(HB.out.cell (bL0 w _ hx359_0)).trans hx359_0;replace p359:=eT0 p359;replace q359:=eT0 q359;have p360:0≤(x32_2:Int):=oD0 (zyx0_4);have q360:x32_2 < (l0_3.length:Int):=oD0 (zyx0_4);obtain ⟨ad360,e360,hx360_0⟩:=Kd.at_int HR0_3.out x32_2 p360 q360;obtain rfl:ad359=ad360:=(by injection e360);replace hx360_0:=(HB.out.cell (bL0 w _ hx360_0)).trans hx360_0;replace p360:=eT0 p360;replace q360:=eT0 q360
            go_wp2
            go_ret
            exact ⟨zyx0_5,zyx0_9⟩
           ·rw [if_neg c22] at H
            have c22b0:decide (10000 < (rd l0_3 x32_2))=false:=decide_eq_false c22;clear c22
            by_cases c24:x32_2 < (l0_4.length:Int)
            ·rw [if_pos c24] at H
             have c24b0:decide (x32_2 < (l0_4.length:Int))=true:=dT0 c24;clear c24
             by_cases c25:(rd l0_4 x32_2) < 0
             ·rw [if_pos c25] at H
              have c25b0:decide ((rd l0_4 x32_2) < 0)=true:=dT0 c25;clear c25;obtain rfl:=Option.some.inj H;obtain ⟨hcz26_0,hfz26_0,hcz26_1,hfz26_1,hcz26_2,hfz26_2,hcz26_3,hfz26_3,hcz26_4,hfz26_4,hcz26_5,hfz26_5⟩:=cf6 BK356.out;have p359:0≤(x32_2:Int):=oD0 (zyx0_4);have q359:x32_2 < (l0_3.length:Int):=oD0 (zyx0_4);obtain ⟨ad359,e359,hx359_0⟩:=Kd.at_int HR0_3.out x32_2 p359 q359
              cases e359
              replace hx359_0:=(HB.out.cell (bL0 w _ hx359_0)).trans hx359_0;replace p359:=eT0 p359;replace q359:=eT0 q359;have p360:0≤(x32_2:Int):=oD0 (zyx0_4);have q360:x32_2 < (l0_3.length:Int):=oD0 (zyx0_4);obtain ⟨ad360,e360,hx360_0⟩:=Kd.at_int HR0_3.out x32_2 p360 q360;obtain rfl:ad359=ad360:=(by injection e360);replace hx360_0:=(HB.out.cell (bL0 w _ hx360_0)).trans hx360_0;replace p360:=eT0 p360;replace q360:=eT0 q360;have p361:0≤(x32_2:Int):=oD0 (zyx0_4);have q361:x32_2 < (l0_4.length:Int):=oD0 (zyx0_4);obtain ⟨ad361,e361,hx361_0⟩:=Kd.at_int HR0_4.out x32_2 p361 q361
              cases e361
              replace hx361_0:=(HB.out.cell (bL0 w _ hx361_0)).trans hx361_0;replace p361:=eT0 p361;replace q361:=eT0 q361
              go_wp2
              go_ret
              exact ⟨zyx0_5,zyx0_9⟩
             ·rw [if_neg c25] at H
              have c25b0:decide ((rd l0_4 x32_2) < 0)=false:=decide_eq_false c25;clear c25
              by_cases c27:(rd l0_4 x32_2) > 1000
              ·rw [if_pos c27] at H
               have c27b0:decide (1000 < (rd l0_4 x32_2))=true:=dT0 c27;clear c27;obtain rfl:=Option.some.inj H;obtain ⟨hcz28_0,hfz28_0,hcz28_1,hfz28_1,hcz28_2,hfz28_2,hcz28_3,hfz28_3,hcz28_4,hfz28_4,hcz28_5,hfz28_5⟩:=cf6 BK356.out;have p359:0≤(x32_2:Int):=oD0 (zyx0_4);have q359:x32_2 < (l0_3.length:Int):=oD0 (zyx0_4);obtain ⟨ad359,e359,hx359_0⟩:=Kd.at_int HR0_3.out x32_2 p359 q359
               cases e359
               replace hx359_0:=(HB.out.cell (bL0 w _ hx359_0)).trans hx359_0;replace p359:=eT0 p359;replace q359:=eT0 q359;have p360:0≤(x32_2:Int):=oD0 (zyx0_4);have q360:x32_2 < (l0_3.length:Int):=oD0 (zyx0_4);obtain ⟨ad360,e360,hx360_0⟩:=Kd.at_int HR0_3.out x32_2 p360 q360;obtain rfl:ad359=ad360:=(by injection e360);replace hx360_0:=(HB.out.cell (bL0 w _ hx360_0)).trans hx360_0;replace p360:=eT0 p360;replace q360:=eT0 q360;have p361:0≤(x32_2:Int):=oD0 (zyx0_4);have q361:x32_2 < (l0_4.length:Int):=oD0 (zyx0_4);obtain ⟨ad361,e361,hx361_0⟩:=Kd.at_int HR0_4.out x32_2 p361 q361
               cases e361
               replace hx361_0:=(HB.out.cell (bL0 w _ hx361_0)).trans hx361_0;replace p361:=eT0 p361;replace q361:=eT0 q361;have p362:0≤(x32_2:Int):=oD0 (zyx0_4);have q362:x32_2 < (l0_4.length:Int):=oD0 (zyx0_4);obtain ⟨ad362,e362,hx362_0⟩:=Kd.at_int HR0_4.out x32_2 p362 q362;obtain rfl:ad361=ad362:=(by injection e362);replace hx362_0:=(HB.out.cell (bL0 w _ hx362_0)).trans hx362_0;replace p362:=eT0 p362;replace q362:=eT0 q362
               go_wp2
               go_ret
               exact ⟨zyx0_5,zyx0_9⟩
              ·rw [if_neg c27] at H
               have c27b0:decide (1000 < (rd l0_4 x32_2))=false:=decide_eq_false c27;clear c27
               by_cases c29:x32_2 < (l0_5.length:Int)
               ·rw [if_pos c29] at H
                have c29b0:decide (x32_2 < (l0_5.length:Int))=true:=dT0 c29;clear c29
                by_cases c30:(rd l0_5 x32_2) < 0
                ·rw [if_pos c30] at H
                 have c30b0:decide ((rd l0_5 x32_2) < 0)=true:=dT0 c30;clear c30;obtain rfl:=Option.some.inj H;obtain ⟨hcz31_0,hfz31_0,hcz31_1,hfz31_1,hcz31_2,hfz31_2,hcz31_3,hfz31_3,hcz31_4,hfz31_4,hcz31_5,hfz31_5⟩:=cf6 BK356.out;have p359:0≤(x32_2:Int):=oD0 (zyx0_4);have q359:x32_2 < (l0_3.length:Int):=oD0 (zyx0_4);obtain ⟨ad359,e359,hx359_0⟩:=Kd.at_int HR0_3.out x32_2 p359 q359
                 cases e359
                 replace hx359_0:=(HB.out.cell (bL0 w _ hx359_0)).trans hx359_0;replace p359:=eT0 p359;replace q359:=eT0 q359;have p360:0≤(x32_2:Int):=oD0 (zyx0_4);have q360:x32_2 < (l0_3.length:Int):=oD0 (zyx0_4);obtain ⟨ad360,e360,hx360_0⟩:=Kd.at_int HR0_3.out x32_2 p360 q360;obtain rfl:ad359=ad360:=(by injection e360);replace hx360_0:=(HB.out.cell (bL0 w _ hx360_0)).trans hx360_0;replace p360:=eT0 p360;replace q360:=eT0 q360;have p361:0≤(x32_2:Int):=oD0 (zyx0_4);have q361:x32_2 < (l0_4.length:Int):=oD0 (zyx0_4);obtain ⟨ad361,e361,hx361_0⟩:=Kd.at_int HR0_4.out x32_2 p361 q361
                 cases e361
                 replace hx361_0:=(HB.out.cell (bL0 w _ hx361_0)).trans hx361_0;replace p361:=eT0 p361;replace q361:=eT0 q361;have p362:0≤(x32_2:Int):=oD0 (zyx0_4);have q362:x32_2 < (l0_4.length:Int):=oD0 (zyx0_4);obtain ⟨ad362,e362,hx362_0⟩:=Kd.at_int HR0_4.out x32_2 p362 q362;obtain rfl:ad361=ad362:=(by injection e362);replace hx362_0:=(HB.out.cell (bL0 w _ hx362_0)).trans hx362_0;replace p362:=eT0 p362;replace q362:=eT0 q362;have p363:0≤(x32_2:Int):=oD0 (zyx0_4);have q363:x32_2 < (l0_5.length:Int):=oD0 (zyx0_4);obtain ⟨ad363,e363,hx363_0⟩:=Kd.at_int HR0_5.out x32_2 p363 q363
                 cases e363
                 replace hx363_0:=(HB.out.cell (bL0 w _ hx363_0)).trans hx363_0;replace p363:=eT0 p363;replace q363:=eT0 q363
                 go_wp2
                 go_ret
                 exact ⟨zyx0_5,zyx0_9⟩
                ·rw [if_neg c30] at H
                 have c30b0:decide ((rd l0_5 x32_2) < 0)=false:=decide_eq_false c30;clear c30
                 by_cases c32:(rd l0_5 x32_2) > 4
                 ·rw [if_pos c32] at H
                  have c32b0:decide (4 < (rd l0_5 x32_2))=true:=dT0 c32;clear c32;obtain rfl:=Option.some.inj H;obtain ⟨hcz33_0,hfz33_0,hcz33_1,hfz33_1,hcz33_2,hfz33_2,hcz33_3,hfz33_3,hcz33_4,hfz33_4,hcz33_5,hfz33_5⟩:=cf6 BK356.out;have p359:0≤(x32_2:Int):=oD0 (zyx0_4);have q359:x32_2 < (l0_3.length:Int):=oD0 (zyx0_4);obtain ⟨ad359,e359,hx359_0⟩:=Kd.at_int HR0_3.out x32_2 p359 q359
                  cases e359
                  replace hx359_0:=(HB.out.cell (bL0 w _ hx359_0)).trans hx359_0;replace p359:=eT0 p359;replace q359:=eT0 q359;have p360:0≤(x32_2:Int):=oD0 (zyx0_4);have q360:x32_2 < (l0_3.length:Int):=oD0 (zyx0_4);obtain ⟨ad360,e360,hx360_0⟩:=Kd.at_int HR0_3.out x32_2 p360 q360;obtain rfl:ad359=ad360:=(by injection e360);replace hx360_0:=(HB.out.cell (bL0 w _ hx360_0)).trans hx360_0;replace p360:=eT0 p360;replace q360:=eT0 q360;have p361:0≤(x32_2:Int):=oD0 (zyx0_4);have q361:x32_2 < (l0_4.length:Int):=oD0 (zyx0_4);obtain ⟨ad361,e361,hx361_0⟩:=Kd.at_int HR0_4.out x32_2 p361 q361
                  cases e361
                  replace hx361_0:=(HB.out.cell (bL0 w _ hx361_0)).trans hx361_0;replace p361:=eT0 p361;replace q361:=eT0 q361;have p362:0≤(x32_2:Int):=oD0 (zyx0_4);have q362:x32_2 < (l0_4.length:Int):=oD0 (zyx0_4);obtain ⟨ad362,e362,hx362_0⟩:=Kd.at_int HR0_4.out x32_2 p362 q362;obtain rfl:ad361=ad362:=(by injection e362);replace hx362_0:=(HB.out.cell (bL0 w _ hx362_0)).trans hx362_0;replace p362:=eT0 p362;replace q362:=eT0 q362;have p363:0≤(x32_2:Int):=oD0 (zyx0_4);have q363:x32_2 < (l0_5.length:Int):=oD0 (zyx0_4);obtain ⟨ad363,e363,hx363_0⟩:=Kd.at_int HR0_5.out x32_2 p363 q363
                  cases e363
                  replace hx363_0:=(HB.out.cell (bL0 w _ hx363_0)).trans hx363_0;replace p363:=eT0 p363;replace q363:=eT0 q363;have p364:0≤(x32_2:Int):=oD0 (zyx0_4);have q364:x32_2 < (l0_5.length:Int):=oD0 (zyx0_4);obtain ⟨ad364,e364,hx364_0⟩:=Kd.at_int HR0_5.out x32_2 p364 q364;obtain rfl:ad363=ad364:=(by injection e364);replace hx364_0:=(HB.out.cell (bL0 w _ hx364_0)).trans hx364_0;replace p364:=eT0 p364;replace q364:=eT0 q364
                  go_wp2
                  go_ret
                  exact ⟨zyx0_5,zyx0_9⟩
                 ·rw [if_neg c32] at H
                  have c32b0:decide (4 < (rd l0_5 x32_2))=false:=decide_eq_false c32;clear c32;have H':=aM0 H;clear H;obtain ⟨hcz34_0,hfz34_0,hcz34_1,hfz34_1,hcz34_2,hfz34_2,hcz34_3,hfz34_3,hcz34_4,hfz34_4,hcz34_5,hfz34_5⟩:=cf6 BK356.out;have p359:0≤(x32_2:Int):=oD0 (zyx0_4);have q359:x32_2 < (l0_3.length:Int):=oD0 (zyx0_4);obtain ⟨ad359,e359,hx359_0⟩:=Kd.at_int HR0_3.out x32_2 p359 q359
                  cases e359
                  replace hx359_0:=(HB.out.cell (bL0 w _ hx359_0)).trans hx359_0;replace p359:=eT0 p359;replace q359:=eT0 q359;have p360:0≤(x32_2:Int):=oD0 (zyx0_4);have q360:x32_2 < (l0_3.length:Int):=oD0 (zyx0_4);obtain ⟨ad360,e360,hx360_0⟩:=Kd.at_int HR0_3.out x32_2 p360 q360;obtain rfl:ad359=ad360:=(by injection e360);replace hx360_0:=(HB.out.cell (bL0 w _ hx360_0)).trans hx360_0;replace p360:=eT0 p360;replace q360:=eT0 q360;have p361:0≤(x32_2:Int):=oD0 (zyx0_4);have q361:x32_2 < (l0_4.length:Int):=oD0 (zyx0_4);obtain ⟨ad361,e361,hx361_0⟩:=Kd.at_int HR0_4.out x32_2 p361 q361
                  cases e361
                  replace hx361_0:=(HB.out.cell (bL0 w _ hx361_0)).trans hx361_0;replace p361:=eT0 p361;replace q361:=eT0 q361;have p362:0≤(x32_2:Int):=oD0 (zyx0_4);have q362:x32_2 < (l0_4.length:Int):=oD0 (zyx0_4);obtain ⟨ad362,e362,hx362_0⟩:=Kd.at_int HR0_4.out x32_2 p362 q362;obtain rfl:ad361=ad362:=(by injection e362);replace hx362_0:=(HB.out.cell (bL0 w _ hx362_0)).trans hx362_0;replace p362:=eT0 p362;replace q362:=eT0 q362;have p363:0≤(x32_2:Int):=oD0 (zyx0_4);have q363:x32_2 < (l0_5.length:Int):=oD0 (zyx0_4);obtain ⟨ad363,e363,hx363_0⟩:=Kd.at_int HR0_5.out x32_2 p363 q363
                  cases e363
                  replace hx363_0:=(HB.out.cell (bL0 w _ hx363_0)).trans hx363_0;replace p363:=eT0 p363;replace q363:=eT0 q363;have p364:0≤(x32_2:Int):=oD0 (zyx0_4);have q364:x32_2 < (l0_5.length:Int):=oD0 (zyx0_4);obtain ⟨ad364,e364,hx364_0⟩:=Kd.at_int HR0_5.out x32_2 p364 q364;obtain rfl:ad363=ad364:=(by injection e364);replace hx364_0:=(HB.out.cell (bL0 w _ hx364_0)).trans hx364_0;replace p364:=eT0 p364;replace q364:=eT0 q364
                  go_wp2
                  go_roundg k2
                  case measure=>have:=HJ4.out;have:=HK2.out;omega
                  case rel=>exact ⟨(wrap64 (x32_2 + 1)),(zyx0_3),H',⟨by have:=HJ4.out;have:=HK2.out;omega⟩,⟨zyx0_8⟩,⟨zyx0_9⟩⟩
               ·rw [if_neg c29] at H
                exact absurd H (by simp)
            ·rw [if_neg c24] at H
             exact absurd H (by simp)
         ·rw [if_neg c19] at H
          exact absurd H (by simp)
        ·rw [if_neg c18] at H
         exact absurd H (by simp)
       ·rw [if_neg c17] at H
        have c17b0:decide (x32_2 < t358)=false:=decide_eq_false c17;clear c17;obtain rfl:=Option.some.inj H
        go_wp2
        go_ret
        exact ⟨zyx0_5,zyx0_9⟩
 ·replace c3:=Bool.eq_false_iff.mpr c3
  subst c3;rw [if_neg (show ¬ (false=true) by decide)] at H;(try dsimp only at H);obtain rfl:=Option.some.inj H;go_enter Try.func24,Try.ntmps24
  go_wp2_with (first|((with_reducible refine gate_dst (N:=1) rfl ?_);(try (refine gate_guard (by rfl) ?_;dsimp only));refine box_event ?hg (N:=1) ?hd (cs:=#[.int .i64 a0_0,.int .i64 a0_1,.int .i64 a0_2,.slice A0_3 l0_3.length c0_3,.slice A0_4 l0_4.length c0_4,.slice A0_5 l0_5.length c0_5]) (t:=27) ?hr ?_;(case hd=>rfl);(case hg=>rfl);(case hr=>exact zyx0_23);intro gb356 hg w35 hbox hb;have n0_:=aM0 (bS0 (zyx0_0) hb);have n1_:=aM0 (hbox);have n2_:=aM0 ((zyx0_27:w.heap.size≤gb356));have n3_:=aM0 ((zyx0_27:w.heap.size≤gb356));clear HB;have HB:=n0_;have BK356:=n1_;have GW356:=n2_;have GE356:=n3_;clear n0_ n1_ n2_ n3_ hb hbox hg;obtain ⟨hcz36_0,hfz36_0,hcz36_1,hfz36_1,hcz36_2,hfz36_2,hcz36_3,hfz36_3,hcz36_4,hfz36_4,hcz36_5,hfz36_5⟩:=cf6 BK356.out)|((with_reducible refine gC0 (f:=45) rfl ?_);refine goesL_ (some 7) rfl rfl Try.func45 (by kernel_rfl) rfl #[.agg #[.int .i64 a0_0,.int .i64 a0_1,.int .i64 a0_2]] rfl (zyx0_7) ?_;(with_reducible refine (impl_IsGrid.calls a0_0 a0_1 a0_2 false _ A2.out).mono ?_);rintro e w37 ⟨rfl,hb⟩;refine ⟨_,rfl,?_⟩;have n0_:=aM0 (bB0 (g:=gb356) (o:=.cells #[.int .i64 a0_0,.int .i64 a0_1,.int .i64 a0_2,.slice A0_3 l0_3.length c0_3,.slice A0_4 l0_4.length c0_4,.slice A0_5 l0_5.length c0_5] 27 (0,0)) (zyx0_8) hb);have n1_:=aM0 (bS0 (zyx0_9) hb);clear BK356 HB;have BK356:=n0_;have HB:=n1_;clear n0_ n1_;(try clear hb);(try clear hb2);(try clear hk);(try clear hi)))
  go_ret
  exact ⟨zyx0_5,zyx0_9⟩
def impl_floorDiv.f (a0:Int) (a1:Int):Option (Int):=if a1=0 then (none) else (if (Int.tmod a0 a1) < 0 then (some (wrap64 ((wrap64 (Int.tdiv a0 a1)) - 1))) else (some (wrap64 (Int.tdiv a0 a1))))
set_option maxHeartbeats 8000000 in
set_option maxRecDepth 100000 in
theorem impl_floorDiv.calls (a0:Int) (a1:Int) (r:Int) (w:World) (h:impl_floorDiv.f a0 a1=some r) :
  Calls Try.prog 47 #[.int .i64 a0,.int .i64 a1] w fun e w'=>e=.returned (.int .i64 r)∧Drawn0 w w':=by
 have H:(if a1=0 then (none) else (if (Int.tmod a0 a1) < 0 then (some (wrap64 ((wrap64 (Int.tdiv a0 a1)) - 1))) else (some (wrap64 (Int.tdiv a0 a1)))))=some r:=h;clear h
 by_cases c3:a1=0
 ·rw [if_pos c3] at H
  exact absurd H (by simp)
 ·rw [if_neg c3] at H
  have c3b0:(a1 == 0)=false:=beq_eq_false_iff_ne.mpr c3;have c3b1:(a1 != 0)=true:=bne_iff_ne.mpr c3
  by_cases c4:(Int.tmod a0 a1) < 0
  ·rw [if_pos c4] at H
   have c4b0:decide ((Int.tmod a0 a1) < 0)=true:=dT0 c4;clear c4;obtain rfl:=Option.some.inj H;go_enter Try.func47,Try.ntmps47
   go_wp2
   go_ret
   exact ⟨zyx0_3,by repeat (first|exact Drawn0.refl _|apply Drawn0.step)⟩
  ·rw [if_neg c4] at H
   have c4b0:decide ((Int.tmod a0 a1) < 0)=false:=decide_eq_false c4;clear c4;obtain rfl:=Option.some.inj H;go_enter Try.func47,Try.ntmps47
   go_wp2
   go_ret
   exact ⟨zyx0_3,by repeat (first|exact Drawn0.refl _|apply Drawn0.step)⟩
def impl_priceValue.f (a0_0:Int) (a0_1:Int) (a0_2:Int) (l0_3:List Int) (l0_4:List Int) (l0_5:List Int) (a1_0:Int) (a1_1:Int) (a1_2:Int) (a1_3:Int) (a2:Int):Option (Int):=if 0≤a2 then (if a2 < (l0_3.length:Int) then (if a2 < (l0_4.length:Int) then ((impl_floorDiv.f (wrap64 ((mx 0 (wrap64 ((wrap64 (Int.tdiv (wrap64 ((wrap64 ((wrap64 ((rd l0_3 a2) * (rd l0_4 a2))) * a1_1)) * a1_0)) 1000)) - (wrap64 ((rd l0_3 a2) * a1_2))))) - (wrap64 ((rd l0_3 a2) * a1_3)))) 10000).bind fun t369=>(some t369)) else (none)) else (none)) else (none)
set_option maxHeartbeats 8000000 in
set_option maxRecDepth 100000 in
theorem impl_priceValue.calls (a0_0:Int) (a0_1:Int) (a0_2:Int) (A0_3:Option Addr) (c0_3:Nat) (l0_3:List Int) (A0_4:Option Addr) (c0_4:Nat) (l0_4:List Int) (A0_5:Option Addr) (c0_5:Nat) (l0_5:List Int) (a1_0:Int) (a1_1:Int) (a1_2:Int) (a1_3:Int) (a2:Int) (r:Int) (w:World) (hr0_3:Kd.C (Kd.int .i64) w A0_3 l0_3.length l0_3) (hc0_3:l0_3.length≤c0_3) (hr0_4:Kd.C (Kd.int .i64) w A0_4 l0_4.length l0_4) (hc0_4:l0_4.length≤c0_4) (hr0_5:Kd.C (Kd.int .i64) w A0_5 l0_5.length l0_5) (hc0_5:l0_5.length≤c0_5) (h:impl_priceValue.f a0_0 a0_1 a0_2 l0_3 l0_4 l0_5 a1_0 a1_1 a1_2 a1_3 a2=some r) :
  Calls Try.prog 25 #[.agg #[.int .i64 a0_0,.int .i64 a0_1,.int .i64 a0_2,.slice A0_3 l0_3.length c0_3,.slice A0_4 l0_4.length c0_4,.slice A0_5 l0_5.length c0_5],.agg #[.int .i64 a1_0,.int .i64 a1_1,.int .i64 a1_2,.int .i64 a1_3],.int .i64 a2] w fun e w'=>e=.returned (.int .i64 r)∧Below w.heap.size w w':=by
 have hu27:=Try.underlying27;have hu29:=Try.underlying29;have HR0_3:=aM0 hr0_3;have HC0_3:=aM0 hc0_3;clear hr0_3 hc0_3;have HR0_4:=aM0 hr0_4;have HC0_4:=aM0 hc0_4;clear hr0_4 hc0_4;have HR0_5:=aM0 hr0_5;have HC0_5:=aM0 hc0_5;clear hr0_5 hc0_5;have HB:=aM0 (Below.refl w.heap.size w);have H:(if 0≤a2 then (if a2 < (l0_3.length:Int) then (if a2 < (l0_4.length:Int) then ((impl_floorDiv.f (wrap64 ((mx 0 (wrap64 ((wrap64 (Int.tdiv (wrap64 ((wrap64 ((wrap64 ((rd l0_3 a2) * (rd l0_4 a2))) * a1_1)) * a1_0)) 1000)) - (wrap64 ((rd l0_3 a2) * a1_2))))) - (wrap64 ((rd l0_3 a2) * a1_3)))) 10000).bind fun t369=>(some t369)) else (none)) else (none)) else (none))=some r:=h;clear h
 by_cases c4:0≤a2
 ·rw [if_pos c4] at H
  have c4b0:decide (0≤a2)=true:=dT0 c4;clear c4
  by_cases c5:a2 < (l0_3.length:Int)
  ·rw [if_pos c5] at H
   have c5b0:decide (a2 < (l0_3.length:Int))=true:=dT0 c5;clear c5
   by_cases c6:a2 < (l0_4.length:Int)
   ·rw [if_pos c6] at H
    have c6b0:decide (a2 < (l0_4.length:Int))=true:=dT0 c6;clear c6;obtain ⟨ji7,hji7⟩:∃ j_:Int,(mx 0 (wrap64 ((wrap64 (Int.tdiv (wrap64 ((wrap64 ((wrap64 ((rd l0_3 a2) * (rd l0_4 a2))) * a1_1)) * a1_0)) 1000)) - (wrap64 ((rd l0_3 a2) * a1_2)))))=j_:=⟨_,rfl⟩
    replace H:((impl_floorDiv.f (wrap64 ((ji7) - (wrap64 ((rd l0_3 a2) * a1_3)))) 10000).bind fun t369=>(some t369))=some r:=by first|(rw [hji7] at H;exact H)|(simp only [hji7] at H ⊢;exact H)
    (try (have hji7l:0≤ji7:=by (rw [← hji7];unfold mx;(repeat' split) <;> omega)));(try (have hji7m:0≤ji7:=by omega));have hji7_:(if 0 < (wrap64 ((wrap64 (Int.tdiv (wrap64 ((wrap64 ((wrap64 ((rd l0_3 a2) * (rd l0_4 a2))) * a1_1)) * a1_0)) 1000)) - (wrap64 ((rd l0_3 a2) * a1_2)))) then (wrap64 ((wrap64 (Int.tdiv (wrap64 ((wrap64 ((wrap64 ((rd l0_3 a2) * (rd l0_4 a2))) * a1_1)) * a1_0)) 1000)) - (wrap64 ((rd l0_3 a2) * a1_2)))) else 0)=ji7:=hji7;replace H:=bI0.mp H;obtain ⟨t369,A80,H⟩:=H;(try dsimp only at H);have A8:=aM0 A80;clear A80;obtain rfl:=Option.some.inj H;go_enter Try.func25,Try.ntmps25
    go_wp2_with (first|((with_reducible refine gate_dst (N:=3) rfl ?_);refine box_event ?hg (N:=3) ?hd (cs:=#[.int .i64 a0_0,.int .i64 a0_1,.int .i64 a0_2,.slice A0_3 l0_3.length c0_3,.slice A0_4 l0_4.length c0_4,.slice A0_5 l0_5.length c0_5]) (t:=27) ?hr ?_;(case hd=>rfl);(case hg=>rfl);(case hr=>exact zyx0_23);intro gb365 hg w9 hbox hb;have n0_:=aM0 (bS0 (zyx0_0) hb);have n1_:=aM0 (hbox);have n2_:=aM0 ((zyx0_27:w.heap.size≤gb365));have n3_:=aM0 ((zyx0_27:w.heap.size≤gb365));clear HB;have HB:=n0_;have BK365:=n1_;have GW365:=n2_;have GE365:=n3_;clear n0_ n1_ n2_ n3_ hb hbox hg)|((with_reducible refine gate_dst (N:=4) rfl ?_);refine box_event ?hg (N:=4) ?hd (cs:=#[.int .i64 a1_0,.int .i64 a1_1,.int .i64 a1_2,.int .i64 a1_3]) (t:=29) ?hr ?_;(case hd=>rfl);(case hg=>rfl);(case hr=>exact zyx0_23);intro gb366 hg w10 hbox hb;have n0_:=aM0 (bB0 (g:=gb365) (o:=.cells #[.int .i64 a0_0,.int .i64 a0_1,.int .i64 a0_2,.slice A0_3 l0_3.length c0_3,.slice A0_4 l0_4.length c0_4,.slice A0_5 l0_5.length c0_5] 27 (0,0)) (zyx0_10) hb);have n1_:=aM0 (bS0 (zyx0_11) hb);have n2_:=aM0 (hbox);have n3_:=aM0 ((zyx0_28:w.heap.size≤gb366));have n4_:=aM0 ((zyx0_28:w.heap.size≤gb366));have n5_:=aM0 ((zyx0_29:gb365≠gb366));have n6_:=aM0 ((zyx0_30:gb366≠gb365));clear BK365 HB;have BK365:=n0_;have HB:=n1_;have BK366:=n2_;have GW366:=n3_;have GE366:=n4_;have NB365_366:=n5_;have NB366_365:=n6_;clear n0_ n1_ n2_ n3_ n4_ n5_ n6_ hb hbox hg;have hnb11:=NB365_366.out;have hnc11:=NB366_365.out;obtain ⟨hcz12_0,hfz12_0,hcz12_1,hfz12_1,hcz12_2,hfz12_2,hcz12_3,hfz12_3,hcz12_4,hfz12_4,hcz12_5,hfz12_5⟩:=cf6 BK365.out;have p367:0≤(a2:Int):=oD0 (zyx0_4);have q367:a2 < (l0_3.length:Int):=oD0 (zyx0_4);obtain ⟨ad367,e367,hx367_0⟩:=Kd.at_int HR0_3.out a2 p367 q367;cases e367;replace hx367_0:=(HB.out.cell (bL0 w _ hx367_0)).trans hx367_0;replace p367:=eT0 p367;replace q367:=eT0 q367;have p368:0≤(a2:Int):=oD0 (zyx0_4);have q368:a2 < (l0_4.length:Int):=oD0 (zyx0_4);obtain ⟨ad368,e368,hx368_0⟩:=Kd.at_int HR0_4.out a2 p368 q368;cases e368;replace hx368_0:=(HB.out.cell (bL0 w _ hx368_0)).trans hx368_0;replace p368:=eT0 p368;replace q368:=eT0 q368;obtain ⟨hcz13_0,hfz13_0,hcz13_1,hfz13_1,hcz13_2,hfz13_2,hcz13_3,hfz13_3⟩:=cf4 BK366.out)|(go_at_call 47;(with_reducible refine (impl_floorDiv.calls (wrap64 ((ji7) - (wrap64 ((rd l0_3 a2) * a1_3)))) 10000 t369 _ A8.out).mono ?_);rintro e w' ⟨rfl,⟨nd,rfl⟩⟩;(try first|exact ⟨rfl,_,World.drewN_drewN _ _ _⟩|exact ⟨rfl,_,Eq.trans (World.drewN_drewN _ _ _) (congrArg (World.drewN _) (Nat.add_assoc _ _ _))⟩)))
    repeat (go_quiet (first|((with_reducible refine gate_dst (N:=3) rfl ?_);refine box_event ?hg (N:=3) ?hd (cs:=#[.int .i64 a0_0,.int .i64 a0_1,.int .i64 a0_2,.slice A0_3 l0_3.length c0_3,.slice A0_4 l0_4.length c0_4,.slice A0_5 l0_5.length c0_5]) (t:=27) ?hr ?_;(case hd=>rfl);(case hg=>rfl);(case hr=>exact zyx0_23);intro gb365 hg w9 hbox hb;have n0_:=aM0 (bS0 (zyx0_0) hb);have n1_:=aM0 (hbox);have n2_:=aM0 ((zyx0_27:w.heap.size≤gb365));have n3_:=aM0 ((zyx0_27:w.heap.size≤gb365));clear HB;have HB:=n0_;have BK365:=n1_;have GW365:=n2_;have GE365:=n3_;clear n0_ n1_ n2_ n3_ hb hbox hg)|((with_reducible refine gate_dst (N:=4) rfl ?_);refine box_event ?hg (N:=4) ?hd (cs:=#[.int .i64 a1_0,.int .i64 a1_1,.int .i64 a1_2,.int .i64 a1_3]) (t:=29) ?hr ?_;(case hd=>rfl);(case hg=>rfl);(case hr=>exact zyx0_23);intro gb366 hg w10 hbox hb;have n0_:=aM0 (bB0 (g:=gb365) (o:=.cells #[.int .i64 a0_0,.int .i64 a0_1,.int .i64 a0_2,.slice A0_3 l0_3.length c0_3,.slice A0_4 l0_4.length c0_4,.slice A0_5 l0_5.length c0_5] 27 (0,0)) (zyx0_10) hb);have n1_:=aM0 (bS0 (zyx0_11) hb);have n2_:=aM0 (hbox);have n3_:=aM0 ((zyx0_28:w.heap.size≤gb366));have n4_:=aM0 ((zyx0_28:w.heap.size≤gb366));have n5_:=aM0 ((zyx0_29:gb365≠gb366));have n6_:=aM0 ((zyx0_30:gb366≠gb365));clear BK365 HB;have BK365:=n0_;have HB:=n1_;have BK366:=n2_;have GW366:=n3_;have GE366:=n4_;have NB365_366:=n5_;have NB366_365:=n6_;clear n0_ n1_ n2_ n3_ n4_ n5_ n6_ hb hbox hg;have hnb11:=NB365_366.out;have hnc11:=NB366_365.out;obtain ⟨hcz12_0,hfz12_0,hcz12_1,hfz12_1,hcz12_2,hfz12_2,hcz12_3,hfz12_3,hcz12_4,hfz12_4,hcz12_5,hfz12_5⟩:=cf6 BK365.out;have p367:0≤(a2:Int):=oD0 (zyx0_4);have q367:a2 < (l0_3.length:Int):=oD0 (zyx0_4);obtain ⟨ad367,e367,hx367_0⟩:=Kd.at_int HR0_3.out a2 p367 q367;cases e367;replace hx367_0:=(HB.out.cell (bL0 w _ hx367_0)).trans hx367_0;replace p367:=eT0 p367;replace q367:=eT0 q367;have p368:0≤(a2:Int):=oD0 (zyx0_4);have q368:a2 < (l0_4.length:Int):=oD0 (zyx0_4);obtain ⟨ad368,e368,hx368_0⟩:=Kd.at_int HR0_4.out a2 p368 q368;cases e368;replace hx368_0:=(HB.out.cell (bL0 w _ hx368_0)).trans hx368_0;replace p368:=eT0 p368;replace q368:=eT0 q368;obtain ⟨hcz13_0,hfz13_0,hcz13_1,hfz13_1,hcz13_2,hfz13_2,hcz13_3,hfz13_3⟩:=cf4 BK366.out)|(go_at_call 47;(with_reducible refine (impl_floorDiv.calls (wrap64 ((ji7) - (wrap64 ((rd l0_3 a2) * a1_3)))) 10000 t369 _ A8.out).mono ?_);rintro e w' ⟨rfl,⟨nd,rfl⟩⟩;(try first|exact ⟨rfl,_,World.drewN_drewN _ _ _⟩|exact ⟨rfl,_,Eq.trans (World.drewN_drewN _ _ _) (congrArg (World.drewN _) (Nat.add_assoc _ _ _))⟩)));try go_wp2_with (first|((with_reducible refine gate_dst (N:=3) rfl ?_);refine box_event ?hg (N:=3) ?hd (cs:=#[.int .i64 a0_0,.int .i64 a0_1,.int .i64 a0_2,.slice A0_3 l0_3.length c0_3,.slice A0_4 l0_4.length c0_4,.slice A0_5 l0_5.length c0_5]) (t:=27) ?hr ?_;(case hd=>rfl);(case hg=>rfl);(case hr=>exact zyx0_23);intro gb365 hg w9 hbox hb;have n0_:=aM0 (bS0 (zyx0_0) hb);have n1_:=aM0 (hbox);have n2_:=aM0 ((zyx0_27:w.heap.size≤gb365));have n3_:=aM0 ((zyx0_27:w.heap.size≤gb365));clear HB;have HB:=n0_;have BK365:=n1_;have GW365:=n2_;have GE365:=n3_;clear n0_ n1_ n2_ n3_ hb hbox hg)|((with_reducible refine gate_dst (N:=4) rfl ?_);refine box_event ?hg (N:=4) ?hd (cs:=#[.int .i64 a1_0,.int .i64 a1_1,.int .i64 a1_2,.int .i64 a1_3]) (t:=29) ?hr ?_;(case hd=>rfl);(case hg=>rfl);(case hr=>exact zyx0_23);intro gb366 hg w10 hbox hb;have n0_:=aM0 (bB0 (g:=gb365) (o:=.cells #[.int .i64 a0_0,.int .i64 a0_1,.int .i64 a0_2,.slice A0_3 l0_3.length c0_3,.slice A0_4 l0_4.length c0_4,.slice A0_5 l0_5.length c0_5] 27 (0,0)) (zyx0_10) hb);have n1_:=aM0 (bS0 (zyx0_11) hb);have n2_:=aM0 (hbox);have n3_:=aM0 ((zyx0_28:w.heap.size≤gb366));have n4_:=aM0 ((zyx0_28:w.heap.size≤gb366));have n5_:=aM0 ((zyx0_29:gb365≠gb366));have n6_:=aM0 ((zyx0_30:gb366≠gb365));clear BK365 HB;have BK365:=n0_;have HB:=n1_;have BK366:=n2_;have GW366:=n3_;have GE366:=n4_;have NB365_366:=n5_;have NB366_365:=n6_;clear n0_ n1_ n2_ n3_ n4_ n5_ n6_ hb hbox hg;have hnb11:=NB365_366.out;have hnc11:=NB366_365.out;obtain ⟨hcz12_0,hfz12_0,hcz12_1,hfz12_1,hcz12_2,hfz12_2,hcz12_3,hfz12_3,hcz12_4,hfz12_4,hcz12_5,hfz12_5⟩:=cf6 BK365.out;have p367:0≤(a2:Int):=oD0 (zyx0_4);have q367:a2 < (l0_3.length:Int):=oD0 (zyx0_4);obtain ⟨ad367,e367,hx367_0⟩:=Kd.at_int HR0_3.out a2 p367 q367;cases e367;replace hx367_0:=(HB.out.cell (bL0 w _ hx367_0)).trans hx367_0;replace p367:=eT0 p367;replace q367:=eT0 q367;have p368:0≤(a2:Int):=oD0 (zyx0_4);have q368:a2 < (l0_4.length:Int):=oD0 (zyx0_4);obtain ⟨ad368,e368,hx368_0⟩:=Kd.at_int HR0_4.out a2 p368 q368;cases e368;replace hx368_0:=(HB.out.cell (bL0 w _ hx368_0)).trans hx368_0;replace p368:=eT0 p368;replace q368:=eT0 q368;obtain ⟨hcz13_0,hfz13_0,hcz13_1,hfz13_1,hcz13_2,hfz13_2,hcz13_3,hfz13_3⟩:=cf4 BK366.out)|(go_at_call 47;(with_reducible refine (impl_floorDiv.calls (wrap64 ((ji7) - (wrap64 ((rd l0_3 a2) * a1_3)))) 10000 t369 _ A8.out).mono ?_);rintro e w' ⟨rfl,⟨nd,rfl⟩⟩;(try first|exact ⟨rfl,_,World.drewN_drewN _ _ _⟩|exact ⟨rfl,_,Eq.trans (World.drewN_drewN _ _ _) (congrArg (World.drewN _) (Nat.add_assoc _ _ _))⟩))))
    go_ret
    exact ⟨by first|rfl|(simp [errW_none,errW_some] <;> rfl)|(simp only [← hji7];first|rfl|(simp [errW_none,errW_some] <;> rfl))|(simp [*,errW_none,errW_some] <;> rfl),by repeat (first|(with_reducible first|exact HB.out|apply below_alloc|apply pw_below_drewN|apply below_drew1|refine below_set ?_ GE365.out|refine below_set ?_ GE366.out)|exact HB.out)⟩
   ·rw [if_neg c6] at H
    exact absurd H (by simp)
  ·rw [if_neg c5] at H
   exact absurd H (by simp)
 ·rw [if_neg c4] at H
  exact absurd H (by simp)
def impl_PriceValue.f (k:Nat) (a0_0:Int) (a0_1:Int) (a0_2:Int) (l0_3:List Int) (l0_4:List Int) (l0_5:List Int) (a1_0:Int) (a1_1:Int) (a1_2:Int) (a1_3:Int) (a2:Int):Option (Int × Bool):=(impl_IsModel.f k a0_0 a0_1 a0_2 l0_3 l0_4 l0_5).bind fun t372=>(if t372=true then ((impl_ArePrices.f k a1_0 a1_1 a1_2 a1_3).bind fun t373=>(if t373=true then (if a2 < 0 then (some (0,false)) else (if a2 ≥ (l0_3.length:Int) then (some (0,false)) else ((impl_priceValue.f a0_0 a0_1 a0_2 l0_3 l0_4 l0_5 a1_0 a1_1 a1_2 a1_3 a2).bind fun t374=>(some (t374,true))))) else (some (0,false)))) else (some (0,false)))
set_option maxHeartbeats 8000000 in
set_option maxRecDepth 100000 in
theorem impl_PriceValue.calls (k:Nat) (a0_0:Int) (a0_1:Int) (a0_2:Int) (A0_3:Option Addr) (c0_3:Nat) (l0_3:List Int) (A0_4:Option Addr) (c0_4:Nat) (l0_4:List Int) (A0_5:Option Addr) (c0_5:Nat) (l0_5:List Int) (a1_0:Int) (a1_1:Int) (a1_2:Int) (a1_3:Int) (a2:Int) (r1:Int) (r2:Bool) (w:World) (hr0_3:Kd.C (Kd.int .i64) w A0_3 l0_3.length l0_3) (hc0_3:l0_3.length≤c0_3) (hr0_4:Kd.C (Kd.int .i64) w A0_4 l0_4.length l0_4) (hc0_4:l0_4.length≤c0_4) (hr0_5:Kd.C (Kd.int .i64) w A0_5 l0_5.length l0_5) (hc0_5:l0_5.length≤c0_5) (h:impl_PriceValue.f k a0_0 a0_1 a0_2 l0_3 l0_4 l0_5 a1_0 a1_1 a1_2 a1_3 a2=some (r1,r2)) :
  Calls Try.prog 5 #[.agg #[.int .i64 a0_0,.int .i64 a0_1,.int .i64 a0_2,.slice A0_3 l0_3.length c0_3,.slice A0_4 l0_4.length c0_4,.slice A0_5 l0_5.length c0_5],.agg #[.int .i64 a1_0,.int .i64 a1_1,.int .i64 a1_2,.int .i64 a1_3],.int .i64 a2] w fun e w'=>e=.returned (.tuple #[.int .i64 r1,.bool r2])∧Below w.heap.size w w':=by
 have hu27:=Try.underlying27;have hu29:=Try.underlying29;have HR0_3:=aM0 hr0_3;have HC0_3:=aM0 hc0_3;clear hr0_3 hc0_3;have HR0_4:=aM0 hr0_4;have HC0_4:=aM0 hc0_4;clear hr0_4 hc0_4;have HR0_5:=aM0 hr0_5;have HC0_5:=aM0 hc0_5;clear hr0_5 hc0_5;have HB:=aM0 (Below.refl w.heap.size w);have H:((impl_IsModel.f k a0_0 a0_1 a0_2 l0_3 l0_4 l0_5).bind fun t372=>(if t372=true then ((impl_ArePrices.f k a1_0 a1_1 a1_2 a1_3).bind fun t373=>(if t373=true then (if a2 < 0 then (some (0,false)) else (if a2 ≥ (l0_3.length:Int) then (some (0,false)) else ((impl_priceValue.f a0_0 a0_1 a0_2 l0_3 l0_4 l0_5 a1_0 a1_1 a1_2 a1_3 a2).bind fun t374=>(some (t374,true))))) else (some (0,false)))) else (some (0,false))))=some (r1,r2):=h;clear h;replace H:=bI0.mp H;obtain ⟨t372,A40,H⟩:=H;(try dsimp only at H);have A4:=aM0 A40;clear A40
 by_cases c5:t372=true
 ·subst c5
  rw [if_pos rfl] at H;(try dsimp only at H);replace H:=bI0.mp H;obtain ⟨t373,A60,H⟩:=H;(try dsimp only at H);have A6:=aM0 A60;clear A60
  by_cases c7:t373=true
  ·subst c7
   rw [if_pos rfl] at H;(try dsimp only at H)
   by_cases c8:a2 < 0
   ·rw [if_pos c8] at H
    have c8b0:decide (a2 < 0)=true:=dT0 c8;clear c8;simp only [Option.some.injEq,Prod.mk.injEq] at H;obtain ⟨rfl,rfl⟩:=H;go_enter Try.func5,Try.ntmps5
    go_wp2_with (first|((with_reducible refine gate_dst (N:=3) rfl ?_);(try (refine gate_guard (by rfl) ?_;dsimp only));refine box_event ?hg (N:=3) ?hd (cs:=#[.int .i64 a0_0,.int .i64 a0_1,.int .i64 a0_2,.slice A0_3 l0_3.length c0_3,.slice A0_4 l0_4.length c0_4,.slice A0_5 l0_5.length c0_5]) (t:=27) ?hr ?_;(case hd=>rfl);(case hg=>rfl);(case hr=>exact zyx0_23);intro gb370 hg w9 hbox hb;have n0_:=aM0 (bS0 (zyx0_0) hb);have n1_:=aM0 (hbox);have n2_:=aM0 ((zyx0_27:w.heap.size≤gb370));have n3_:=aM0 ((zyx0_27:w.heap.size≤gb370));clear HB;have HB:=n0_;have BK370:=n1_;have GW370:=n2_;have GE370:=n3_;clear n0_ n1_ n2_ n3_ hb hbox hg)|((with_reducible refine gate_dst (N:=4) rfl ?_);(try (refine gate_guard (by rfl) ?_;dsimp only));refine box_event ?hg (N:=4) ?hd (cs:=#[.int .i64 a1_0,.int .i64 a1_1,.int .i64 a1_2,.int .i64 a1_3]) (t:=29) ?hr ?_;(case hd=>rfl);(case hg=>rfl);(case hr=>exact zyx0_23);intro gb371 hg w10 hbox hb;have n0_:=aM0 (bB0 (g:=gb370) (o:=.cells #[.int .i64 a0_0,.int .i64 a0_1,.int .i64 a0_2,.slice A0_3 l0_3.length c0_3,.slice A0_4 l0_4.length c0_4,.slice A0_5 l0_5.length c0_5] 27 (0,0)) (zyx0_12) hb);have n1_:=aM0 (bS0 (zyx0_13) hb);have n2_:=aM0 (hbox);have n3_:=aM0 ((zyx0_31:w.heap.size≤gb371));have n4_:=aM0 ((zyx0_31:w.heap.size≤gb371));have n5_:=aM0 ((zyx0_32:gb370≠gb371));have n6_:=aM0 ((zyx0_33:gb371≠gb370));clear BK370 HB;have BK370:=n0_;have HB:=n1_;have BK371:=n2_;have GW371:=n3_;have GE371:=n4_;have NB370_371:=n5_;have NB371_370:=n6_;clear n0_ n1_ n2_ n3_ n4_ n5_ n6_ hb hbox hg;have hnb11:=NB370_371.out;have hnc11:=NB371_370.out;obtain ⟨hcz12_0,hfz12_0,hcz12_1,hfz12_1,hcz12_2,hfz12_2,hcz12_3,hfz12_3,hcz12_4,hfz12_4,hcz12_5,hfz12_5⟩:=cf6 BK370.out)|((with_reducible refine gC0 (f:=24) rfl ?_);refine goesL_ (some 9) rfl rfl Try.func24 (by kernel_rfl) rfl #[.agg #[.int .i64 a0_0,.int .i64 a0_1,.int .i64 a0_2,.slice A0_3 l0_3.length c0_3,.slice A0_4 l0_4.length c0_4,.slice A0_5 l0_5.length c0_5]] rfl (zyx0_7) ?_;(with_reducible refine (impl_IsModel.calls k a0_0 a0_1 a0_2 _ _ l0_3 _ _ l0_4 _ _ l0_5 true _ ?side1 ?side2 ?side3 ?side4 ?side5 ?side6 A4.out).mono ?_);(case side1=>exact zyx0_24);(case side2=>exact HC0_3.out);(case side3=>exact zyx0_25);(case side4=>exact HC0_4.out);(case side5=>exact zyx0_26);(case side6=>exact HC0_5.out);rintro e w13 ⟨rfl,hb⟩;refine ⟨_,rfl,?_⟩;have n0_:=aM0 (bB0 (g:=gb370) (o:=.cells #[.int .i64 a0_0,.int .i64 a0_1,.int .i64 a0_2,.slice A0_3 l0_3.length c0_3,.slice A0_4 l0_4.length c0_4,.slice A0_5 l0_5.length c0_5] 27 (0,0)) (zyx0_12) hb);have n1_:=aM0 (bB0 (g:=gb371) (o:=.cells #[.int .i64 a1_0,.int .i64 a1_1,.int .i64 a1_2,.int .i64 a1_3] 29 (0,0)) (zyx0_14) hb);have n2_:=aM0 (bS0 (zyx0_15) hb);clear BK370 BK371 HB;have BK370:=n0_;have BK371:=n1_;have HB:=n2_;clear n0_ n1_ n2_;(try clear hb);(try clear hb2);(try clear hk);(try clear hi);obtain ⟨hcz14_0,hfz14_0,hcz14_1,hfz14_1,hcz14_2,hfz14_2,hcz14_3,hfz14_3⟩:=cf4 BK371.out)|(go_at_call 18;(with_reducible refine (impl_ArePrices.calls k a1_0 a1_1 a1_2 a1_3 true _ A6.out).mono ?_);rintro e w15 ⟨rfl,hb⟩;have n0_:=aM0 (bB0 (g:=gb370) (o:=.cells #[.int .i64 a0_0,.int .i64 a0_1,.int .i64 a0_2,.slice A0_3 l0_3.length c0_3,.slice A0_4 l0_4.length c0_4,.slice A0_5 l0_5.length c0_5] 27 (0,0)) (zyx0_12) hb);have n1_:=aM0 (bB0 (g:=gb371) (o:=.cells #[.int .i64 a1_0,.int .i64 a1_1,.int .i64 a1_2,.int .i64 a1_3] 29 (0,0)) (zyx0_14) hb);have n2_:=aM0 (bS0 (zyx0_15) hb);clear BK370 BK371 HB;have BK370:=n0_;have BK371:=n1_;have HB:=n2_;clear n0_ n1_ n2_;(try clear hb);(try clear hb2);(try clear hk);(try clear hi)))
    go_ret2
    exact ⟨zyx0_5,zyx0_15⟩
   ·rw [if_neg c8] at H
    have c8b0:decide (a2 < 0)=false:=decide_eq_false c8;clear c8
    by_cases c16:a2 ≥ (l0_3.length:Int)
    ·rw [if_pos c16] at H
     have c16b0:decide ((l0_3.length:Int)≤a2)=true:=dT0 c16;clear c16;simp only [Option.some.injEq,Prod.mk.injEq] at H;obtain ⟨rfl,rfl⟩:=H;go_enter Try.func5,Try.ntmps5
     go_wp2_with (first|((with_reducible refine gate_dst (N:=3) rfl ?_);(try (refine gate_guard (by rfl) ?_;dsimp only));refine box_event ?hg (N:=3) ?hd (cs:=#[.int .i64 a0_0,.int .i64 a0_1,.int .i64 a0_2,.slice A0_3 l0_3.length c0_3,.slice A0_4 l0_4.length c0_4,.slice A0_5 l0_5.length c0_5]) (t:=27) ?hr ?_;(case hd=>rfl);(case hg=>rfl);(case hr=>exact zyx0_23);intro gb370 hg w17 hbox hb;have n0_:=aM0 (bS0 (zyx0_0) hb);have n1_:=aM0 (hbox);have n2_:=aM0 ((zyx0_27:w.heap.size≤gb370));have n3_:=aM0 ((zyx0_27:w.heap.size≤gb370));clear HB;have HB:=n0_;have BK370:=n1_;have GW370:=n2_;have GE370:=n3_;clear n0_ n1_ n2_ n3_ hb hbox hg)|((with_reducible refine gate_dst (N:=4) rfl ?_);(try (refine gate_guard (by rfl) ?_;dsimp only));refine box_event ?hg (N:=4) ?hd (cs:=#[.int .i64 a1_0,.int .i64 a1_1,.int .i64 a1_2,.int .i64 a1_3]) (t:=29) ?hr ?_;(case hd=>rfl);(case hg=>rfl);(case hr=>exact zyx0_23);intro gb371 hg w18 hbox hb;have n0_:=aM0 (bB0 (g:=gb370) (o:=.cells #[.int .i64 a0_0,.int .i64 a0_1,.int .i64 a0_2,.slice A0_3 l0_3.length c0_3,.slice A0_4 l0_4.length c0_4,.slice A0_5 l0_5.length c0_5] 27 (0,0)) (zyx0_12) hb);have n1_:=aM0 (bS0 (zyx0_13) hb);have n2_:=aM0 (hbox);have n3_:=aM0 ((zyx0_31:w.heap.size≤gb371));have n4_:=aM0 ((zyx0_31:w.heap.size≤gb371));have n5_:=aM0 ((zyx0_32:gb370≠gb371));have n6_:=aM0 ((zyx0_33:gb371≠gb370));clear BK370 HB;have BK370:=n0_;have HB:=n1_;have BK371:=n2_;have GW371:=n3_;have GE371:=n4_;have NB370_371:=n5_;have NB371_370:=n6_;clear n0_ n1_ n2_ n3_ n4_ n5_ n6_ hb hbox hg;have hnb19:=NB370_371.out;have hnc19:=NB371_370.out;obtain ⟨hcz20_0,hfz20_0,hcz20_1,hfz20_1,hcz20_2,hfz20_2,hcz20_3,hfz20_3,hcz20_4,hfz20_4,hcz20_5,hfz20_5⟩:=cf6 BK370.out)|((with_reducible refine gC0 (f:=24) rfl ?_);refine goesL_ (some 9) rfl rfl Try.func24 (by kernel_rfl) rfl #[.agg #[.int .i64 a0_0,.int .i64 a0_1,.int .i64 a0_2,.slice A0_3 l0_3.length c0_3,.slice A0_4 l0_4.length c0_4,.slice A0_5 l0_5.length c0_5]] rfl (zyx0_7) ?_;(with_reducible refine (impl_IsModel.calls k a0_0 a0_1 a0_2 _ _ l0_3 _ _ l0_4 _ _ l0_5 true _ ?side1 ?side2 ?side3 ?side4 ?side5 ?side6 A4.out).mono ?_);(case side1=>exact zyx0_24);(case side2=>exact HC0_3.out);(case side3=>exact zyx0_25);(case side4=>exact HC0_4.out);(case side5=>exact zyx0_26);(case side6=>exact HC0_5.out);rintro e w21 ⟨rfl,hb⟩;refine ⟨_,rfl,?_⟩;have n0_:=aM0 (bB0 (g:=gb370) (o:=.cells #[.int .i64 a0_0,.int .i64 a0_1,.int .i64 a0_2,.slice A0_3 l0_3.length c0_3,.slice A0_4 l0_4.length c0_4,.slice A0_5 l0_5.length c0_5] 27 (0,0)) (zyx0_12) hb);have n1_:=aM0 (bB0 (g:=gb371) (o:=.cells #[.int .i64 a1_0,.int .i64 a1_1,.int .i64 a1_2,.int .i64 a1_3] 29 (0,0)) (zyx0_14) hb);have n2_:=aM0 (bS0 (zyx0_15) hb);clear BK370 BK371 HB;have BK370:=n0_;have BK371:=n1_;have HB:=n2_;clear n0_ n1_ n2_;(try clear hb);(try clear hb2);(try clear hk);(try clear hi);obtain ⟨hcz22_0,hfz22_0,hcz22_1,hfz22_1,hcz22_2,hfz22_2,hcz22_3,hfz22_3⟩:=cf4 BK371.out)|(go_at_call 18;(with_reducible refine (impl_ArePrices.calls k a1_0 a1_1 a1_2 a1_3 true _ A6.out).mono ?_);rintro e w23 ⟨rfl,hb⟩;have n0_:=aM0 (bB0 (g:=gb370) (o:=.cells #[.int .i64 a0_0,.int .i64 a0_1,.int .i64 a0_2,.slice A0_3 l0_3.length c0_3,.slice A0_4 l0_4.length c0_4,.slice A0_5 l0_5.length c0_5] 27 (0,0)) (zyx0_12) hb);have n1_:=aM0 (bB0 (g:=gb371) (o:=.cells #[.int .i64 a1_0,.int .i64 a1_1,.int .i64 a1_2,.int .i64 a1_3] 29 (0,0)) (zyx0_14) hb);have n2_:=aM0 (bS0 (zyx0_15) hb);clear BK370 BK371 HB;have BK370:=n0_;have BK371:=n1_;have HB:=n2_;clear n0_ n1_ n2_;(try clear hb);(try clear hb2);(try clear hk);(try clear hi);obtain ⟨hcz24_0,hfz24_0,hcz24_1,hfz24_1,hcz24_2,hfz24_2,hcz24_3,hfz24_3,hcz24_4,hfz24_4,hcz24_5,hfz24_5⟩:=cf6 BK370.out))
     go_ret2
     exact ⟨zyx0_5,zyx0_15⟩
    ·rw [if_neg c16] at H
     have c16b0:decide ((l0_3.length:Int)≤a2)=false:=decide_eq_false c16;clear c16;replace H:=bI0.mp H;obtain ⟨t374,A250,H⟩:=H;(try dsimp only at H);have A25:=aM0 A250;clear A250;simp only [Option.some.injEq,Prod.mk.injEq] at H;obtain ⟨rfl,rfl⟩:=H;go_enter Try.func5,Try.ntmps5
     go_wp2_with (first|((with_reducible refine gate_dst (N:=3) rfl ?_);(try (refine gate_guard (by rfl) ?_;dsimp only));refine box_event ?hg (N:=3) ?hd (cs:=#[.int .i64 a0_0,.int .i64 a0_1,.int .i64 a0_2,.slice A0_3 l0_3.length c0_3,.slice A0_4 l0_4.length c0_4,.slice A0_5 l0_5.length c0_5]) (t:=27) ?hr ?_;(case hd=>rfl);(case hg=>rfl);(case hr=>exact zyx0_23);intro gb370 hg w26 hbox hb;have n0_:=aM0 (bS0 (zyx0_0) hb);have n1_:=aM0 (hbox);have n2_:=aM0 ((zyx0_27:w.heap.size≤gb370));have n3_:=aM0 ((zyx0_27:w.heap.size≤gb370));clear HB;have HB:=n0_;have BK370:=n1_;have GW370:=n2_;have GE370:=n3_;clear n0_ n1_ n2_ n3_ hb hbox hg)|((with_reducible refine gate_dst (N:=4) rfl ?_);(try (refine gate_guard (by rfl) ?_;dsimp only));refine box_event ?hg (N:=4) ?hd (cs:=#[.int .i64 a1_0,.int .i64 a1_1,.int .i64 a1_2,.int .i64 a1_3]) (t:=29) ?hr ?_;(case hd=>rfl);(case hg=>rfl);(case hr=>exact zyx0_23);intro gb371 hg w27 hbox hb;have n0_:=aM0 (bB0 (g:=gb370) (o:=.cells #[.int .i64 a0_0,.int .i64 a0_1,.int .i64 a0_2,.slice A0_3 l0_3.length c0_3,.slice A0_4 l0_4.length c0_4,.slice A0_5 l0_5.length c0_5] 27 (0,0)) (zyx0_12) hb);have n1_:=aM0 (bS0 (zyx0_13) hb);have n2_:=aM0 (hbox);have n3_:=aM0 ((zyx0_31:w.heap.size≤gb371));have n4_:=aM0 ((zyx0_31:w.heap.size≤gb371));have n5_:=aM0 ((zyx0_32:gb370≠gb371));have n6_:=aM0 ((zyx0_33:gb371≠gb370));clear BK370 HB;have BK370:=n0_;have HB:=n1_;have BK371:=n2_;have GW371:=n3_;have GE371:=n4_;have NB370_371:=n5_;have NB371_370:=n6_;clear n0_ n1_ n2_ n3_ n4_ n5_ n6_ hb hbox hg;have hnb28:=NB370_371.out;have hnc28:=NB371_370.out;obtain ⟨hcz29_0,hfz29_0,hcz29_1,hfz29_1,hcz29_2,hfz29_2,hcz29_3,hfz29_3,hcz29_4,hfz29_4,hcz29_5,hfz29_5⟩:=cf6 BK370.out)|((with_reducible refine gC0 (f:=24) rfl ?_);refine goesL_ (some 9) rfl rfl Try.func24 (by kernel_rfl) rfl #[.agg #[.int .i64 a0_0,.int .i64 a0_1,.int .i64 a0_2,.slice A0_3 l0_3.length c0_3,.slice A0_4 l0_4.length c0_4,.slice A0_5 l0_5.length c0_5]] rfl (zyx0_7) ?_;(with_reducible refine (impl_IsModel.calls k a0_0 a0_1 a0_2 _ _ l0_3 _ _ l0_4 _ _ l0_5 true _ ?side1 ?side2 ?side3 ?side4 ?side5 ?side6 A4.out).mono ?_);(case side1=>exact zyx0_24);(case side2=>exact HC0_3.out);(case side3=>exact zyx0_25);(case side4=>exact HC0_4.out);(case side5=>exact zyx0_26);(case side6=>exact HC0_5.out);rintro e w30 ⟨rfl,hb⟩;refine ⟨_,rfl,?_⟩;have n0_:=aM0 (bB0 (g:=gb370) (o:=.cells #[.int .i64 a0_0,.int .i64 a0_1,.int .i64 a0_2,.slice A0_3 l0_3.length c0_3,.slice A0_4 l0_4.length c0_4,.slice A0_5 l0_5.length c0_5] 27 (0,0)) (zyx0_12) hb);have n1_:=aM0 (bB0 (g:=gb371) (o:=.cells #[.int .i64 a1_0,.int .i64 a1_1,.int .i64 a1_2,.int .i64 a1_3] 29 (0,0)) (zyx0_14) hb);have n2_:=aM0 (bS0 (zyx0_15) hb);clear BK370 BK371 HB;have BK370:=n0_;have BK371:=n1_;have HB:=n2_;clear n0_ n1_ n2_;(try clear hb);(try clear hb2);(try clear hk);(try clear hi);obtain ⟨hcz31_0,hfz31_0,hcz31_1,hfz31_1,hcz31_2,hfz31_2,hcz31_3,hfz31_3⟩:=cf4 BK371.out)|(go_at_call 18;(with_reducible refine (impl_ArePrices.calls k a1_0 a1_1 a1_2 a1_3 true _ A6.out).mono ?_);rintro e w32 ⟨rfl,hb⟩;have n0_:=aM0 (bB0 (g:=gb370) (o:=.cells #[.int .i64 a0_0,.int .i64 a0_1,.int .i64 a0_2,.slice A0_3 l0_3.length c0_3,.slice A0_4 l0_4.length c0_4,.slice A0_5 l0_5.length c0_5] 27 (0,0)) (zyx0_12) hb);have n1_:=aM0 (bB0 (g:=gb371) (o:=.cells #[.int .i64 a1_0,.int .i64 a1_1,.int .i64 a1_2,.int .i64 a1_3] 29 (0,0)) (zyx0_14) hb);have n2_:=aM0 (bS0 (zyx0_15) hb);clear BK370 BK371 HB;have BK370:=n0_;have BK371:=n1_;have HB:=n2_;clear n0_ n1_ n2_;(try clear hb);(try clear hb2);(try clear hk);(try clear hi);obtain ⟨hcz33_0,hfz33_0,hcz33_1,hfz33_1,hcz33_2,hfz33_2,hcz33_3,hfz33_3,hcz33_4,hfz33_4,hcz33_5,hfz33_5⟩:=cf6 BK370.out;obtain ⟨hcz34_0,hfz34_0,hcz34_1,hfz34_1,hcz34_2,hfz34_2,hcz34_3,hfz34_3⟩:=cf4 BK371.out)|((with_reducible refine gC0 (f:=25) rfl ?_);refine goesL_ (some 30) rfl rfl Try.func25 (by kernel_rfl) rfl #[.agg #[.int .i64 a0_0,.int .i64 a0_1,.int .i64 a0_2,.slice A0_3 l0_3.length c0_3,.slice A0_4 l0_4.length c0_4,.slice A0_5 l0_5.length c0_5],.agg #[.int .i64 a1_0,.int .i64 a1_1,.int .i64 a1_2,.int .i64 a1_3],.int .i64 a2] rfl (zyx0_7) ?_;(with_reducible refine (impl_priceValue.calls a0_0 a0_1 a0_2 _ _ l0_3 _ _ l0_4 _ _ l0_5 a1_0 a1_1 a1_2 a1_3 a2 t374 _ ?side1 ?side2 ?side3 ?side4 ?side5 ?side6 A25.out).mono ?_);(case side1=>exact zyx0_24);(case side2=>exact HC0_3.out);(case side3=>exact zyx0_25);(case side4=>exact HC0_4.out);(case side5=>exact zyx0_26);(case side6=>exact HC0_5.out);rintro e w35 ⟨rfl,hb⟩;refine ⟨_,rfl,?_⟩;have n0_:=aM0 (bB0 (g:=gb370) (o:=.cells #[.int .i64 a0_0,.int .i64 a0_1,.int .i64 a0_2,.slice A0_3 l0_3.length c0_3,.slice A0_4 l0_4.length c0_4,.slice A0_5 l0_5.length c0_5] 27 (0,0)) (zyx0_12) hb);have n1_:=aM0 (bB0 (g:=gb371) (o:=.cells #[.int .i64 a1_0,.int .i64 a1_1,.int .i64 a1_2,.int .i64 a1_3] 29 (0,0)) (zyx0_14) hb);have n2_:=aM0 (bS0 (zyx0_15) hb);clear BK370 BK371 HB;have BK370:=n0_;have BK371:=n1_;have HB:=n2_;clear n0_ n1_ n2_;(try clear hb);(try clear hb2);(try clear hk);(try clear hi)))
     go_ret2
     exact ⟨zyx0_5,zyx0_15⟩
  ·replace c7:=Bool.eq_false_iff.mpr c7
   subst c7;rw [if_neg (show ¬ (false=true) by decide)] at H;(try dsimp only at H);simp only [Option.some.injEq,Prod.mk.injEq] at H;obtain ⟨rfl,rfl⟩:=H;go_enter Try.func5,Try.ntmps5
   go_wp2_with (first|((with_reducible refine gate_dst (N:=3) rfl ?_);(try (refine gate_guard (by rfl) ?_;dsimp only));refine box_event ?hg (N:=3) ?hd (cs:=#[.int .i64 a0_0,.int .i64 a0_1,.int .i64 a0_2,.slice A0_3 l0_3.length c0_3,.slice A0_4 l0_4.length c0_4,.slice A0_5 l0_5.length c0_5]) (t:=27) ?hr ?_;(case hd=>rfl);(case hg=>rfl);(case hr=>exact zyx0_23);intro gb370 hg w36 hbox hb;have n0_:=aM0 (bS0 (zyx0_0) hb);have n1_:=aM0 (hbox);have n2_:=aM0 ((zyx0_27:w.heap.size≤gb370));have n3_:=aM0 ((zyx0_27:w.heap.size≤gb370));clear HB;have HB:=n0_;have BK370:=n1_;have GW370:=n2_;have GE370:=n3_;clear n0_ n1_ n2_ n3_ hb hbox hg)|((with_reducible refine gate_dst (N:=4) rfl ?_);(try (refine gate_guard (by rfl) ?_;dsimp only));refine box_event ?hg (N:=4) ?hd (cs:=#[.int .i64 a1_0,.int .i64 a1_1,.int .i64 a1_2,.int .i64 a1_3]) (t:=29) ?hr ?_;(case hd=>rfl);(case hg=>rfl);(case hr=>exact zyx0_23);intro gb371 hg w37 hbox hb;have n0_:=aM0 (bB0 (g:=gb370) (o:=.cells #[.int .i64 a0_0,.int .i64 a0_1,.int .i64 a0_2,.slice A0_3 l0_3.length c0_3,.slice A0_4 l0_4.length c0_4,.slice A0_5 l0_5.length c0_5] 27 (0,0)) (zyx0_12) hb);have n1_:=aM0 (bS0 (zyx0_13) hb);have n2_:=aM0 (hbox);have n3_:=aM0 ((zyx0_31:w.heap.size≤gb371));have n4_:=aM0 ((zyx0_31:w.heap.size≤gb371));have n5_:=aM0 ((zyx0_32:gb370≠gb371));have n6_:=aM0 ((zyx0_33:gb371≠gb370));clear BK370 HB;have BK370:=n0_;have HB:=n1_;have BK371:=n2_;have GW371:=n3_;have GE371:=n4_;have NB370_371:=n5_;have NB371_370:=n6_;clear n0_ n1_ n2_ n3_ n4_ n5_ n6_ hb hbox hg;have hnb38:=NB370_371.out;have hnc38:=NB371_370.out;obtain ⟨hcz39_0,hfz39_0,hcz39_1,hfz39_1,hcz39_2,hfz39_2,hcz39_3,hfz39_3,hcz39_4,hfz39_4,hcz39_5,hfz39_5⟩:=cf6 BK370.out)|((with_reducible refine gC0 (f:=24) rfl ?_);refine goesL_ (some 9) rfl rfl Try.func24 (by kernel_rfl) rfl #[.agg #[.int .i64 a0_0,.int .i64 a0_1,.int .i64 a0_2,.slice A0_3 l0_3.length c0_3,.slice A0_4 l0_4.length c0_4,.slice A0_5 l0_5.length c0_5]] rfl (zyx0_7) ?_;(with_reducible refine (impl_IsModel.calls k a0_0 a0_1 a0_2 _ _ l0_3 _ _ l0_4 _ _ l0_5 true _ ?side1 ?side2 ?side3 ?side4 ?side5 ?side6 A4.out).mono ?_);(case side1=>exact zyx0_24);(case side2=>exact HC0_3.out);(case side3=>exact zyx0_25);(case side4=>exact HC0_4.out);(case side5=>exact zyx0_26);(case side6=>exact HC0_5.out);rintro e w40 ⟨rfl,hb⟩;refine ⟨_,rfl,?_⟩;have n0_:=aM0 (bB0 (g:=gb370) (o:=.cells #[.int .i64 a0_0,.int .i64 a0_1,.int .i64 a0_2,.slice A0_3 l0_3.length c0_3,.slice A0_4 l0_4.length c0_4,.slice A0_5 l0_5.length c0_5] 27 (0,0)) (zyx0_12) hb);have n1_:=aM0 (bB0 (g:=gb371) (o:=.cells #[.int .i64 a1_0,.int .i64 a1_1,.int .i64 a1_2,.int .i64 a1_3] 29 (0,0)) (zyx0_14) hb);have n2_:=aM0 (bS0 (zyx0_15) hb);clear BK370 BK371 HB;have BK370:=n0_;have BK371:=n1_;have HB:=n2_;clear n0_ n1_ n2_;(try clear hb);(try clear hb2);(try clear hk);(try clear hi);obtain ⟨hcz41_0,hfz41_0,hcz41_1,hfz41_1,hcz41_2,hfz41_2,hcz41_3,hfz41_3⟩:=cf4 BK371.out)|(go_at_call 18;(with_reducible refine (impl_ArePrices.calls k a1_0 a1_1 a1_2 a1_3 false _ A6.out).mono ?_);rintro e w42 ⟨rfl,hb⟩;have n0_:=aM0 (bB0 (g:=gb370) (o:=.cells #[.int .i64 a0_0,.int .i64 a0_1,.int .i64 a0_2,.slice A0_3 l0_3.length c0_3,.slice A0_4 l0_4.length c0_4,.slice A0_5 l0_5.length c0_5] 27 (0,0)) (zyx0_12) hb);have n1_:=aM0 (bB0 (g:=gb371) (o:=.cells #[.int .i64 a1_0,.int .i64 a1_1,.int .i64 a1_2,.int .i64 a1_3] 29 (0,0)) (zyx0_14) hb);have n2_:=aM0 (bS0 (zyx0_15) hb);clear BK370 BK371 HB;have BK370:=n0_;have BK371:=n1_;have HB:=n2_;clear n0_ n1_ n2_;(try clear hb);(try clear hb2);(try clear hk);(try clear hi)))
   go_ret2
   exact ⟨zyx0_5,zyx0_15⟩
 ·replace c5:=Bool.eq_false_iff.mpr c5
  subst c5;rw [if_neg (show ¬ (false=true) by decide)] at H;(try dsimp only at H);simp only [Option.some.injEq,Prod.mk.injEq] at H;obtain ⟨rfl,rfl⟩:=H;go_enter Try.func5,Try.ntmps5
  go_wp2_with (first|((with_reducible refine gate_dst (N:=3) rfl ?_);(try (refine gate_guard (by rfl) ?_;dsimp only));refine box_event ?hg (N:=3) ?hd (cs:=#[.int .i64 a0_0,.int .i64 a0_1,.int .i64 a0_2,.slice A0_3 l0_3.length c0_3,.slice A0_4 l0_4.length c0_4,.slice A0_5 l0_5.length c0_5]) (t:=27) ?hr ?_;(case hd=>rfl);(case hg=>rfl);(case hr=>exact zyx0_23);intro gb370 hg w43 hbox hb;have n0_:=aM0 (bS0 (zyx0_0) hb);have n1_:=aM0 (hbox);have n2_:=aM0 ((zyx0_27:w.heap.size≤gb370));have n3_:=aM0 ((zyx0_27:w.heap.size≤gb370));clear HB;have HB:=n0_;have BK370:=n1_;have GW370:=n2_;have GE370:=n3_;clear n0_ n1_ n2_ n3_ hb hbox hg)|((with_reducible refine gate_dst (N:=4) rfl ?_);(try (refine gate_guard (by rfl) ?_;dsimp only));refine box_event ?hg (N:=4) ?hd (cs:=#[.int .i64 a1_0,.int .i64 a1_1,.int .i64 a1_2,.int .i64 a1_3]) (t:=29) ?hr ?_;(case hd=>rfl);(case hg=>rfl);(case hr=>exact zyx0_23);intro gb371 hg w44 hbox hb;have n0_:=aM0 (bB0 (g:=gb370) (o:=.cells #[.int .i64 a0_0,.int .i64 a0_1,.int .i64 a0_2,.slice A0_3 l0_3.length c0_3,.slice A0_4 l0_4.length c0_4,.slice A0_5 l0_5.length c0_5] 27 (0,0)) (zyx0_12) hb);have n1_:=aM0 (bS0 (zyx0_13) hb);have n2_:=aM0 (hbox);have n3_:=aM0 ((zyx0_31:w.heap.size≤gb371));have n4_:=aM0 ((zyx0_31:w.heap.size≤gb371));have n5_:=aM0 ((zyx0_32:gb370≠gb371));have n6_:=aM0 ((zyx0_33:gb371≠gb370));clear BK370 HB;have BK370:=n0_;have HB:=n1_;have BK371:=n2_;have GW371:=n3_;have GE371:=n4_;have NB370_371:=n5_;have NB371_370:=n6_;clear n0_ n1_ n2_ n3_ n4_ n5_ n6_ hb hbox hg;have hnb45:=NB370_371.out;have hnc45:=NB371_370.out;obtain ⟨hcz46_0,hfz46_0,hcz46_1,hfz46_1,hcz46_2,hfz46_2,hcz46_3,hfz46_3,hcz46_4,hfz46_4,hcz46_5,hfz46_5⟩:=cf6 BK370.out)|((with_reducible refine gC0 (f:=24) rfl ?_);refine goesL_ (some 9) rfl rfl Try.func24 (by kernel_rfl) rfl #[.agg #[.int .i64 a0_0,.int .i64 a0_1,.int .i64 a0_2,.slice A0_3 l0_3.length c0_3,.slice A0_4 l0_4.length c0_4,.slice A0_5 l0_5.length c0_5]] rfl (zyx0_7) ?_;(with_reducible refine (impl_IsModel.calls k a0_0 a0_1 a0_2 _ _ l0_3 _ _ l0_4 _ _ l0_5 false _ ?side1 ?side2 ?side3 ?side4 ?side5 ?side6 A4.out).mono ?_);(case side1=>exact zyx0_24);(case side2=>exact HC0_3.out);(case side3=>exact zyx0_25);(case side4=>exact HC0_4.out);(case side5=>exact zyx0_26);(case side6=>exact HC0_5.out);rintro e w47 ⟨rfl,hb⟩;refine ⟨_,rfl,?_⟩;have n0_:=aM0 (bB0 (g:=gb370) (o:=.cells #[.int .i64 a0_0,.int .i64 a0_1,.int .i64 a0_2,.slice A0_3 l0_3.length c0_3,.slice A0_4 l0_4.length c0_4,.slice A0_5 l0_5.length c0_5] 27 (0,0)) (zyx0_12) hb);have n1_:=aM0 (bB0 (g:=gb371) (o:=.cells #[.int .i64 a1_0,.int .i64 a1_1,.int .i64 a1_2,.int .i64 a1_3] 29 (0,0)) (zyx0_14) hb);have n2_:=aM0 (bS0 (zyx0_15) hb);clear BK370 BK371 HB;have BK370:=n0_;have BK371:=n1_;have HB:=n2_;clear n0_ n1_ n2_;(try clear hb);(try clear hb2);(try clear hk);(try clear hi)))
  go_ret2
  exact ⟨zyx0_5,zyx0_15⟩
mutual
def impl_PriceValues.j0:Nat→Bool→Int→Int→Int→List Int→List Int→List Int→Int→Int→Int→Int→Option (List Int × Bool)
 | 0,_,_,_,_,_,_,_,_,_,_,_=>none
 | k + 1,x15,x412000,x412001,x412002,x412003,x412004,x412005,x413000,x413001,x413002,x413003=>if x15=true then (some (([]:List Int),false)) else (impl_PriceValues.l0 k (([]:List Int)) (x412003.length:Int) 0 x412000 x412001 x412002 x412003 x412004 x412005 x413000 x413001 x413002 x413003)
def impl_PriceValues.l0:Nat→List Int→Int→Int→Int→Int→Int→List Int→List Int→List Int→Int→Int→Int→Int→Option (List Int × Bool)
 | 0,_,_,_,_,_,_,_,_,_,_,_,_,_=>none
 | k + 1,x6,x19,x20,x412000,x412001,x412002,x412003,x412004,x412005,x413000,x413001,x413002,x413003=>if x20 < x19 then ((impl_priceValue.f x412000 x412001 x412002 x412003 x412004 x412005 x413000 x413001 x413002 x413003 x20).bind fun t418=>(if x6.length < 17592186044416 then (impl_PriceValues.l0 k (x6 ++ [t418]) x19 (wrap64 (x20 + 1)) x412000 x412001 x412002 x412003 x412004 x412005 x413000 x413001 x413002 x413003) else (none))) else (some (x6,true))
end
def impl_PriceValues.f (k:Nat) (a0_0:Int) (a0_1:Int) (a0_2:Int) (l0_3:List Int) (l0_4:List Int) (l0_5:List Int) (a1_0:Int) (a1_1:Int) (a1_2:Int) (a1_3:Int):Option (List Int × Bool):=(impl_IsModel.f k a0_0 a0_1 a0_2 l0_3 l0_4 l0_5).bind fun t413=>(if t413=true then ((impl_ArePrices.f k a1_0 a1_1 a1_2 a1_3).bind fun t414=>(impl_PriceValues.j0 k (!t414) a0_0 a0_1 a0_2 l0_3 l0_4 l0_5 a1_0 a1_1 a1_2 a1_3)) else (impl_PriceValues.j0 k true a0_0 a0_1 a0_2 l0_3 l0_4 l0_5 a1_0 a1_1 a1_2 a1_3))
set_option maxHeartbeats 8000000 in
set_option maxRecDepth 100000 in
theorem impl_PriceValues.calls (k:Nat) (a0_0:Int) (a0_1:Int) (a0_2:Int) (A0_3:Option Addr) (c0_3:Nat) (l0_3:List Int) (A0_4:Option Addr) (c0_4:Nat) (l0_4:List Int) (A0_5:Option Addr) (c0_5:Nat) (l0_5:List Int) (a1_0:Int) (a1_1:Int) (a1_2:Int) (a1_3:Int) (r1:List Int) (r2:Bool) (w:World) (hr0_3:Kd.C (Kd.int .i64) w A0_3 l0_3.length l0_3) (hc0_3:l0_3.length≤c0_3) (hr0_4:Kd.C (Kd.int .i64) w A0_4 l0_4.length l0_4) (hc0_4:l0_4.length≤c0_4) (hr0_5:Kd.C (Kd.int .i64) w A0_5 l0_5.length l0_5) (hc0_5:l0_5.length≤c0_5) (h:impl_PriceValues.f k a0_0 a0_1 a0_2 l0_3 l0_4 l0_5 a1_0 a1_1 a1_2 a1_3=some (r1,r2)) :
  Calls Try.prog 7 #[.agg #[.int .i64 a0_0,.int .i64 a0_1,.int .i64 a0_2,.slice A0_3 l0_3.length c0_3,.slice A0_4 l0_4.length c0_4,.slice A0_5 l0_5.length c0_5],.agg #[.int .i64 a1_0,.int .i64 a1_1,.int .i64 a1_2,.int .i64 a1_3]] w fun e w'=>∃ v0_:Value,e=.returned (.tuple #[v0_,.bool r2])∧Kd.R (Kd.int .i64) 3 w' w.heap.size (fun _=>True) v0_ r1∧Below w.heap.size w w':=by
 have hu27:=Try.underlying27;have hu29:=Try.underlying29;have HR0_3:=aM0 hr0_3;have HC0_3:=aM0 hc0_3;clear hr0_3 hc0_3;have HR0_4:=aM0 hr0_4;have HC0_4:=aM0 hc0_4;clear hr0_4 hc0_4;have HR0_5:=aM0 hr0_5;have HC0_5:=aM0 hc0_5;clear hr0_5 hc0_5;have HB:=aM0 (Below.refl w.heap.size w);have H:((impl_IsModel.f k a0_0 a0_1 a0_2 l0_3 l0_4 l0_5).bind fun t413=>(if t413=true then ((impl_ArePrices.f k a1_0 a1_1 a1_2 a1_3).bind fun t414=>(impl_PriceValues.j0 k (!t414) a0_0 a0_1 a0_2 l0_3 l0_4 l0_5 a1_0 a1_1 a1_2 a1_3)) else (impl_PriceValues.j0 k true a0_0 a0_1 a0_2 l0_3 l0_4 l0_5 a1_0 a1_1 a1_2 a1_3)))=some (r1,r2):=h;clear h;have HC3:=aM0 H;clear H;go_enter Try.func7,Try.ntmps7
 go_upto_region 1 with (first|((with_reducible refine gate_dst (N:=2) rfl ?_);refine box_event ?hg (N:=2) ?hd (cs:=#[.int .i64 a0_0,.int .i64 a0_1,.int .i64 a0_2,.slice A0_3 l0_3.length c0_3,.slice A0_4 l0_4.length c0_4,.slice A0_5 l0_5.length c0_5]) (t:=27) ?hr ?_;(case hd=>rfl);(case hg=>rfl);(case hr=>exact zyx0_23);intro gb411 hg w4 hbox hb;have n0_:=aM0 (bS0 (zyx0_0) hb);have n1_:=aM0 (hbox);have n2_:=aM0 ((zyx0_27:w.heap.size≤gb411));have n3_:=aM0 ((zyx0_27:w.heap.size≤gb411));clear HB;have HB:=n0_;have BK411:=n1_;have GW411:=n2_;have GE411:=n3_;clear n0_ n1_ n2_ n3_ hb hbox hg)|((with_reducible refine gate_dst (N:=3) rfl ?_);refine box_event ?hg (N:=3) ?hd (cs:=#[.int .i64 a1_0,.int .i64 a1_1,.int .i64 a1_2,.int .i64 a1_3]) (t:=29) ?hr ?_;(case hd=>rfl);(case hg=>rfl);(case hr=>exact zyx0_23);intro gb412 hg w5 hbox hb;have n0_:=aM0 (bB0 (g:=gb411) (o:=.cells #[.int .i64 a0_0,.int .i64 a0_1,.int .i64 a0_2,.slice A0_3 l0_3.length c0_3,.slice A0_4 l0_4.length c0_4,.slice A0_5 l0_5.length c0_5] 27 (0,0)) (zyx0_16) hb);have n1_:=aM0 (bS0 (zyx0_17) hb);have n2_:=aM0 (hbox);have n3_:=aM0 ((by rw [hg];exact (below_size (zyx0_17)):w.heap.size≤gb412));have n4_:=aM0 ((by rw [hg];exact (below_size (zyx0_17)):w.heap.size≤gb412));have n5_:=aM0 ((by rw [hg];exact Nat.ne_of_lt (blk_lt (g:=gb411) (o:=.cells #[.int .i64 a0_0,.int .i64 a0_1,.int .i64 a0_2,.slice A0_3 l0_3.length c0_3,.slice A0_4 l0_4.length c0_4,.slice A0_5 l0_5.length c0_5] 27 (0,0)) (zyx0_16)):gb411≠gb412));have n6_:=aM0 ((by rw [hg];exact Nat.ne_of_gt (blk_lt (g:=gb411) (o:=.cells #[.int .i64 a0_0,.int .i64 a0_1,.int .i64 a0_2,.slice A0_3 l0_3.length c0_3,.slice A0_4 l0_4.length c0_4,.slice A0_5 l0_5.length c0_5] 27 (0,0)) (zyx0_16)):gb412≠gb411));clear BK411 HB;have BK411:=n0_;have HB:=n1_;have BK412:=n2_;have GW412:=n3_;have GE412:=n4_;have NB411_412:=n5_;have NB412_411:=n6_;clear n0_ n1_ n2_ n3_ n4_ n5_ n6_ hb hbox hg))
 (try simp only [Act.put,List.setIfInBounds_toArray,List.set_cons_zero,List.set_cons_succ])
 go_cut [15] (fun v15 wc=>∃ (kq:Nat) (x15_2:Bool),v15=.bool x15_2∧Aside0 (impl_PriceValues.j0 kq x15_2 a0_0 a0_1 a0_2 l0_3 l0_4 l0_5 a1_0 a1_1 a1_2 a1_3=some (r1,r2))∧Aside0 (kq≤k)∧Aside0 (wc.heap[gb411]?=some (.cells #[.int .i64 a0_0,.int .i64 a0_1,.int .i64 a0_2,(.slice A0_3 l0_3.length c0_3),(.slice A0_4 l0_4.length c0_4),(.slice A0_5 l0_5.length c0_5)] 27 (0,0)))∧Aside0 (wc.heap[gb412]?=some (.cells #[.int .i64 a1_0,.int .i64 a1_1,.int .i64 a1_2,.int .i64 a1_3] 29 (0,0)))∧Aside0 (Below w.heap.size w wc))
 case first =>
  have H:=HC3.out;clear HC3;replace H:=bI0.mp H;obtain ⟨t413,A60,H⟩:=H;(try dsimp only at H);have A6:=aM0 A60;clear A60
  by_cases c7:t413=true
  ·subst c7
   rw [if_pos rfl] at H;(try dsimp only at H);replace H:=bI0.mp H;obtain ⟨t414,A80,H⟩:=H;(try dsimp only at H);have A8:=aM0 A80;clear A80;have H':=aM0 H;clear H;have hnb9:=NB411_412.out;have hnc9:=NB412_411.out;obtain ⟨hcz10_0,hfz10_0,hcz10_1,hfz10_1,hcz10_2,hfz10_2,hcz10_3,hfz10_3,hcz10_4,hfz10_4,hcz10_5,hfz10_5⟩:=cf6 BK411.out
   go_wp2_with (first|((with_reducible refine gC0 (f:=24) rfl ?_);refine goesL_ (some 9) rfl rfl Try.func24 (by kernel_rfl) rfl #[.agg #[.int .i64 a0_0,.int .i64 a0_1,.int .i64 a0_2,.slice A0_3 l0_3.length c0_3,.slice A0_4 l0_4.length c0_4,.slice A0_5 l0_5.length c0_5]] rfl (zyx0_7) ?_;(with_reducible refine (impl_IsModel.calls k a0_0 a0_1 a0_2 _ _ l0_3 _ _ l0_4 _ _ l0_5 true _ ?side1 ?side2 ?side3 ?side4 ?side5 ?side6 A6.out).mono ?_);(case side1=>exact zyx0_24);(case side2=>exact HC0_3.out);(case side3=>exact zyx0_25);(case side4=>exact HC0_4.out);(case side5=>exact zyx0_26);(case side6=>exact HC0_5.out);rintro e w11 ⟨rfl,hb⟩;refine ⟨_,rfl,?_⟩;have n0_:=aM0 (bB0 (g:=gb411) (o:=.cells #[.int .i64 a0_0,.int .i64 a0_1,.int .i64 a0_2,.slice A0_3 l0_3.length c0_3,.slice A0_4 l0_4.length c0_4,.slice A0_5 l0_5.length c0_5] 27 (0,0)) (zyx0_16) hb);have n1_:=aM0 (bB0 (g:=gb412) (o:=.cells #[.int .i64 a1_0,.int .i64 a1_1,.int .i64 a1_2,.int .i64 a1_3] 29 (0,0)) (zyx0_18) hb);have n2_:=aM0 (bS0 (zyx0_19) hb);clear BK411 BK412 HB;have BK411:=n0_;have BK412:=n1_;have HB:=n2_;clear n0_ n1_ n2_;(try clear hb);(try clear hb2);(try clear hk);(try clear hi);obtain ⟨hcz12_0,hfz12_0,hcz12_1,hfz12_1,hcz12_2,hfz12_2,hcz12_3,hfz12_3⟩:=cf4 BK412.out)|(go_at_call 18;(with_reducible refine (impl_ArePrices.calls k a1_0 a1_1 a1_2 a1_3 t414 _ A8.out).mono ?_);rintro e w13 ⟨rfl,hb⟩;have n0_:=aM0 (bB0 (g:=gb411) (o:=.cells #[.int .i64 a0_0,.int .i64 a0_1,.int .i64 a0_2,.slice A0_3 l0_3.length c0_3,.slice A0_4 l0_4.length c0_4,.slice A0_5 l0_5.length c0_5] 27 (0,0)) (zyx0_16) hb);have n1_:=aM0 (bB0 (g:=gb412) (o:=.cells #[.int .i64 a1_0,.int .i64 a1_1,.int .i64 a1_2,.int .i64 a1_3] 29 (0,0)) (zyx0_18) hb);have n2_:=aM0 (bS0 (zyx0_19) hb);clear BK411 BK412 HB;have BK411:=n0_;have BK412:=n1_;have HB:=n2_;clear n0_ n1_ n2_;(try clear hb);(try clear hb2);(try clear hk);(try clear hi)))
   go_meet
   case rel=>exact ⟨_,(!t414),(zyx0_3),H',⟨by first|omega|exact Nat.le_refl _⟩,⟨zyx0_16⟩,⟨zyx0_18⟩,⟨zyx0_19⟩⟩
  ·replace c7:=Bool.eq_false_iff.mpr c7
   subst c7;rw [if_neg (show ¬ (false=true) by decide)] at H;(try dsimp only at H);have H':=aM0 H;clear H;have hnb14:=NB411_412.out;have hnc14:=NB412_411.out;obtain ⟨hcz15_0,hfz15_0,hcz15_1,hfz15_1,hcz15_2,hfz15_2,hcz15_3,hfz15_3,hcz15_4,hfz15_4,hcz15_5,hfz15_5⟩:=cf6 BK411.out
   go_wp2_with (first|((with_reducible refine gC0 (f:=24) rfl ?_);refine goesL_ (some 9) rfl rfl Try.func24 (by kernel_rfl) rfl #[.agg #[.int .i64 a0_0,.int .i64 a0_1,.int .i64 a0_2,.slice A0_3 l0_3.length c0_3,.slice A0_4 l0_4.length c0_4,.slice A0_5 l0_5.length c0_5]] rfl (zyx0_7) ?_;(with_reducible refine (impl_IsModel.calls k a0_0 a0_1 a0_2 _ _ l0_3 _ _ l0_4 _ _ l0_5 false _ ?side1 ?side2 ?side3 ?side4 ?side5 ?side6 A6.out).mono ?_);(case side1=>exact zyx0_24);(case side2=>exact HC0_3.out);(case side3=>exact zyx0_25);(case side4=>exact HC0_4.out);(case side5=>exact zyx0_26);(case side6=>exact HC0_5.out);rintro e w16 ⟨rfl,hb⟩;refine ⟨_,rfl,?_⟩;have n0_:=aM0 (bB0 (g:=gb411) (o:=.cells #[.int .i64 a0_0,.int .i64 a0_1,.int .i64 a0_2,.slice A0_3 l0_3.length c0_3,.slice A0_4 l0_4.length c0_4,.slice A0_5 l0_5.length c0_5] 27 (0,0)) (zyx0_16) hb);have n1_:=aM0 (bB0 (g:=gb412) (o:=.cells #[.int .i64 a1_0,.int .i64 a1_1,.int .i64 a1_2,.int .i64 a1_3] 29 (0,0)) (zyx0_18) hb);have n2_:=aM0 (bS0 (zyx0_19) hb);clear BK411 BK412 HB;have BK411:=n0_;have BK412:=n1_;have HB:=n2_;clear n0_ n1_ n2_;(try clear hb);(try clear hb2);(try clear hk);(try clear hi)))
   go_meet
   case rel=>exact ⟨_,(true),(zyx0_3),H',⟨by first|omega|exact Nat.le_refl _⟩,⟨zyx0_16⟩,⟨zyx0_18⟩,⟨zyx0_19⟩⟩
 case rest =>
  clear HC3;(try clear c1);(try clear c2);(try clear p2);(try clear c7);(try clear c9);(try clear c14);(try clear hcz10_0);(try clear hcz10_1);(try clear hcz10_2);(try clear hcz10_3);(try clear hcz10_4);(try clear hcz10_5);(try clear hcz12_0);(try clear hcz12_1);(try clear hcz12_2);(try clear hcz12_3);(try clear hcz15_0);(try clear hcz15_1);(try clear hcz15_2);(try clear hcz15_3);(try clear hcz15_4);(try clear hcz15_5);(try clear hfz10_0);(try clear hfz10_1);(try clear hfz10_2);(try clear hfz10_3);(try clear hfz10_4);(try clear hfz10_5);(try clear hfz12_0);(try clear hfz12_1);(try clear hfz12_2);(try clear hfz12_3);(try clear hfz15_0);(try clear hfz15_1);(try clear hfz15_2);(try clear hfz15_3);(try clear hfz15_4);(try clear hfz15_5);obtain ⟨kq,x15_2,rfl,HA,HJ2,BK411,BK412,HB⟩:=hcut
  cases kq with
  | zero=>exact absurd HA.out (by simp [impl_PriceValues.j0])
  | succ kj2 =>
   have H:=HA.out;clear HA;simp only [impl_PriceValues.j0] at H
   by_cases c17:x15_2=true
   ·subst c17
    rw [if_pos rfl] at H;(try dsimp only at H);simp only [Option.some.injEq,Prod.mk.injEq] at H;obtain ⟨rfl,rfl⟩:=H
    go_wp2
    go_ret2
    exact ⟨_,zyx0_5,by first|exact Kd.R_nil _ _ _ _ _|exact Kd.N_nil _ _ _ _ _|exact Kd.V_nil _ _ _ _ _|exact Kd.Q_nil _ _ _ _ _|exact Kd.S_nil _ _ _ _ _,zyx0_19⟩
   ·replace c17:=Bool.eq_false_iff.mpr c17
    subst c17;rw [if_neg (show ¬ (false=true) by decide)] at H;(try dsimp only at H);obtain ⟨y415,hy415⟩:∃ y_:List Int,y_=(([]:List Int)):=⟨_,rfl⟩
    replace H:(impl_PriceValues.l0 kj2 y415 (l0_3.length:Int) 0 a0_0 a0_1 a0_2 l0_3 l0_4 l0_5 a1_0 a1_1 a1_2 a1_3)=some (r1,r2):=by first|(rw [hy415];with_reducible exact H)|(have H2_:=(Option.bind_some _ _).symm.trans H;rw [hy415];with_reducible exact H2_)|(have H2_:=(Option.bind_some _ _).symm.trans H;with_reducible exact H2_)|with_reducible exact H|(rw [hy415];exact H)|exact H
    have Ny415:=aM0 hy415;clear hy415;have H':=aM0 H;clear H
    go_wp2_with (first|((with_reducible refine gate_dst (N:=16) rfl ?_);refine Kd.R_lit (Kd.int .i64) _ 3 ?hg (N:=16) ?hd (xs:=([]:List Int)) (inner:=[]) (ok:=fun _=>True) (okp:=fun _=>True) ?hr ?hp (fun _ hk=>hk) trivial (Below.refl _ _) (Nat.le_refl _) (by simp) ?_;(case hd=>rfl);(case hg=>rfl);(case hr=>exact zyx0_23);(case hp=>exact (Reps.none _ _));intro v416 w18 ho19 hb hg_ hnew_;clear hg_ hnew_;(first|rw [← Ny415.out] at ho19|(simp only [Int.reduceToNat] at ho19;rw [← Ny415.out] at ho19));have n0_:=aM0 (Kd.R_lower ho19 (below_size (zyx0_19)));have n1_:=aM0 (bB0 (g:=gb411) (o:=.cells #[.int .i64 a0_0,.int .i64 a0_1,.int .i64 a0_2,.slice A0_3 l0_3.length c0_3,.slice A0_4 l0_4.length c0_4,.slice A0_5 l0_5.length c0_5] 27 (0,0)) (zyx0_16) hb);have n2_:=aM0 (bB0 (g:=gb412) (o:=.cells #[.int .i64 a1_0,.int .i64 a1_1,.int .i64 a1_2,.int .i64 a1_3] 29 (0,0)) (zyx0_18) hb);have n3_:=aM0 (bS0 (zyx0_19) hb);clear BK411 BK412 HB;have HO417:=n0_;have BK411:=n1_;have BK412:=n2_;have HB:=n3_;clear n0_ n1_ n2_ n3_ hb ho19;have hnb20:=NB411_412.out;have hnc20:=NB412_411.out;obtain ⟨hcz21_0,hfz21_0,hcz21_1,hfz21_1,hcz21_2,hfz21_2,hcz21_3,hfz21_3,hcz21_4,hfz21_4,hcz21_5,hfz21_5⟩:=cf6 BK411.out))
    go_loopg [6,20] kj2 (fun kq v6 v20 w'=>∃ (x6_2:List Int) (x20_2:Int),v20=.int .i64 x20_2∧Aside0 (impl_PriceValues.l0 kq x6_2 (l0_3.length:Int) x20_2 a0_0 a0_1 a0_2 l0_3 l0_4 l0_5 a1_0 a1_1 a1_2 a1_3=some (r1,r2))∧Aside0 (kq≤kj2)∧Aside0 (Kd.R (Kd.int .i64) 3 w' w.heap.size (fun _=>True) v6 x6_2)∧Aside0 (w'.heap[gb411]?=some (.cells #[.int .i64 a0_0,.int .i64 a0_1,.int .i64 a0_2,(.slice A0_3 l0_3.length c0_3),(.slice A0_4 l0_4.length c0_4),(.slice A0_5 l0_5.length c0_5)] 27 (0,0)))∧Aside0 (w'.heap[gb412]?=some (.cells #[.int .i64 a1_0,.int .i64 a1_1,.int .i64 a1_2,.int .i64 a1_3] 29 (0,0)))∧Aside0 (Below w.heap.size w w'))
    case atStart=>exact ⟨(y415),(0),(zyx0_3),H',⟨Nat.le_refl _⟩,⟨by (with_reducible repeat (first|apply Kd.R_alloc|apply Kd.R_drewN|apply Kd.R_drew));exact HO417.out⟩,⟨zyx0_16⟩,⟨zyx0_18⟩,⟨zyx0_19⟩⟩
    case round =>
     clear H';(try clear c1);(try clear c2);(try clear p2);(try clear c7);(try clear c9);(try clear c14);(try clear c17);(try clear c20);(try clear hcz10_0);(try clear hcz10_1);(try clear hcz10_2);(try clear hcz10_3);(try clear hcz10_4);(try clear hcz10_5);(try clear hcz12_0);(try clear hcz12_1);(try clear hcz12_2);(try clear hcz12_3);(try clear hcz15_0);(try clear hcz15_1);(try clear hcz15_2);(try clear hcz15_3);(try clear hcz15_4);(try clear hcz15_5);(try clear hcz21_0);(try clear hcz21_1);(try clear hcz21_2);(try clear hcz21_3);(try clear hcz21_4);(try clear hcz21_5);(try clear hfz10_0);(try clear hfz10_1);(try clear hfz10_2);(try clear hfz10_3);(try clear hfz10_4);(try clear hfz10_5);(try clear hfz12_0);(try clear hfz12_1);(try clear hfz12_2);(try clear hfz12_3);(try clear hfz15_0);(try clear hfz15_1);(try clear hfz15_2);(try clear hfz15_3);(try clear hfz15_4);(try clear hfz15_5);(try clear hfz21_0);(try clear hfz21_1);(try clear hfz21_2);(try clear hfz21_3);(try clear hfz21_4);(try clear hfz21_5);(try clear p2);obtain ⟨x6_2,x20_2,rfl,HA,HK2,HO_6,BK411,BK412,HB⟩:=hrel
     cases gk with
     | zero=>exact absurd HA.out (by simp [impl_PriceValues.l0])
     | succ k2 =>
      have H:=HA.out;clear HA;simp only [impl_PriceValues.l0] at H
      by_cases c22:x20_2 < (l0_3.length:Int)
      ·rw [if_pos c22] at H
       have c22b0:decide (x20_2 < (l0_3.length:Int))=true:=dT0 c22;clear c22;replace H:=bI0.mp H;obtain ⟨t418,A230,H⟩:=H;(try dsimp only at H);have A23:=aM0 A230;clear A230
       by_cases c24:x6_2.length < 17592186044416
       ·rw [if_pos c24] at H
        have LMc24:=aM0 c24;clear c24;obtain ⟨y419,hy419⟩:∃ y_:List Int,y_=(x6_2 ++ [t418]):=⟨_,rfl⟩
        replace H:(impl_PriceValues.l0 k2 y419 (l0_3.length:Int) (wrap64 (x20_2 + 1)) a0_0 a0_1 a0_2 l0_3 l0_4 l0_5 a1_0 a1_1 a1_2 a1_3)=some (r1,r2):=by first|(rw [hy419];with_reducible exact H)|(have H2_:=(Option.bind_some _ _).symm.trans H;rw [hy419];with_reducible exact H2_)|(have H2_:=(Option.bind_some _ _).symm.trans H;with_reducible exact H2_)|with_reducible exact H|(rw [hy419];exact H)|exact H
        have Ny419:=aM0 hy419;clear hy419;have H':=aM0 H;clear H;have hnb25:=NB411_412.out;have hnc25:=NB412_411.out;obtain ⟨hcz26_0,hfz26_0,hcz26_1,hfz26_1,hcz26_2,hfz26_2,hcz26_3,hfz26_3,hcz26_4,hfz26_4,hcz26_5,hfz26_5⟩:=cf6 BK411.out;obtain ⟨hcz27_0,hfz27_0,hcz27_1,hfz27_1,hcz27_2,hfz27_2,hcz27_3,hfz27_3⟩:=cf4 BK412.out
        go_wp2_with (first|((with_reducible refine gC0 (f:=25) rfl ?_);refine goesL_ (some 27) rfl rfl Try.func25 (by kernel_rfl) rfl #[.agg #[.int .i64 a0_0,.int .i64 a0_1,.int .i64 a0_2,.slice A0_3 l0_3.length c0_3,.slice A0_4 l0_4.length c0_4,.slice A0_5 l0_5.length c0_5],.agg #[.int .i64 a1_0,.int .i64 a1_1,.int .i64 a1_2,.int .i64 a1_3],.int .i64 x20_2] rfl (zyx0_7) ?_;(with_reducible refine (impl_priceValue.calls a0_0 a0_1 a0_2 _ _ l0_3 _ _ l0_4 _ _ l0_5 a1_0 a1_1 a1_2 a1_3 x20_2 t418 _ ?side1 ?side2 ?side3 ?side4 ?side5 ?side6 A23.out).mono ?_);(case side1=>exact zyx0_24);(case side2=>exact HC0_3.out);(case side3=>exact zyx0_25);(case side4=>exact HC0_4.out);(case side5=>exact zyx0_26);(case side6=>exact HC0_5.out);rintro e w28 ⟨rfl,hb⟩;refine ⟨_,rfl,?_⟩;have n0_:=aM0 (Kd.R_below (zyx0_20) hb);have n1_:=aM0 (bB0 (g:=gb411) (o:=.cells #[.int .i64 a0_0,.int .i64 a0_1,.int .i64 a0_2,.slice A0_3 l0_3.length c0_3,.slice A0_4 l0_4.length c0_4,.slice A0_5 l0_5.length c0_5] 27 (0,0)) (zyx0_16) hb);have n2_:=aM0 (bB0 (g:=gb412) (o:=.cells #[.int .i64 a1_0,.int .i64 a1_1,.int .i64 a1_2,.int .i64 a1_3] 29 (0,0)) (zyx0_18) hb);have n3_:=aM0 (bS0 (zyx0_19) hb);clear HO_6 BK411 BK412 HB;have HO_6:=n0_;have BK411:=n1_;have BK412:=n2_;have HB:=n3_;clear n0_ n1_ n2_ n3_;(try clear hb);(try clear hb2);(try clear hk);(try clear hi))|((with_reducible refine gate_builtin (b:=.append) (xs:=#[.tmp 23,.tmp 28]) rfl ?_);at_builtin;refine Kd.R_append (Kd.int .i64) (w0:=w) w.heap.size rfl (.tmp 23) (.tmp 28) 25 3 (.int .i64 0) 8 rfl Try.underlying25 info3 rfl (by decide) (by omega) u6 x6_2 t418 [.int .i64 t418] (fun _=>True) (fun _=>False) rfl rfl ?aP (fun _ hk=>hk.elim) ?aF ?aO ?aB ?aS ?aL ?_;(case aP=>exact rfl);(case aB=>exact (zyx0_19));(case aF=>exact (fun _ _=>trivial));(case aO=>exact (zyx0_20));(case aS=>exact (below_size (zyx0_19)));(case aL=>have:=LMc24.out;omega);intro v420 w29 ho hb hg hat;rw [← Ny419.out] at ho;have n0_:=aM0 (blk_grown (g:=gb411) (o:=.cells #[.int .i64 a0_0,.int .i64 a0_1,.int .i64 a0_2,.slice A0_3 l0_3.length c0_3,.slice A0_4 l0_4.length c0_4,.slice A0_5 l0_5.length c0_5] 27 (0,0)) (zyx0_16) hg (Kd.R_ne HO_6.out BK411.out (by decide)));have n1_:=aM0 (blk_grown (g:=gb412) (o:=.cells #[.int .i64 a1_0,.int .i64 a1_1,.int .i64 a1_2,.int .i64 a1_3] 29 (0,0)) (zyx0_18) hg (Kd.R_ne HO_6.out BK412.out (by decide)));have n2_:=aM0 (hb);have n3_:=aM0 (ho);clear BK411 BK412 HB HO_6;have BK411:=n0_;have BK412:=n1_;have HB:=n2_;have HO421:=n3_;clear n0_ n1_ n2_ n3_ ho hb hg hat))
        go_roundg k2
        case measure=>have:=HJ2.out;have:=HK2.out;omega
        case rel=>exact ⟨(y419),(wrap64 (x20_2 + 1)),(zyx0_3),H',⟨by have:=HJ2.out;have:=HK2.out;omega⟩,⟨by (with_reducible repeat (first|apply Kd.R_alloc|apply Kd.R_drewN|apply Kd.R_drew));exact HO421.out⟩,⟨zyx0_16⟩,⟨zyx0_18⟩,⟨zyx0_19⟩⟩
       ·rw [if_neg c24] at H
        exact absurd H (by simp)
      ·rw [if_neg c22] at H
       have c22b0:decide (x20_2 < (l0_3.length:Int))=false:=decide_eq_false c22;clear c22;simp only [Option.some.injEq,Prod.mk.injEq] at H;obtain ⟨rfl,rfl⟩:=H
       go_wp2
       go_ret2
       exact ⟨_,zyx0_5,zyx0_20,zyx0_19⟩
def impl_CutOff.l0:Nat→Int→Int→Int→Int→Int→Option (Int × Bool)
 | 0,_,_,_,_,_=>none
 | k + 1,x4,x740000,x740001,x740002,x740003=>if x4≤1000 then (if (wrap64 ((wrap64 (x4 * x740001)) * x740000)) ≥ (wrap64 (1000 * x740002)) then (some (x4,true)) else (impl_CutOff.l0 k (wrap64 (x4 + 1)) x740000 x740001 x740002 x740003)) else (some (0,false))
def impl_CutOff.f (k:Nat) (a0_0:Int) (a0_1:Int) (a0_2:Int) (a0_3:Int):Option (Int × Bool):=(impl_ArePrices.f k a0_0 a0_1 a0_2 a0_3).bind fun t740=>(if t740=true then (impl_CutOff.l0 k 0 a0_0 a0_1 a0_2 a0_3) else (some (0,false)))
set_option maxHeartbeats 8000000 in
set_option maxRecDepth 100000 in
theorem impl_CutOff.calls (k:Nat) (a0_0:Int) (a0_1:Int) (a0_2:Int) (a0_3:Int) (r1:Int) (r2:Bool) (w:World) (h:impl_CutOff.f k a0_0 a0_1 a0_2 a0_3=some (r1,r2)) :
  Calls Try.prog 15 #[.agg #[.int .i64 a0_0,.int .i64 a0_1,.int .i64 a0_2,.int .i64 a0_3]] w fun e w'=>e=.returned (.tuple #[.int .i64 r1,.bool r2])∧Below w.heap.size w w':=by
 have hu29:=Try.underlying29;have HB:=aM0 (Below.refl w.heap.size w);have H:((impl_ArePrices.f k a0_0 a0_1 a0_2 a0_3).bind fun t740=>(if t740=true then (impl_CutOff.l0 k 0 a0_0 a0_1 a0_2 a0_3) else (some (0,false))))=some (r1,r2):=h;clear h;replace H:=bI0.mp H;obtain ⟨t740,A20,H⟩:=H;(try dsimp only at H);have A2:=aM0 A20;clear A20
 by_cases c3:t740=true
 ·subst c3
  rw [if_pos rfl] at H;(try dsimp only at H);have H':=aM0 H;clear H;go_enter Try.func15,Try.ntmps15
  go_wp2_with (first|((with_reducible refine gate_dst (N:=1) rfl ?_);refine box_event ?hg (N:=1) ?hd (cs:=#[.int .i64 a0_0,.int .i64 a0_1,.int .i64 a0_2,.int .i64 a0_3]) (t:=29) ?hr ?_;(case hd=>rfl);(case hg=>rfl);(case hr=>exact zyx0_23);intro gb739 hg w4 hbox hb;have n0_:=aM0 (bS0 (zyx0_0) hb);have n1_:=aM0 (hbox);have n2_:=aM0 ((zyx0_27:w.heap.size≤gb739));have n3_:=aM0 ((zyx0_27:w.heap.size≤gb739));clear HB;have HB:=n0_;have BK739:=n1_;have GW739:=n2_;have GE739:=n3_;clear n0_ n1_ n2_ n3_ hb hbox hg;obtain ⟨hcz5_0,hfz5_0,hcz5_1,hfz5_1,hcz5_2,hfz5_2,hcz5_3,hfz5_3⟩:=cf4 BK739.out)|((with_reducible refine gC0 (f:=18) rfl ?_);refine goesL_ (some 6) rfl rfl Try.func18 (by kernel_rfl) rfl #[.agg #[.int .i64 a0_0,.int .i64 a0_1,.int .i64 a0_2,.int .i64 a0_3]] rfl (zyx0_7) ?_;(with_reducible refine (impl_ArePrices.calls k a0_0 a0_1 a0_2 a0_3 true _ A2.out).mono ?_);rintro e w6 ⟨rfl,hb⟩;refine ⟨_,rfl,?_⟩;have n0_:=aM0 (bB0 (g:=gb739) (o:=.cells #[.int .i64 a0_0,.int .i64 a0_1,.int .i64 a0_2,.int .i64 a0_3] 29 (0,0)) (zyx0_21) hb);have n1_:=aM0 (bS0 (zyx0_22) hb);clear BK739 HB;have BK739:=n0_;have HB:=n1_;clear n0_ n1_;(try clear hb);(try clear hb2);(try clear hk);(try clear hi)))
  go_loopg [4] k (fun kq v4 w'=>∃ (x4_1:Int),v4=.int .i64 x4_1∧Aside0 (impl_CutOff.l0 kq x4_1 a0_0 a0_1 a0_2 a0_3=some (r1,r2))∧Aside0 (kq≤k)∧Aside0 (w'.heap[gb739]?=some (.cells #[.int .i64 a0_0,.int .i64 a0_1,.int .i64 a0_2,.int .i64 a0_3] 29 (0,0)))∧Aside0 (Below w.heap.size w w'))
  case atStart=>exact ⟨(0),(zyx0_3),H',⟨Nat.le_refl _⟩,⟨zyx0_21⟩,⟨zyx0_22⟩⟩
  case round =>
   clear H';(try clear c1);(try clear p2);(try clear c3);(try clear hcz5_0);(try clear hcz5_1);(try clear hcz5_2);(try clear hcz5_3);(try clear hfz5_0);(try clear hfz5_1);(try clear hfz5_2);(try clear hfz5_3);obtain ⟨x4_1,rfl,HA,HK1,BK739,HB⟩:=hrel
   cases gk with
   | zero=>exact absurd HA.out (by simp [impl_CutOff.l0])
   | succ k1 =>
    have H:=HA.out;clear HA;simp only [impl_CutOff.l0] at H
    by_cases c7:x4_1≤1000
    ·rw [if_pos c7] at H
     have c7b0:decide (x4_1≤1000)=true:=dT0 c7;clear c7
     by_cases c8:(wrap64 ((wrap64 (x4_1 * a0_1)) * a0_0)) ≥ (wrap64 (1000 * a0_2))
     ·rw [if_pos c8] at H
      have c8b0:decide ((wrap64 (1000 * a0_2))≤(wrap64 ((wrap64 (x4_1 * a0_1)) * a0_0)))=true:=dT0 c8;clear c8;simp only [Option.some.injEq,Prod.mk.injEq] at H;obtain ⟨rfl,rfl⟩:=H;obtain ⟨hcz9_0,hfz9_0,hcz9_1,hfz9_1,hcz9_2,hfz9_2,hcz9_3,hfz9_3⟩:=cf4 BK739.out
      go_wp2
      go_ret2
      exact ⟨zyx0_5,zyx0_22⟩
     ·rw [if_neg c8] at H
      have c8b0:decide ((wrap64 (1000 * a0_2))≤(wrap64 ((wrap64 (x4_1 * a0_1)) * a0_0)))=false:=decide_eq_false c8;clear c8;have H':=aM0 H;clear H;obtain ⟨hcz10_0,hfz10_0,hcz10_1,hfz10_1,hcz10_2,hfz10_2,hcz10_3,hfz10_3⟩:=cf4 BK739.out
      go_wp2
      go_roundg k1
      case measure=>have:=HK1.out;omega
      case rel=>exact ⟨(wrap64 (x4_1 + 1)),(zyx0_3),H',⟨by have:=HK1.out;omega⟩,⟨zyx0_21⟩,⟨zyx0_22⟩⟩
    ·rw [if_neg c7] at H
     have c7b0:decide (x4_1≤1000)=false:=decide_eq_false c7;clear c7;simp only [Option.some.injEq,Prod.mk.injEq] at H;obtain ⟨rfl,rfl⟩:=H
     go_wp2
     go_ret2
     exact ⟨zyx0_5,zyx0_22⟩
 ·replace c3:=Bool.eq_false_iff.mpr c3
  subst c3;rw [if_neg (show ¬ (false=true) by decide)] at H;(try dsimp only at H);simp only [Option.some.injEq,Prod.mk.injEq] at H;obtain ⟨rfl,rfl⟩:=H;go_enter Try.func15,Try.ntmps15
  go_wp2_with (first|((with_reducible refine gate_dst (N:=1) rfl ?_);refine box_event ?hg (N:=1) ?hd (cs:=#[.int .i64 a0_0,.int .i64 a0_1,.int .i64 a0_2,.int .i64 a0_3]) (t:=29) ?hr ?_;(case hd=>rfl);(case hg=>rfl);(case hr=>exact zyx0_23);intro gb739 hg w11 hbox hb;have n0_:=aM0 (bS0 (zyx0_0) hb);have n1_:=aM0 (hbox);have n2_:=aM0 ((zyx0_27:w.heap.size≤gb739));have n3_:=aM0 ((zyx0_27:w.heap.size≤gb739));clear HB;have HB:=n0_;have BK739:=n1_;have GW739:=n2_;have GE739:=n3_;clear n0_ n1_ n2_ n3_ hb hbox hg;obtain ⟨hcz12_0,hfz12_0,hcz12_1,hfz12_1,hcz12_2,hfz12_2,hcz12_3,hfz12_3⟩:=cf4 BK739.out)|((with_reducible refine gC0 (f:=18) rfl ?_);refine goesL_ (some 6) rfl rfl Try.func18 (by kernel_rfl) rfl #[.agg #[.int .i64 a0_0,.int .i64 a0_1,.int .i64 a0_2,.int .i64 a0_3]] rfl (zyx0_7) ?_;(with_reducible refine (impl_ArePrices.calls k a0_0 a0_1 a0_2 a0_3 false _ A2.out).mono ?_);rintro e w13 ⟨rfl,hb⟩;refine ⟨_,rfl,?_⟩;have n0_:=aM0 (bB0 (g:=gb739) (o:=.cells #[.int .i64 a0_0,.int .i64 a0_1,.int .i64 a0_2,.int .i64 a0_3] 29 (0,0)) (zyx0_21) hb);have n1_:=aM0 (bS0 (zyx0_22) hb);clear BK739 HB;have BK739:=n0_;have HB:=n1_;clear n0_ n1_;(try clear hb);(try clear hb2);(try clear hk);(try clear hi)))
  go_ret2
  exact ⟨zyx0_5,zyx0_22⟩
end Go.Proofs.Ytahhiedlkegkgaa.PFnMoney
end
