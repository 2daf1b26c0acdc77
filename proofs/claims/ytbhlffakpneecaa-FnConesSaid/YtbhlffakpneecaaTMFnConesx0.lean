/- Texts that print.sh has printed for the law FnCones,one function each,put together in one file: contracts of its functions. -/
import Derived.Test.YtbhlffakpneecaaProg
import Derived.Below
import Derived.Deep.Draws
import Derived.Deep.AppendLies
import Derived.Maps.AppendAt
import Derived.OwnWalk
import Derived.Laws.BytesArg
import Derived.Laws.MakeOwn
import Derived.Laws.OwnMore
import Derived.Deep.OwnRows
import Derived.Tactics
import Derived.Lib.ConvBytes
import Derived.Laws.Slices
import Derived.WalkKit
import Derived.KernelRfl
import Derived.RowKit3
import Derived.Deep.LoopGhost
import Derived.Deep.QuietTactic
import Derived.BigQuiet
import Derived.WideLaws
import Derived.Deep.DeepCutAuto
import Derived.Deep.CutBlock
import Derived.Deep.RegionHeld3
import Derived.Laws.Rows
import Derived.Lib.AppendStr
import Derived.ArgAppend
import Derived.Laws.IdiomCopy
import Derived.OrdersHeld
import Derived.Laws.BitsLemmas
import Derived.RowKit
import Derived.Test.YtbhlffakpneecaaTWWords
import Derived.Test.YtbhlffakpneecaaTWLast
import Derived.Test.YtbhlffakpneecaaTWTab
import Derived.Test.YtbhlffakpneecaaTWFour
import Derived.Test.YtbhlffakpneecaaTWQPut
import Derived.Test.YtbhlffakpneecaaTWApart
import Derived.Test.YtbhlffakpneecaaTWArr
import Derived.Test.YtbhlffakpneecaaTWZeros
import Derived.Test.YtbhlffakpneecaaTWFoot
import Derived.Test.YtbhlffakpneecaaTWKept
import Derived.Test.YtbhlffakpneecaaTWShare
import Derived.Test.YtbhlffakpneecaaTWN
import Derived.Test.YtbhlffakpneecaaTWFootNe
import Derived.Test.YtbhlffakpneecaaTWAt
import Derived.Test.YtbhlffakpneecaaTWEqStruct
import Derived.Test.YtbhlffakpneecaaTWRepsOne
import Derived.Test.YtbhlffakpneecaaTWInv
import Derived.Test.YtbhlffakpneecaaTWInvWords
import Derived.Test.YtbhlffakpneecaaTWGuard
import Derived.Test.YtbhlffakpneecaaTWNEv
import Derived.Test.YtbhlffakpneecaaTWMore
section
namespace Go.Proofs.Ytbhlffakpneecaa.PFnCones
open Go.RowKit Go.Proofs.YtbhlffakpneecaaW.PrintWords Go.Proofs.YtbhlffakpneecaaW.PrintLast Go.Proofs.YtbhlffakpneecaaW.PrintMore
attribute [local go_sem] max2_int min2_int max_two min_two max_three min_three max_four min_four   -- for this text's walks alone
set_option linter.unusedVariables false
set_option linter.unusedSimpArgs false
theorem aM0:type_of% @Aside0.mk:=@Aside0.mk
theorem uA0:type_of% @List.setIfInBounds_toArray.{0}:=@List.setIfInBounds_toArray.{0}
theorem uB0:type_of% @List.set_cons_zero.{0}:=@List.set_cons_zero.{0}
theorem uC0:type_of% @List.set_cons_succ.{0}:=@List.set_cons_succ.{0}
theorem oD0:type_of% @of_decide_eq_true:=@of_decide_eq_true
theorem dT0:type_of% @decide_eq_true:=@decide_eq_true
theorem bI0:type_of% @Option.bind_eq_some_iff.{0,0}:=@Option.bind_eq_some_iff.{0,0}
theorem bL0:type_of% @World.block_lt_of_cell?:=@World.block_lt_of_cell?
theorem kT0:type_of% @KeepBut.trans:=@KeepBut.trans
theorem bC0:type_of% @blk_cell:=@blk_cell
theorem bZ0:type_of% @below_size:=@below_size
theorem zsx0_0 {P:Prop} (h:P:=by first|(with_reducible assumption)|assumption):P:=h
theorem zsx0_1 {P:Prop} (h:P:=by first|rfl|(simp [errW_none,errW_some] <;> rfl)|(simp [*,errW_none,errW_some] <;> rfl)):P:=h
theorem zsx0_2 {P:Prop} (h:P:=by first|exact IsS61.drewN (IsS61.set_2 (IsS61.set_1 (IsS61.drewN HI0.out _) _) _) _|exact IsS61.set_2 (IsS61.set_1 (IsS61.drewN HI0.out _) _) _|exact IsS61.drewN (IsS61.set_2 (IsS61.set_1 HI0.out _) _) _|exact IsS61.set_2 (IsS61.set_1 HI0.out _) _|(rw [Int.add_zero];first|exact IsS61.drewN (IsS61.set_2 (IsS61.set_1 (IsS61.drewN HI0.out _) _) _) _|exact IsS61.set_2 (IsS61.set_1 (IsS61.drewN HI0.out _) _) _|exact IsS61.drewN (IsS61.set_2 (IsS61.set_1 HI0.out _) _) _|exact IsS61.set_2 (IsS61.set_1 HI0.out _) _)):P:=h
theorem zsx0_3 {P:Prop} (h:P:=by repeat (first|(with_reducible first|exact HB.out|apply below_alloc|apply pw_below_drewN|apply below_drew1|refine below_set ?_ (IsS61.ge HI0.out))|exact HB.out)):P:=h
theorem zsx0_4 {P:Prop} (h:P:=by repeat (first|(with_reducible first|exact HK.out|apply KeepBut.set_|apply keep_drewN|apply keep_drew|apply keep_alloc)|exact HK.out)):P:=h
theorem zsx0_5 {P:Prop} (h:P:=by repeat (first|(with_reducible first|exact HI0.out|apply IsS61.alloc|apply IsS61.drewN|apply IsS61.drew|apply IsS61.set_1|apply IsS61.set_2)|exact HI0.out)):P:=h
theorem zsx0_6 {P:Prop} (h:P:=by kernel_rfl):P:=h
theorem zsx0_7 {P:Prop} (h:P:=by (try simp only [List.map_toArray,List.map_cons,List.map_nil]);first|done|rfl|(simp only [List.length_drop,List.length_take];rfl)):P:=h
theorem zsx0_8 {P:Prop} (h:P:=by (with_reducible repeat (first|refine blk_drewN ?_ _|refine blk_drew ?_|refine blk_alloc ?_ _));exact BK115.out):P:=h
theorem zsx0_9 {P:Prop} (h:P:=by repeat (first|(with_reducible first|exact HK.out|apply KeepBut.set_|apply keep_drewN|apply keep_drew|apply keep_alloc|refine keep_far ?_ GW115.out _)|exact HK.out)):P:=h
theorem zsx0_10 {P:Prop} (h:P:=by repeat (first|(with_reducible first|exact HI0.out|apply IsS61.alloc|apply IsS61.drewN|apply IsS61.drew|apply IsS61.set_1|apply IsS61.set_2|refine IsS61.far ?_ NB0_115.out _)|exact HI0.out)):P:=h
theorem zsx0_11 {P:Prop} (h:P:=by repeat (first|(with_reducible first|exact HB.out|apply below_alloc|apply pw_below_drewN|apply below_drew1|refine below_set ?_ (IsS61.ge HI0.out)|refine below_set ?_ GE115.out)|exact HB.out)):P:=h
theorem zsx0_12 {P:Prop} (h:P:=by first|rfl|(simp;done)|(simp [*];done)):P:=h
theorem zsx0_13 {P:Prop} (h:P:=by repeat (first|(with_reducible first|exact HK.out|apply Kept.alloc|apply Kept.drewN|apply Kept.drew)|exact HK.out)):P:=h
theorem zsx0_14 {P:Prop} (h:P:=by repeat (first|(with_reducible first|exact HB.out|apply below_alloc|apply pw_below_drewN|apply below_drew1)|exact HB.out)):P:=h
theorem zsx0_15 {P:Prop} (h:P:=by (with_reducible repeat (first|apply Kd.R_alloc|apply Kd.R_drewN|apply Kd.R_drew));exact HO_0.out):P:=h
theorem zsx0_16 {P:Prop} (h:P:=by repeat (first|(with_reducible first|exact HB.out|apply below_alloc|apply pw_below_drewN|apply below_drew1|refine below_set ?_ GE181.out)|exact HB.out)):P:=h
theorem zsx0_17 {P:Prop} (h:P:=by (with_reducible repeat (first|refine blk_drewN ?_ _|refine blk_drew ?_|refine blk_alloc ?_ _));exact BK185.out):P:=h
theorem zsx0_18 {P:Prop} (h:P:=by repeat (first|(with_reducible first|exact HB.out|apply below_alloc|apply pw_below_drewN|apply below_drew1|refine below_set ?_ GE185.out)|exact HB.out)):P:=h
theorem zsx0_19 {P:Prop} (h:P:=by (with_reducible repeat (first|refine blk_drewN ?_ _|refine blk_drew ?_|refine blk_alloc ?_ _));exact BK186.out):P:=h
theorem zsx0_20 {P:Prop} (h:P:=by repeat (first|(with_reducible first|exact HB.out|apply below_alloc|apply pw_below_drewN|apply below_drew1|refine below_set ?_ GE185.out|refine below_set ?_ GE186.out)|exact HB.out)):P:=h
theorem zsx0_21 {P:Prop} (h:P:=by (with_reducible repeat (first|apply Kd.S_alloc|apply Kd.S_drewN|apply Kd.S_drew));exact HO_5.out):P:=h
theorem zsx0_22 {P:Prop} (h:P:=by (with_reducible repeat (first|apply Kd.R_alloc|apply Kd.R_drewN|apply Kd.R_drew));exact HO_10.out):P:=h
theorem zsx0_23 {P:Prop} (h:P:=by (try simp only [List.map_toArray,List.map_cons,List.map_nil]);first|done|(simp only [hji10];rfl)|rfl|(simp only [List.length_drop,List.length_take];rfl)):P:=h
theorem zsx0_24 {P:Prop} (h:P:=by (with_reducible repeat (first|refine blk_drewN ?_ _|refine blk_drew ?_|refine blk_alloc ?_ _));refine blk_far ?_ NB185_197.out _;(with_reducible repeat (first|refine blk_drewN ?_ _|refine blk_drew ?_|refine blk_alloc ?_ _));refine blk_far ?_ NB185_197.out _;(with_reducible repeat (first|refine blk_drewN ?_ _|refine blk_drew ?_|refine blk_alloc ?_ _));refine blk_far ?_ NB185_197.out _;(with_reducible repeat (first|refine blk_drewN ?_ _|refine blk_drew ?_|refine blk_alloc ?_ _));exact BK185.out):P:=h
theorem zsx0_25 {P:Prop} (h:P:=by (with_reducible repeat (first|refine blk_drewN ?_ _|refine blk_drew ?_|refine blk_alloc ?_ _));refine blk_far ?_ NB186_197.out _;(with_reducible repeat (first|refine blk_drewN ?_ _|refine blk_drew ?_|refine blk_alloc ?_ _));refine blk_far ?_ NB186_197.out _;(with_reducible repeat (first|refine blk_drewN ?_ _|refine blk_drew ?_|refine blk_alloc ?_ _));refine blk_far ?_ NB186_197.out _;(with_reducible repeat (first|refine blk_drewN ?_ _|refine blk_drew ?_|refine blk_alloc ?_ _));exact BK186.out):P:=h
theorem zsx0_26 {P:Prop} (h:P:=by (with_reducible repeat (first|refine blk_drewN ?_ _|refine blk_drew ?_|refine blk_alloc ?_ _));refine blk_put (cs:=#[.int .i64 ((rd_T96 (rd_L4 l1_1 (rd l1_0 (ji10))) x44_2).f0),.int .i64 ((rd_T96 (rd_L4 l1_1 (rd l1_0 (ji10))) x44_2).f1),.int .i64 0]) ?_ 2 _ rfl;(with_reducible repeat (first|refine blk_drewN ?_ _|refine blk_drew ?_|refine blk_alloc ?_ _));refine blk_put (cs:=#[.int .i64 ((rd_T96 (rd_L4 l1_1 (rd l1_0 (ji10))) x44_2).f0),.int .i64 0,.int .i64 0]) ?_ 1 _ rfl;(with_reducible repeat (first|refine blk_drewN ?_ _|refine blk_drew ?_|refine blk_alloc ?_ _));refine blk_put (cs:=#[.int .i64 0,.int .i64 0,.int .i64 0]) ?_ 0 _ rfl;(with_reducible repeat (first|refine blk_drewN ?_ _|refine blk_drew ?_|refine blk_alloc ?_ _));exact BK197.out):P:=h
theorem zsx0_27 {P:Prop} (h:P:=by repeat (first|(with_reducible first|exact HB.out|apply below_alloc|apply pw_below_drewN|apply below_drew1|refine below_set ?_ GE185.out|refine below_set ?_ GE186.out|refine below_set ?_ GE197.out)|exact HB.out)):P:=h
theorem zsx0_28 {P:Prop} (h:P:=by first|(go_simp;done)|(go_simp;rfl)):P:=h
theorem zsx0_29 {P:Prop} (h:P:=by rw [hg];exact (keep_size (w:=w) (g:=g) (row:=none) (zsx0_4))):P:=h
theorem zsx0_30 {P:Prop} (h:P:=by first|exact HK.out.1|exact (show Kept w _ (fun k_=>P0_ k_) from zsx0_13).1):P:=h
theorem zsx0_31 {P:Prop} (h:P:=by rw [Ny140.out];exact Kd.C_take (m:=(x5_1:Int).toNat) ((Kd.R_reads' (Kd.R_after (ok:=(fun k_=>(P0_ k_ ∨ w.heap.size≤k_))) (zsx0_15) hg hat)).2.2) KL19.out):P:=h
theorem zsx0_32 {P:Prop} (h:P:=by rw [Ny160.out];exact Kd.C_take (m:=(x5_1:Int).toNat) ((Kd.R_reads' (Kd.R_after (ok:=(fun k_=>(P0_ k_ ∨ w.heap.size≤k_))) (zsx0_15) hg hat)).2.2) KL34.out):P:=h
theorem zsx0_33 {P:Prop} (h:P:=by rw [hg];exact (below_size (zsx0_14))):P:=h
theorem zsx0_34 {P:Prop} (h:P:=by rw [hg];exact Nat.ne_of_lt (blk_lt (g:=gb185) (o:=.cells #[.int .i64 a0_0,.int .i64 a0_1,.int .i64 a0_2] 84 (0,0)) (zsx0_17))):P:=h
theorem zsx0_35 {P:Prop} (h:P:=by rw [hg];exact Nat.ne_of_gt (blk_lt (g:=gb185) (o:=.cells #[.int .i64 a0_0,.int .i64 a0_1,.int .i64 a0_2] 84 (0,0)) (zsx0_17))):P:=h
theorem zsx0_36 {P:Prop} (h:P:=by rw [hg];exact Nat.ne_of_lt (blk_lt (g:=gb186) (o:=.cells #[.slice (some ad191) l1_0.length c1_0,.slice (some ad192) l1_1.length c1_1] 89 (0,0)) (zsx0_19))):P:=h
theorem zsx0_37 {P:Prop} (h:P:=by rw [hg];exact Nat.ne_of_gt (blk_lt (g:=gb186) (o:=.cells #[.slice (some ad191) l1_0.length c1_0,.slice (some ad192) l1_1.length c1_1] 89 (0,0)) (zsx0_19))):P:=h
def errW:Option Int→Value
 | none=>.nilIface
 | some c=>.iface 0 (.int .i64 c)
theorem errW_none:errW none=.nilIface:=rfl
theorem errW_some (c:Int):errW (some c)=.iface 0 (.int .i64 c):=rfl
theorem info3:(Try.prog.info? 3).map (fun i=>(i.zero,i.size,i.bytes))=some (some (.int .i64 0),1,8):=by kernel_rfl
theorem info4:(Try.prog.info? 4).map (fun i=>(i.zero,i.size,i.bytes))=some (some (.bool false),1,1):=by kernel_rfl
theorem info33:(Try.prog.info? 33).map (fun i=>(i.zero,i.size,i.bytes))=some (some (.slice none 0 0),1,24):=by kernel_rfl
theorem info94:(Try.prog.info? 94).map (fun i=>(i.zero,i.size,i.bytes))=some (some (.slice none 0 0),1,24):=by kernel_rfl
theorem info96:(Try.prog.info? 96).map (fun i=>(i.zero,i.size,i.bytes))=some (some (.agg #[(.int .i64 0),(.int .i64 0),(.int .i64 0)]),3,24):=by kernel_rfl
-- the values' own types
structure S84 where
 f0:Int
 f1:Int
 f2:Int
def z84:S84:=⟨(0:Int),(0:Int),(0:Int)⟩
def k84:Kd S84:=Kd.iso (Kd.pair (Kd.int .i64) (Kd.pair (Kd.int .i64) (Kd.int .i64))) (fun x:S84=>(x.f0,x.f1,x.f2))
theorem k84_open {w:World} {x:S84} {cs:List Value} (h:k84.K w x cs):cs=[.int .i64 x.f0,.int .i64 x.f1,.int .i64 x.f2]:=by
 obtain ⟨_,_,rfl,rfl,⟨_,_,rfl,rfl,rfl⟩⟩:=h
 exact rfl
theorem k84_mkM (w:World) (base:Nat) (ok:Nat→Prop) (x:S84)  : k84.M w base ok x [.int .i64 x.f0,.int .i64 x.f1,.int .i64 x.f2]:=⟨[.int .i64 x.f0],[.int .i64 x.f1,.int .i64 x.f2],rfl,rfl,⟨[.int .i64 x.f1],[.int .i64 x.f2],rfl,rfl,rfl⟩⟩
def rd_T84 (xs:List S84) (i:Int):S84:=xs.getD i.toNat z84
theorem at_T84 {w:World} {A:Option Addr} {n:Nat} {xs:List S84} (h:Kd.C k84 w A n xs) (i:Int) (h0:0≤i) (h1:i < n):∃ ad ,A=some ad∧w.cell? (ad.add (i.toNat * 3))=some (.int .i64 (rd_T84 xs i).f0)∧w.cell? ⟨(ad.add (i.toNat * 3)).block,(ad.add (i.toNat * 3)).off + 1,none⟩=some (.int .i64 (rd_T84 xs i).f1)∧w.cell? ⟨(ad.add (i.toNat * 3)).block,(ad.add (i.toNat * 3)).off + 2,none⟩=some (.int .i64 (rd_T84 xs i).f2):=by
 obtain ⟨ad,c,e,_,hK,hc0⟩:=Kd.C_get h z84 i h0 h1
 have hc:∀ j u,c[j]?=some u→w.cell? (ad.add (i.toNat * 3 + j))=some u:=hc0
 obtain rfl:=k84_open hK
 exact ⟨ad,e,hc 0 _ rfl,by rw [← add_field _ _ 1 (by omega)];exact hc 1 _ rfl,by rw [← add_field _ _ 2 (by omega)];exact hc 2 _ rfl⟩
structure S96 where
 f0:Int
 f1:Int
 f2:Int
def z96:S96:=⟨(0:Int),(0:Int),(0:Int)⟩
def k96:Kd S96:=Kd.iso (Kd.pair (Kd.int .i64) (Kd.pair (Kd.int .i64) (Kd.int .i64))) (fun x:S96=>(x.f0,x.f1,x.f2))
theorem k96_open {w:World} {x:S96} {cs:List Value} (h:k96.K w x cs):cs=[.int .i64 x.f0,.int .i64 x.f1,.int .i64 x.f2]:=by
 obtain ⟨_,_,rfl,rfl,⟨_,_,rfl,rfl,rfl⟩⟩:=h
 exact rfl
theorem k96_openM {w:World} {base:Nat} {ok:Nat→Prop} {x:S96} {cs:List Value} (h:k96.M w base ok x cs):cs=[.int .i64 x.f0,.int .i64 x.f1,.int .i64 x.f2]:=by
 obtain ⟨_,_,rfl,rfl,⟨_,_,rfl,rfl,rfl⟩⟩:=h
 exact rfl
theorem k96_mkM (w:World) (base:Nat) (ok:Nat→Prop) (x:S96)  : k96.M w base ok x [.int .i64 x.f0,.int .i64 x.f1,.int .i64 x.f2]:=⟨[.int .i64 x.f0],[.int .i64 x.f1,.int .i64 x.f2],rfl,rfl,⟨[.int .i64 x.f1],[.int .i64 x.f2],rfl,rfl,rfl⟩⟩
def rd_T96 (xs:List S96) (i:Int):S96:=xs.getD i.toNat z96
theorem at_T96 {w:World} {A:Option Addr} {n:Nat} {xs:List S96} (h:Kd.C k96 w A n xs) (i:Int) (h0:0≤i) (h1:i < n):∃ ad ,A=some ad∧w.cell? (ad.add (i.toNat * 3))=some (.int .i64 (rd_T96 xs i).f0)∧w.cell? ⟨(ad.add (i.toNat * 3)).block,(ad.add (i.toNat * 3)).off + 1,none⟩=some (.int .i64 (rd_T96 xs i).f1)∧w.cell? ⟨(ad.add (i.toNat * 3)).block,(ad.add (i.toNat * 3)).off + 2,none⟩=some (.int .i64 (rd_T96 xs i).f2):=by
 obtain ⟨ad,c,e,_,hK,hc0⟩:=Kd.C_get h z96 i h0 h1
 have hc:∀ j u,c[j]?=some u→w.cell? (ad.add (i.toNat * 3 + j))=some u:=hc0
 obtain rfl:=k96_open hK
 exact ⟨ad,e,hc 0 _ rfl,by rw [← add_field _ _ 1 (by omega)];exact hc 1 _ rfl,by rw [← add_field _ _ 2 (by omega)];exact hc 2 _ rfl⟩
def rd_L4 (xs:List (List S96)) (i:Int):(List S96):=xs.getD i.toNat ([]:List S96)
theorem at_L4 {w:World} {A:Option Addr} {n:Nat} {xs:List (List S96)} (h:Kd.C (Kd.slice 96 k96) w A n xs) (i:Int) (h0:0≤i) (h1:i < n):∃ ad A0 c0,A=some ad∧w.cell? (ad.add i.toNat)=some (.slice A0 (rd_L4 xs i).length c0)∧(rd_L4 xs i).length≤c0∧k96.C w A0 (rd_L4 xs i).length (rd_L4 xs i):=by
 obtain ⟨ad,c,e,_,hK,hc0⟩:=Kd.C_get h ([]:List S96) i h0 h1
 have hc:∀ j u,c[j]?=some u→w.cell? (ad.add (i.toNat * 1 + j))=some u:=hc0
 obtain ⟨A0,c0,rfl,l0,g0⟩:=hK
 exact ⟨ad,A0,c0,e,by have hq:=hc 0 _ rfl;rwa [Nat.mul_one,Nat.add_zero] at hq,l0,g0⟩
def rd_L5 (xs:List (List Int)) (i:Int):(List Int):=xs.getD i.toNat ([]:List Int)
theorem at_L5 {w:World} {A:Option Addr} {n:Nat} {xs:List (List Int)} (h:Kd.C (Kd.slice 3 (Kd.int .i64)) w A n xs) (i:Int) (h0:0≤i) (h1:i < n):∃ ad A0 c0,A=some ad∧w.cell? (ad.add i.toNat)=some (.slice A0 (rd_L5 xs i).length c0)∧(rd_L5 xs i).length≤c0∧(Kd.int .i64).C w A0 (rd_L5 xs i).length (rd_L5 xs i):=by
 obtain ⟨ad,c,e,_,hK,hc0⟩:=Kd.C_get h ([]:List Int) i h0 h1
 have hc:∀ j u,c[j]?=some u→w.cell? (ad.add (i.toNat * 1 + j))=some u:=hc0
 obtain ⟨A0,c0,rfl,l0,g0⟩:=hK
 exact ⟨ad,A0,c0,e,by have hq:=hc 0 _ rfl;rwa [Nat.mul_one,Nat.add_zero] at hq,l0,g0⟩
/-- A state of type 61 at block g of W;what its slices lead to came in by w0. -/
def IsS61 (w0 W:World) (g:Nat) (f0:List Int) (f1:Int) (f2:Int):Prop:=∃ A0 c0,W.heap[g]?=some (.cells #[.slice A0 f0.length c0,.int .i64 f1,.int .u64 f2] 61 (0,0))∧w0.heap.size≤g∧Kd.C (Kd.int .u8) w0 A0 f0.length f0
theorem IsS61.grown {w0 W:World} {g:Nat} {f0:List Int} {f1:Int} {f2:Int} {W1:World} {row:Option Nat} (h:IsS61 w0 W g f0 f1 f2) (hw:W.grownBy W1 row) (hne:some g≠row):IsS61 w0 W1 g f0 f1 f2:=by
 obtain ⟨A0,c0,hb,hg,hr0⟩:=h
 exact ⟨A0,c0,blk_grown hb hw hne,hg,hr0⟩
theorem IsS61.own_neN {w0 W:World} {g:Nat} {f0:List Int} {f1:Int} {f2:Int} {α:Type} {d:Kd α} {e:Nat} {base:Nat} {ok:Nat→Prop} {v:Value} {xs:List α} (h:IsS61 w0 W g f0 f1 f2) (ho:Kd.N d e W base ok v xs) (ht:e≠61):some g≠v.ownBlock:=by
 obtain ⟨A0,c0,hb,hg,hr0⟩:=h
 exact Kd.N_ne ho hb ht
theorem IsS61.fresh {w0 W:World} {g:Nat} {f0:List Int} {f1:Int} {f2:Int} (h:IsS61 w0 W g f0 f1 f2):∀ k,W.heap.size≤k→k≠g:=by
 obtain ⟨A0,c0,hb,hg,hr0⟩:=h
 exact Kd.freshB hb
theorem IsS61.kept {w0 W:World} {g:Nat} {f0:List Int} {f1:Int} {f2:Int} {W1:World} {S:Nat→Prop} (h:IsS61 w0 W g f0 f1 f2) (hk:Kept W W1 S) (hne:¬ S g):IsS61 w0 W1 g f0 f1 f2:=by
 obtain ⟨A0,c0,hb,hg,hr0⟩:=h
 exact ⟨A0,c0,blk_kept hb hk hne,hg,hr0⟩
theorem IsS61.below {w0 W:World} {g:Nat} {f0:List Int} {f1:Int} {f2:Int} {W1:World} (h:IsS61 w0 W g f0 f1 f2) (hw:Below W.heap.size W W1):IsS61 w0 W1 g f0 f1 f2:=h.grown (grown_of_below hw none) (by simp)
theorem IsS61.alloc {w0 W:World} {g:Nat} {f0:List Int} {f1:Int} {f2:Int} (h:IsS61 w0 W g f0 f1 f2) (o:Obj):IsS61 w0 (W.alloc o) g f0 f1 f2:=h.below (below_alloc (Below.refl _ _) o)
theorem IsS61.drewN {w0 W:World} {g:Nat} {f0:List Int} {f1:Int} {f2:Int} (h:IsS61 w0 W g f0 f1 f2) (m:Nat):IsS61 w0 (W.drewN m) g f0 f1 f2:=h
theorem IsS61.drew {w0 W:World} {g:Nat} {f0:List Int} {f1:Int} {f2:Int} (h:IsS61 w0 W g f0 f1 f2):IsS61 w0 W.drew g f0 f1 f2:=h
theorem IsS61.at_ {w0 W:World} {g:Nat} {f0:List Int} {f1:Int} {f2:Int} {w':World} {m:Nat} (hq:W.drewN m=w') (h:IsS61 w0 W g f0 f1 f2):IsS61 w0 w' g f0 f1 f2:=by subst hq;exact IsS61.drewN h m
theorem IsS61.apart {w0 W:World} {g:Nat} {f0:List Int} {f1:Int} {f2:Int} {α:Type} {d:Kd α} {e:Nat} {base:Nat} {ok:Nat→Prop} {v:Value} {xs:List α} (h:IsS61 w0 W g f0 f1 f2) (ho:d.R e W base ok v xs) (ht:∀ q,q ∈ e :: d.E→q≠61):d.R e W base (fun k=>ok k∧k≠g) v xs:=by
 obtain ⟨A0,c0,hb,hg,hr0⟩:=h
 exact Kd.R_types ho hb ht
theorem IsS61.own_ne {w0 W:World} {g:Nat} {f0:List Int} {f1:Int} {f2:Int} {α:Type} {d:Kd α} {e:Nat} {base:Nat} {ok:Nat→Prop} {v:Value} {xs:List α} (h:IsS61 w0 W g f0 f1 f2) (ho:d.R e W base ok v xs) (ht:e≠61):some g≠v.ownBlock:=by
 obtain ⟨A0,c0,hb,hg,hr0⟩:=h
 exact Kd.R_ne ho hb ht
theorem IsS61.apartQ {w0 W:World} {g:Nat} {f0:List Int} {f1:Int} {f2:Int} {α:Type} {d:Kd α} {e:Nat} {base:Nat} {ok:Nat→Prop} {v:Value} {xs:List α} (h:IsS61 w0 W g f0 f1 f2) (ho:d.Q e W base ok v xs) (ht:∀ q,q ∈ e :: d.E→q≠61):d.Q e W base (fun k=>ok k∧k≠g) v xs:=by
 obtain ⟨A0,c0,hb,hg,hr0⟩:=h
 exact Kd.Q_types ho hb ht
theorem IsS61.own_neQ {w0 W:World} {g:Nat} {f0:List Int} {f1:Int} {f2:Int} {α:Type} {d:Kd α} {e:Nat} {base:Nat} {ok:Nat→Prop} {v:Value} {xs:List α} (h:IsS61 w0 W g f0 f1 f2) (ho:d.Q e W base ok v xs) (ht:e≠61):some g≠v.ownBlock:=by
 obtain ⟨A0,c0,hb,hg,hr0⟩:=h
 exact Kd.Q_ne ho hb ht
theorem IsS61.lt {w0 W:World} {g:Nat} {f0:List Int} {f1:Int} {f2:Int} (h:IsS61 w0 W g f0 f1 f2):g < W.heap.size:=by
 obtain ⟨A0,c0,hb,hg,hr0⟩:=h
 exact blk_lt hb
theorem IsS61.ge {w0 W:World} {g:Nat} {f0:List Int} {f1:Int} {f2:Int} (h:IsS61 w0 W g f0 f1 f2):w0.heap.size≤g:=by
 obtain ⟨A0,c0,hb,hg,hr0⟩:=h
 exact hg
theorem IsS61.far {w0 W:World} {g:Nat} {f0:List Int} {f1:Int} {f2:Int} {p:Addr} (h:IsS61 w0 W g f0 f1 f2) (hne:g≠p.block) (u:Value):IsS61 w0 (W.setCell p u) g f0 f1 f2:=by
 obtain ⟨A0,c0,hb,hg,hr0⟩:=h
 exact ⟨A0,c0,blk_far hb hne u,hg,hr0⟩
theorem cellS61_0 {W:World} {g:Nat} {A0:Option Addr} {c0:Nat} {f0:List Int} {f1:Int} {f2:Int} (h:W.heap[g]?=some (.cells #[.slice A0 f0.length c0,.int .i64 f1,.int .u64 f2] 61 (0,0))):W.cell? ⟨g,0,none⟩=some (.slice A0 f0.length c0):=(bC0 h 0).trans rfl
theorem cellS61_1 {W:World} {g:Nat} {A0:Option Addr} {c0:Nat} {f0:List Int} {f1:Int} {f2:Int} (h:W.heap[g]?=some (.cells #[.slice A0 f0.length c0,.int .i64 f1,.int .u64 f2] 61 (0,0))):W.cell? ⟨g,1,none⟩=some (.int .i64 f1):=(bC0 h 1).trans rfl
theorem IsS61.set_1 {w0 W:World} {g:Nat} {f0:List Int} {f1:Int} {f2:Int} (h:IsS61 w0 W g f0 f1 f2) (x:Int):IsS61 w0 (W.setCell ⟨g,1,none⟩ (.int .i64 x)) g f0 x f2:=by
 obtain ⟨A0,c0,hb,hg,hr0⟩:=h
 exact ⟨A0,c0,by simpa using blk_set hb 1 (.int .i64 x),hg,hr0⟩
theorem cellS61_2 {W:World} {g:Nat} {A0:Option Addr} {c0:Nat} {f0:List Int} {f1:Int} {f2:Int} (h:W.heap[g]?=some (.cells #[.slice A0 f0.length c0,.int .i64 f1,.int .u64 f2] 61 (0,0))):W.cell? ⟨g,2,none⟩=some (.int .u64 f2):=(bC0 h 2).trans rfl
theorem IsS61.set_2 {w0 W:World} {g:Nat} {f0:List Int} {f1:Int} {f2:Int} (h:IsS61 w0 W g f0 f1 f2) (x:Int):IsS61 w0 (W.setCell ⟨g,2,none⟩ (.int .u64 x)) g f0 f1 x:=by
 obtain ⟨A0,c0,hb,hg,hr0⟩:=h
 exact ⟨A0,c0,by simpa using blk_set hb 2 (.int .u64 x),hg,hr0⟩
def spec_l1Cur_next.f (s0_0:List Int) (s0_1:Int) (s0_2:Int):Option (Int × Int × Int):=if s0_1 < (s0_0.length:Int) then (if 0≤s0_1 then (if (wrap64 (s0_1 + 1))≤(s0_0.length:Int) then (some (wrap64 (rd s0_0 s0_1),wrap64 (s0_1 + 1),IntKind.u64.wrap ((IntKind.u64.wrap ((IntKind.u64.wrap (s0_2 * 6364136223846793005)) + (IntKind.u64.wrap (wrap64 (rd s0_0 s0_1))))) + 1442695040888963407))) else (some (wrap64 (Go.bits .and .u64 ((IntKind.u64.wrap ((IntKind.u64.wrap ((IntKind.u64.wrap (s0_2 * 6364136223846793005)) + (IntKind.u64.wrap (wrap64 (rd s0_0 s0_1))))) + 1442695040888963407)) / 1099511627776) 255),wrap64 (s0_1 + 1),IntKind.u64.wrap ((IntKind.u64.wrap ((IntKind.u64.wrap (s0_2 * 6364136223846793005)) + (IntKind.u64.wrap (wrap64 (rd s0_0 s0_1))))) + 1442695040888963407)))) else (none)) else (if (wrap64 (s0_1 + 1))≤(s0_0.length:Int) then (some (0,wrap64 (s0_1 + 1),IntKind.u64.wrap ((IntKind.u64.wrap ((IntKind.u64.wrap (s0_2 * 6364136223846793005)) + 0)) + 1442695040888963407))) else (some (wrap64 (Go.bits .and .u64 ((IntKind.u64.wrap ((IntKind.u64.wrap ((IntKind.u64.wrap (s0_2 * 6364136223846793005)) + 0)) + 1442695040888963407)) / 1099511627776) 255),wrap64 (s0_1 + 1),IntKind.u64.wrap ((IntKind.u64.wrap ((IntKind.u64.wrap (s0_2 * 6364136223846793005)) + 0)) + 1442695040888963407))))
set_option maxHeartbeats 8000000 in
set_option maxRecDepth 100000 in
theorem spec_l1Cur_next.calls (g:Nat) (s0_0:List Int) (s0_1:Int) (s0_2:Int) (r1:Int) (r2:Int) (r3:Int) (w0 w:World) (hI:IsS61 w0 w g s0_0 s0_1 s0_2) (hB:Below w0.heap.size w0 w) (h:spec_l1Cur_next.f s0_0 s0_1 s0_2=some (r1,r2,r3)) :
  Calls Try.prog 88 #[.pointer (some ⟨g,0,none⟩)] w fun e w'=>e=.returned (.int .i64 r1)∧IsS61 w0 w' g s0_0 r2 r3∧Below w0.heap.size w0 w'∧KeepBut w w' g none:=by
 have HI0:=aM0 hI
 have HK:=aM0 (KeepBut.refl w g none)
 have HL:=aM0 hB.size
 clear hI
 have HW0:=aM0 hB.size
 have HB:=aM0 hB
 clear hB
 have H:(if s0_1 < (s0_0.length:Int) then (if 0≤s0_1 then (if (wrap64 (s0_1 + 1))≤(s0_0.length:Int) then (some (wrap64 (rd s0_0 s0_1),wrap64 (s0_1 + 1),IntKind.u64.wrap ((IntKind.u64.wrap ((IntKind.u64.wrap (s0_2 * 6364136223846793005)) + (IntKind.u64.wrap (wrap64 (rd s0_0 s0_1))))) + 1442695040888963407))) else (some (wrap64 (Go.bits .and .u64 ((IntKind.u64.wrap ((IntKind.u64.wrap ((IntKind.u64.wrap (s0_2 * 6364136223846793005)) + (IntKind.u64.wrap (wrap64 (rd s0_0 s0_1))))) + 1442695040888963407)) / 1099511627776) 255),wrap64 (s0_1 + 1),IntKind.u64.wrap ((IntKind.u64.wrap ((IntKind.u64.wrap (s0_2 * 6364136223846793005)) + (IntKind.u64.wrap (wrap64 (rd s0_0 s0_1))))) + 1442695040888963407)))) else (none)) else (if (wrap64 (s0_1 + 1))≤(s0_0.length:Int) then (some (0,wrap64 (s0_1 + 1),IntKind.u64.wrap ((IntKind.u64.wrap ((IntKind.u64.wrap (s0_2 * 6364136223846793005)) + 0)) + 1442695040888963407))) else (some (wrap64 (Go.bits .and .u64 ((IntKind.u64.wrap ((IntKind.u64.wrap ((IntKind.u64.wrap (s0_2 * 6364136223846793005)) + 0)) + 1442695040888963407)) / 1099511627776) 255),wrap64 (s0_1 + 1),IntKind.u64.wrap ((IntKind.u64.wrap ((IntKind.u64.wrap (s0_2 * 6364136223846793005)) + 0)) + 1442695040888963407)))))=some (r1,r2,r3):=h
 clear h
 by_cases c2:s0_1 < (s0_0.length:Int)
 ·rw [if_pos c2] at H
  have c2b0:decide (s0_1 < (s0_0.length:Int))=true:=dT0 c2
  clear c2
  by_cases c3:0≤s0_1
  ·rw [if_pos c3] at H
   have c3b0:decide (0≤s0_1)=true:=dT0 c3
   clear c3
   by_cases c4:(wrap64 (s0_1 + 1))≤(s0_0.length:Int)
   ·rw [if_pos c4] at H
    have c4b0:decide ((wrap64 (s0_1 + 1))≤(s0_0.length:Int))=true:=dT0 c4
    clear c4
    simp only [Option.some.injEq,Prod.mk.injEq] at H
    obtain ⟨rfl,rfl,rfl⟩:=H
    obtain ⟨ASz5_0,cSz5_0,HGz5,hgz5,HSz5_0⟩:=HI0.out
    have hcz5_0:=cellS61_0 HGz5
    have hcz5_1:=cellS61_1 HGz5
    have hcz5_2:=cellS61_2 HGz5
    have hfz5_1:=blk_frozen HGz5 1
    have hfz5_2:=blk_frozen HGz5 2
    clear HGz5 hgz5
    have p101:0≤(s0_1:Int):=oD0 (zsx0_0)
    have q101:s0_1 < (s0_0.length:Int):=oD0 (zsx0_0)
    obtain ⟨ad101,e101,hx101_0⟩:=Kd.at_int HSz5_0 s0_1 p101 q101
    cases e101
    replace hx101_0:=pw_cell_below HB.out hx101_0
    replace p101:=eq_true p101
    replace q101:=eq_true q101
    go_enter Try.func88,Try.ntmps88
    go_wp2
    repeat (go_quiet (fail);try go_wp2)
    go_ret
    exact ⟨zsx0_1,zsx0_2,zsx0_3,zsx0_4⟩
   ·rw [if_neg c4] at H
    have c4b0:decide ((wrap64 (s0_1 + 1))≤(s0_0.length:Int))=false:=decide_eq_false c4
    clear c4
    simp only [Option.some.injEq,Prod.mk.injEq] at H
    obtain ⟨rfl,rfl,rfl⟩:=H
    obtain ⟨ASz6_0,cSz6_0,HGz6,hgz6,HSz6_0⟩:=HI0.out
    have hcz6_0:=cellS61_0 HGz6
    have hcz6_1:=cellS61_1 HGz6
    have hcz6_2:=cellS61_2 HGz6
    have hfz6_1:=blk_frozen HGz6 1
    have hfz6_2:=blk_frozen HGz6 2
    clear HGz6 hgz6
    have p101:0≤(s0_1:Int):=oD0 (zsx0_0)
    have q101:s0_1 < (s0_0.length:Int):=oD0 (zsx0_0)
    obtain ⟨ad101,e101,hx101_0⟩:=Kd.at_int HSz6_0 s0_1 p101 q101
    cases e101
    replace hx101_0:=pw_cell_below HB.out hx101_0
    replace p101:=eq_true p101
    replace q101:=eq_true q101
    go_enter Try.func88,Try.ntmps88
    go_wp2
    repeat (go_quiet (fail);try go_wp2)
    go_ret
    exact ⟨zsx0_1,zsx0_2,zsx0_3,zsx0_4⟩
  ·rw [if_neg c3] at H
   exact absurd H (by simp)
 ·rw [if_neg c2] at H
  have c2b0:decide (s0_1 < (s0_0.length:Int))=false:=decide_eq_false c2
  clear c2
  by_cases c7:(wrap64 (s0_1 + 1))≤(s0_0.length:Int)
  ·rw [if_pos c7] at H
   have c7b0:decide ((wrap64 (s0_1 + 1))≤(s0_0.length:Int))=true:=dT0 c7
   clear c7
   simp only [Option.some.injEq,Prod.mk.injEq] at H
   obtain ⟨rfl,rfl,rfl⟩:=H
   obtain ⟨ASz8_0,cSz8_0,HGz8,hgz8,HSz8_0⟩:=HI0.out
   have hcz8_0:=cellS61_0 HGz8
   have hcz8_1:=cellS61_1 HGz8
   have hcz8_2:=cellS61_2 HGz8
   have hfz8_1:=blk_frozen HGz8 1
   have hfz8_2:=blk_frozen HGz8 2
   clear HGz8 hgz8
   go_enter Try.func88,Try.ntmps88
   go_wp2
   repeat (go_quiet (fail);try go_wp2)
   go_ret
   exact ⟨zsx0_1,zsx0_2,zsx0_3,zsx0_4⟩
  ·rw [if_neg c7] at H
   have c7b0:decide ((wrap64 (s0_1 + 1))≤(s0_0.length:Int))=false:=decide_eq_false c7
   clear c7
   simp only [Option.some.injEq,Prod.mk.injEq] at H
   obtain ⟨rfl,rfl,rfl⟩:=H
   obtain ⟨ASz9_0,cSz9_0,HGz9,hgz9,HSz9_0⟩:=HI0.out
   have hcz9_0:=cellS61_0 HGz9
   have hcz9_1:=cellS61_1 HGz9
   have hcz9_2:=cellS61_2 HGz9
   have hfz9_1:=blk_frozen HGz9 1
   have hfz9_2:=blk_frozen HGz9 2
   clear HGz9 hgz9
   go_enter Try.func88,Try.ntmps88
   go_wp2
   repeat (go_quiet (fail);try go_wp2)
   go_ret
   exact ⟨zsx0_1,zsx0_2,zsx0_3,zsx0_4⟩
def spec_l1Cur_pick.f (s0_0:List Int) (s0_1:Int) (s0_2:Int) (a1:Int):Option (Int × Int × Int):=if a1≤1 then (some (0,s0_1,s0_2)) else ((spec_l1Cur_next.f s0_0 s0_1 s0_2).bind fun bt102=>(if a1 > 200 then ((spec_l1Cur_next.f s0_0 bt102.2.1 bt102.2.2).bind fun bt105=>(if a1=0 then (none) else (some (Int.tmod (wrap64 ((wrap64 (bt102.1 * 256)) + bt105.1)) a1,bt105.2.1,bt105.2.2)))) else (if a1=0 then (none) else (some (Int.tmod bt102.1 a1,bt102.2.1,bt102.2.2)))))
set_option maxHeartbeats 8000000 in
set_option maxRecDepth 100000 in
theorem spec_l1Cur_pick.calls (g:Nat) (s0_0:List Int) (s0_1:Int) (s0_2:Int) (a1:Int) (r1:Int) (r2:Int) (r3:Int) (w0 w:World) (hI:IsS61 w0 w g s0_0 s0_1 s0_2) (hB:Below w0.heap.size w0 w) (h:spec_l1Cur_pick.f s0_0 s0_1 s0_2 a1=some (r1,r2,r3)) :
  Calls Try.prog 53 #[.pointer (some ⟨g,0,none⟩),.int .i64 a1] w fun e w'=>e=.returned (.int .i64 r1)∧IsS61 w0 w' g s0_0 r2 r3∧Below w0.heap.size w0 w'∧KeepBut w w' g none:=by
 have HI0:=aM0 hI
 have HK:=aM0 (KeepBut.refl w g none)
 have HL:=aM0 hB.size
 clear hI
 have HW0:=aM0 hB.size
 have HB:=aM0 hB
 clear hB
 have H:(if a1≤1 then (some (0,s0_1,s0_2)) else ((spec_l1Cur_next.f s0_0 s0_1 s0_2).bind fun bt102=>(if a1 > 200 then ((spec_l1Cur_next.f s0_0 bt102.2.1 bt102.2.2).bind fun bt105=>(if a1=0 then (none) else (some (Int.tmod (wrap64 ((wrap64 (bt102.1 * 256)) + bt105.1)) a1,bt105.2.1,bt105.2.2)))) else (if a1=0 then (none) else (some (Int.tmod bt102.1 a1,bt102.2.1,bt102.2.2))))))=some (r1,r2,r3):=h
 clear h
 by_cases c3:a1≤1
 ·rw [if_pos c3] at H
  have c3b0:decide (a1≤1)=true:=dT0 c3
  clear c3
  simp only [Option.some.injEq,Prod.mk.injEq] at H
  obtain ⟨rfl,rfl,rfl⟩:=H
  go_enter Try.func53,Try.ntmps53
  go_wp2
  go_ret
  exact ⟨zsx0_1,zsx0_5,zsx0_3,zsx0_4⟩
 ·rw [if_neg c3] at H
  have c3b0:decide (a1≤1)=false:=decide_eq_false c3
  clear c3
  replace H:=bI0.mp H
  obtain ⟨⟨t102,t103,t104⟩,A40,H⟩:=H
  replace H:(if a1 > 200 then ((spec_l1Cur_next.f s0_0 t103 t104).bind fun bt105=>(if a1=0 then (none) else (some (Int.tmod (wrap64 ((wrap64 (t102 * 256)) + bt105.1)) a1,bt105.2.1,bt105.2.2)))) else (if a1=0 then (none) else (some (Int.tmod t102 a1,t103,t104))))=some (r1,r2,r3):=H
  have A4:=aM0 A40
  clear A40
  by_cases c5:a1 > 200
  ·rw [if_pos c5] at H
   have c5b0:decide (200 < a1)=true:=dT0 c5
   clear c5
   replace H:=bI0.mp H
   obtain ⟨⟨t105,t106,t107⟩,A60,H⟩:=H
   replace H:(if a1=0 then (none) else (some (Int.tmod (wrap64 ((wrap64 (t102 * 256)) + t105)) a1,t106,t107)))=some (r1,r2,r3):=H
   have A6:=aM0 A60
   clear A60
   by_cases c7:a1=0
   ·rw [if_pos c7] at H
    exact absurd H (by simp)
   ·rw [if_neg c7] at H
    have c7b0:(a1 == 0)=false:=beq_eq_false_iff_ne.mpr c7
    have c7b1:(a1 != 0)=true:=bne_iff_ne.mpr c7
    simp only [Option.some.injEq,Prod.mk.injEq] at H
    obtain ⟨rfl,rfl,rfl⟩:=H
    go_enter Try.func53,Try.ntmps53
    go_wp2_with (first|((with_reducible refine gate_callee (f:=88) rfl ?_);refine goesL_ (some 9) rfl rfl Try.func88 (zsx0_6) rfl #[.pointer (some ⟨g,0,none⟩)] rfl (zsx0_7) ?_;(with_reducible refine (spec_l1Cur_next.calls g s0_0 s0_1 s0_2 t102 t103 t104 w0 _ ?side1 ?side2 A4.out).mono ?_);(case side1=>exact zsx0_5);(case side2=>exact zsx0_3);rintro e w8 ⟨rfl,hi,hb,hk⟩;refine ⟨_,rfl,?_⟩;have n0_:=aM0 (kT0 (zsx0_4) hk (.inl rfl));have n1_:=aM0 (hb);have n2_:=aM0 (hi);clear HK HB HI0;have HK:=n0_;have HB:=n1_;have HI0:=n2_;clear n0_ n1_ n2_;(try clear hb);(try clear hb2);(try clear hk);(try clear hi))|((with_reducible refine gate_callee (f:=88) rfl ?_);refine goesL_ (some 15) rfl rfl Try.func88 (zsx0_6) rfl #[.pointer (some ⟨g,0,none⟩)] rfl (zsx0_7) ?_;(with_reducible refine (spec_l1Cur_next.calls g s0_0 t103 t104 t105 t106 t107 w0 _ ?side1 ?side2 A6.out).mono ?_);(case side1=>exact zsx0_5);(case side2=>exact zsx0_3);rintro e w9 ⟨rfl,hi,hb,hk⟩;refine ⟨_,rfl,?_⟩;have n0_:=aM0 (kT0 (zsx0_4) hk (.inl rfl));have n1_:=aM0 (hb);have n2_:=aM0 (hi);clear HK HB HI0;have HK:=n0_;have HB:=n1_;have HI0:=n2_;clear n0_ n1_ n2_;(try clear hb);(try clear hb2);(try clear hk);(try clear hi)))
    go_ret
    exact ⟨zsx0_1,zsx0_5,zsx0_3,zsx0_4⟩
  ·rw [if_neg c5] at H
   have c5b0:decide (200 < a1)=false:=decide_eq_false c5
   clear c5
   by_cases c10:a1=0
   ·rw [if_pos c10] at H
    exact absurd H (by simp)
   ·rw [if_neg c10] at H
    have c10b0:(a1 == 0)=false:=beq_eq_false_iff_ne.mpr c10
    have c10b1:(a1 != 0)=true:=bne_iff_ne.mpr c10
    simp only [Option.some.injEq,Prod.mk.injEq] at H
    obtain ⟨rfl,rfl,rfl⟩:=H
    go_enter Try.func53,Try.ntmps53
    go_wp2_with (first|((with_reducible refine gate_callee (f:=88) rfl ?_);refine goesL_ (some 9) rfl rfl Try.func88 (zsx0_6) rfl #[.pointer (some ⟨g,0,none⟩)] rfl (zsx0_7) ?_;(with_reducible refine (spec_l1Cur_next.calls g s0_0 s0_1 s0_2 t102 t103 t104 w0 _ ?side1 ?side2 A4.out).mono ?_);(case side1=>exact zsx0_5);(case side2=>exact zsx0_3);rintro e w11 ⟨rfl,hi,hb,hk⟩;refine ⟨_,rfl,?_⟩;have n0_:=aM0 (kT0 (zsx0_4) hk (.inl rfl));have n1_:=aM0 (hb);have n2_:=aM0 (hi);clear HK HB HI0;have HK:=n0_;have HB:=n1_;have HI0:=n2_;clear n0_ n1_ n2_;(try clear hb);(try clear hb2);(try clear hk);(try clear hi)))
    go_ret
    exact ⟨zsx0_1,zsx0_5,zsx0_3,zsx0_4⟩
def spec_l1Cur_one.f (s0_0:List Int) (s0_1:Int) (s0_2:Int) (a1:Int):Option (Bool × Int × Int):=(spec_l1Cur_pick.f s0_0 s0_1 s0_2 a1).bind fun bt112=>(some ((bt112.1 == 0),bt112.2.1,bt112.2.2))
set_option maxHeartbeats 8000000 in
set_option maxRecDepth 100000 in
theorem spec_l1Cur_one.calls (g:Nat) (s0_0:List Int) (s0_1:Int) (s0_2:Int) (a1:Int) (r1:Bool) (r2:Int) (r3:Int) (w0 w:World) (hI:IsS61 w0 w g s0_0 s0_1 s0_2) (hB:Below w0.heap.size w0 w) (h:spec_l1Cur_one.f s0_0 s0_1 s0_2 a1=some (r1,r2,r3)) :
  Calls Try.prog 86 #[.pointer (some ⟨g,0,none⟩),.int .i64 a1] w fun e w'=>e=.returned (.bool r1)∧IsS61 w0 w' g s0_0 r2 r3∧Below w0.heap.size w0 w'∧KeepBut w w' g none:=by
 have HI0:=aM0 hI
 have HK:=aM0 (KeepBut.refl w g none)
 have HL:=aM0 hB.size
 clear hI
 have HW0:=aM0 hB.size
 have HB:=aM0 hB
 clear hB
 have H:((spec_l1Cur_pick.f s0_0 s0_1 s0_2 a1).bind fun bt112=>(some ((bt112.1 == 0),bt112.2.1,bt112.2.2)))=some (r1,r2,r3):=h
 clear h
 replace H:=bI0.mp H
 obtain ⟨⟨t112,t113,t114⟩,A30,H⟩:=H
 replace H:(some ((t112 == 0),t113,t114))=some (r1,r2,r3):=H
 have A3:=aM0 A30
 clear A30
 simp only [Option.some.injEq,Prod.mk.injEq] at H
 obtain ⟨rfl,rfl,rfl⟩:=H
 go_enter Try.func86,Try.ntmps86
 go_wp2_with (first|((with_reducible refine gate_callee (f:=53) rfl ?_);refine goesL_ (some 7) rfl rfl Try.func53 (zsx0_6) rfl #[.pointer (some ⟨g,0,none⟩),.int .i64 a1] rfl (zsx0_7) ?_;(with_reducible refine (spec_l1Cur_pick.calls g s0_0 s0_1 s0_2 a1 t112 t113 t114 w0 _ ?side1 ?side2 A3.out).mono ?_);(case side1=>exact zsx0_5);(case side2=>exact zsx0_3);rintro e w4 ⟨rfl,hi,hb,hk⟩;refine ⟨_,rfl,?_⟩;have n0_:=aM0 (kT0 (zsx0_4) hk (.inl rfl));have n1_:=aM0 (hb);have n2_:=aM0 (hi);clear HK HB HI0;have HK:=n0_;have HB:=n1_;have HI0:=n2_;clear n0_ n1_ n2_;(try clear hb);(try clear hb2);(try clear hk);(try clear hi)))
 go_ret
 exact ⟨zsx0_1,zsx0_5,zsx0_3,zsx0_4⟩
def spec_l1Cur_grid.f (s0_0:List Int) (s0_1:Int) (s0_2:Int):Option (Int × Int × Int × Int × Int):=(spec_l1Cur_one.f s0_0 s0_1 s0_2 24).bind fun bt116=>(if bt116.1=true then ((some (([(⟨8,5,3⟩:S84),(⟨8,3,5⟩:S84),(⟨4,6,5⟩:S84),(⟨1,1,1⟩:S84)]:List (S84)):List (S84))).bind fun y119=>((spec_l1Cur_pick.f s0_0 bt116.2.1 bt116.2.2 4).bind fun bt122=>(if 0≤bt122.1 then (if bt122.1 < (y119.length:Int) then (some ((rd_T84 y119 bt122.1).f0,(rd_T84 y119 bt122.1).f1,(rd_T84 y119 bt122.1).f2,bt122.2.1,bt122.2.2)) else (none)) else (none)))) else ((spec_l1Cur_pick.f s0_0 bt116.2.1 bt116.2.2 4).bind fun bt126=>((spec_l1Cur_pick.f s0_0 bt126.2.1 bt126.2.2 3).bind fun bt129=>((spec_l1Cur_pick.f s0_0 bt129.2.1 bt129.2.2 3).bind fun bt132=>(some (wrap64 (1 + bt126.1),wrap64 (1 + bt129.1),wrap64 (1 + bt132.1),bt132.2.1,bt132.2.2))))))
set_option maxHeartbeats 8000000 in
set_option maxRecDepth 100000 in
theorem spec_l1Cur_grid.calls (g:Nat) (s0_0:List Int) (s0_1:Int) (s0_2:Int) (r1:Int) (r2:Int) (r3:Int) (r4:Int) (r5:Int) (w0 w:World) (hI:IsS61 w0 w g s0_0 s0_1 s0_2) (hB:Below w0.heap.size w0 w) (h:spec_l1Cur_grid.f s0_0 s0_1 s0_2=some (r1,r2,r3,r4,r5)) :
  Calls Try.prog 89 #[.pointer (some ⟨g,0,none⟩)] w fun e w'=>e=.returned (.agg #[.int .i64 r1,.int .i64 r2,.int .i64 r3])∧IsS61 w0 w' g s0_0 r4 r5∧Below w0.heap.size w0 w'∧KeepBut w w' g none:=by
 have hu84:=Try.underlying84
 have HI0:=aM0 hI
 have HK:=aM0 (KeepBut.refl w g none)
 have HL:=aM0 hB.size
 clear hI
 have HW0:=aM0 hB.size
 have HB:=aM0 hB
 clear hB
 have H:((spec_l1Cur_one.f s0_0 s0_1 s0_2 24).bind fun bt116=>(if bt116.1=true then ((some (([(⟨8,5,3⟩:S84),(⟨8,3,5⟩:S84),(⟨4,6,5⟩:S84),(⟨1,1,1⟩:S84)]:List (S84)):List (S84))).bind fun y119=>((spec_l1Cur_pick.f s0_0 bt116.2.1 bt116.2.2 4).bind fun bt122=>(if 0≤bt122.1 then (if bt122.1 < (y119.length:Int) then (some ((rd_T84 y119 bt122.1).f0,(rd_T84 y119 bt122.1).f1,(rd_T84 y119 bt122.1).f2,bt122.2.1,bt122.2.2)) else (none)) else (none)))) else ((spec_l1Cur_pick.f s0_0 bt116.2.1 bt116.2.2 4).bind fun bt126=>((spec_l1Cur_pick.f s0_0 bt126.2.1 bt126.2.2 3).bind fun bt129=>((spec_l1Cur_pick.f s0_0 bt129.2.1 bt129.2.2 3).bind fun bt132=>(some (wrap64 (1 + bt126.1),wrap64 (1 + bt129.1),wrap64 (1 + bt132.1),bt132.2.1,bt132.2.2)))))))=some (r1,r2,r3,r4,r5):=h
 clear h
 replace H:=bI0.mp H
 obtain ⟨⟨t116,t117,t118⟩,A20,H⟩:=H
 replace H:(if t116=true then ((some (([(⟨8,5,3⟩:S84),(⟨8,3,5⟩:S84),(⟨4,6,5⟩:S84),(⟨1,1,1⟩:S84)]:List (S84)):List (S84))).bind fun y119=>((spec_l1Cur_pick.f s0_0 t117 t118 4).bind fun bt122=>(if 0≤bt122.1 then (if bt122.1 < (y119.length:Int) then (some ((rd_T84 y119 bt122.1).f0,(rd_T84 y119 bt122.1).f1,(rd_T84 y119 bt122.1).f2,bt122.2.1,bt122.2.2)) else (none)) else (none)))) else ((spec_l1Cur_pick.f s0_0 t117 t118 4).bind fun bt126=>((spec_l1Cur_pick.f s0_0 bt126.2.1 bt126.2.2 3).bind fun bt129=>((spec_l1Cur_pick.f s0_0 bt129.2.1 bt129.2.2 3).bind fun bt132=>(some (wrap64 (1 + bt126.1),wrap64 (1 + bt129.1),wrap64 (1 + bt132.1),bt132.2.1,bt132.2.2))))))=some (r1,r2,r3,r4,r5):=H
 have A2:=aM0 A20
 clear A20
 by_cases c3:t116=true
 ·subst c3
  have H1:((some (([(⟨8,5,3⟩:S84),(⟨8,3,5⟩:S84),(⟨4,6,5⟩:S84),(⟨1,1,1⟩:S84)]:List (S84)):List (S84))).bind fun y119=>((spec_l1Cur_pick.f s0_0 t117 t118 4).bind fun bt122=>(if 0≤bt122.1 then (if bt122.1 < (y119.length:Int) then (some ((rd_T84 y119 bt122.1).f0,(rd_T84 y119 bt122.1).f1,(rd_T84 y119 bt122.1).f2,bt122.2.1,bt122.2.2)) else (none)) else (none))))=some (r1,r2,r3,r4,r5):=by rw [if_pos rfl] at H;exact H
  clear H
  have H:=H1
  clear H1
  obtain ⟨y119,hy119⟩:∃ y_:List (S84),y_=(([(⟨8,5,3⟩:S84),(⟨8,3,5⟩:S84),(⟨4,6,5⟩:S84),(⟨1,1,1⟩:S84)]:List (S84))):=⟨_,rfl⟩
  replace H:((spec_l1Cur_pick.f s0_0 t117 t118 4).bind fun bt122=>(if 0≤bt122.1 then (if bt122.1 < (y119.length:Int) then (some ((rd_T84 y119 bt122.1).f0,(rd_T84 y119 bt122.1).f1,(rd_T84 y119 bt122.1).f2,bt122.2.1,bt122.2.2)) else (none)) else (none)))=some (r1,r2,r3,r4,r5):=by first|(rw [hy119];with_reducible exact H)|(have H2_:=(Option.bind_some _ _).symm.trans H;rw [hy119];with_reducible exact H2_)|(have H2_:=(Option.bind_some _ _).symm.trans H;with_reducible exact H2_)|with_reducible exact H|(rw [hy119];exact H)|exact H
  have Ny119:=aM0 hy119
  clear hy119
  replace H:=bI0.mp H
  obtain ⟨⟨t122,t123,t124⟩,A40,H⟩:=H
  replace H:(if 0≤t122 then (if t122 < (y119.length:Int) then (some ((rd_T84 y119 t122).f0,(rd_T84 y119 t122).f1,(rd_T84 y119 t122).f2,t123,t124)) else (none)) else (none))=some (r1,r2,r3,r4,r5):=H
  have A4:=aM0 A40
  clear A40
  by_cases c5:0≤t122
  ·rw [if_pos c5] at H
   have c5b0:decide (0≤t122)=true:=dT0 c5
   clear c5
   by_cases c6:t122 < (y119.length:Int)
   ·rw [if_pos c6] at H
    have c6b0:decide (t122 < (y119.length:Int))=true:=dT0 c6
    clear c6
    simp only [Option.some.injEq,Prod.mk.injEq] at H
    obtain ⟨rfl,rfl,rfl,rfl,rfl⟩:=H
    go_enter Try.func89,Try.ntmps89
    go_wp2_with (first|((with_reducible refine gate_dst (N:=2) rfl ?_);refine box_event ?hg (N:=2) ?hd (cs:=#[.int .i64 0,.int .i64 0,.int .i64 0]) (t:=84) ?hr ?_;(case hd=>rfl);(case hg=>rfl);(case hr=>exact zsx0_28);intro gb115 hg w7 hbox hb;have n0_:=aM0 (IsS61.below (zsx0_5) hb);have n1_:=aM0 (kT0 (zsx0_4) (KeepBut.of_below hb g none) (.inl rfl));have n2_:=aM0 (below_step (zsx0_3) hb);have n3_:=aM0 (hbox);have n4_:=aM0 ((zsx0_29:w.heap.size≤gb115));have n5_:=aM0 ((Nat.le_trans HW0.out (zsx0_29:w.heap.size≤gb115):w0.heap.size≤gb115));have n6_:=aM0 ((by rw [hg];exact Nat.ne_of_lt (IsS61.lt (show IsS61 w0 _ g s0_0 s0_1 s0_2 from zsx0_5)):g≠gb115));have n7_:=aM0 ((by rw [hg];exact Nat.ne_of_gt (IsS61.lt (show IsS61 w0 _ g s0_0 s0_1 s0_2 from zsx0_5)):gb115≠g));clear HI0 HK HB;have HI0:=n0_;have HK:=n1_;have HB:=n2_;have BK115:=n3_;have GW115:=n4_;have GE115:=n5_;have NB0_115:=n6_;have NB115_0:=n7_;clear n0_ n1_ n2_ n3_ n4_ n5_ n6_ n7_ hb hbox hg)|((with_reducible refine gate_callee (f:=86) rfl ?_);refine goesL_ (some 4) rfl rfl Try.func86 (zsx0_6) rfl #[.pointer (some ⟨g,0,none⟩),.int .i64 24] rfl (zsx0_7) ?_;(with_reducible refine (spec_l1Cur_one.calls g s0_0 s0_1 s0_2 24 true t117 t118 w0 _ ?side1 ?side2 A2.out).mono ?_);(case side1=>exact zsx0_10);(case side2=>exact zsx0_11);rintro e w8 ⟨rfl,hi,hb,hk⟩;refine ⟨_,rfl,?_⟩;have n0_:=aM0 (KeepBut.blk hk (g':=gb115) (o:=.cells #[.int .i64 0,.int .i64 0,.int .i64 0] 84 (0,0)) (zsx0_8) NB115_0.out (by simp));have n1_:=aM0 (kT0 (zsx0_9) hk (.inl rfl));have n2_:=aM0 (hb);have n3_:=aM0 (hi);clear BK115 HK HB HI0;have BK115:=n0_;have HK:=n1_;have HB:=n2_;have HI0:=n3_;clear n0_ n1_ n2_ n3_;(try clear hb);(try clear hb2);(try clear hk);(try clear hi))|((with_reducible refine gate_dst (N:=9) rfl ?_);refine Kd.R_lit k84 _ 84 ?hg (N:=9) ?hd (xs:=([(⟨8,5,3⟩:S84),(⟨8,3,5⟩:S84),(⟨4,6,5⟩:S84),(⟨1,1,1⟩:S84)]:List (S84))) (inner:=[.int .i64 8,.int .i64 5,.int .i64 3,.int .i64 8,.int .i64 3,.int .i64 5,.int .i64 4,.int .i64 6,.int .i64 5,.int .i64 1,.int .i64 1,.int .i64 1]) (ok:=fun _=>True) (okp:=fun _=>True) ?hr ?hp (fun _ hk=>hk) trivial (Below.refl _ _) (Nat.le_refl _) (by simp) ?_;(case hd=>rfl);(case hg=>rfl);(case hr=>exact zsx0_28);(case hp=>exact (Reps.c3 (show Kd.M k84 _ _ _ (⟨8,5,3⟩:S84) [.int .i64 8,.int .i64 5,.int .i64 3] from (k84_mkM _ _ _ (⟨8,5,3⟩:S84) )) (Reps.c3 (show Kd.M k84 _ _ _ (⟨8,3,5⟩:S84) [.int .i64 8,.int .i64 3,.int .i64 5] from (k84_mkM _ _ _ (⟨8,3,5⟩:S84) )) (Reps.c3 (show Kd.M k84 _ _ _ (⟨4,6,5⟩:S84) [.int .i64 4,.int .i64 6,.int .i64 5] from (k84_mkM _ _ _ (⟨4,6,5⟩:S84) )) (Reps.c3 (show Kd.M k84 _ _ _ (⟨1,1,1⟩:S84) [.int .i64 1,.int .i64 1,.int .i64 1] from (k84_mkM _ _ _ (⟨1,1,1⟩:S84) )) (Reps.none _ _))))));intro v120 w9 ho10 hb hg_ hnew_;clear hg_ hnew_;(first|rw [← Ny119.out] at ho10|(simp only [Int.reduceToNat] at ho10;rw [← Ny119.out] at ho10));have n0_:=aM0 (Kd.R_lower (Kd.R_newB ho10 (g:=gb115) (o:=.cells #[.int .i64 0,.int .i64 0,.int .i64 0] 84 (0,0)) (zsx0_8)) (keep_size (w:=w) (g:=g) (row:=none) (zsx0_9)));have n1_:=aM0 (IsS61.below (zsx0_10) hb);have n2_:=aM0 (blk_below (g:=gb115) (o:=.cells #[.int .i64 0,.int .i64 0,.int .i64 0] 84 (0,0)) (zsx0_8) hb);have n3_:=aM0 (kT0 (zsx0_9) (KeepBut.of_below hb g none) (.inl rfl));have n4_:=aM0 (below_step (zsx0_11) hb);clear HI0 BK115 HK HB;have HO121:=n0_;have HI0:=n1_;have BK115:=n2_;have HK:=n3_;have HB:=n4_;clear n0_ n1_ n2_ n3_ n4_ hb ho10)|((with_reducible refine gate_callee (f:=53) rfl ?_);refine goesL_ (some 11) rfl rfl Try.func53 (zsx0_6) rfl #[.pointer (some ⟨g,0,none⟩),.int .i64 4] rfl (zsx0_7) ?_;(with_reducible refine (spec_l1Cur_pick.calls g s0_0 t117 t118 4 t122 t123 t124 w0 _ ?side1 ?side2 A4.out).mono ?_);(case side1=>exact zsx0_10);(case side2=>exact zsx0_11);rintro e w11 ⟨rfl,hi,hb,hk⟩;refine ⟨_,rfl,?_⟩;have n0_:=aM0 (KeepBut.blk hk (g':=gb115) (o:=.cells #[.int .i64 0,.int .i64 0,.int .i64 0] 84 (0,0)) (zsx0_8) NB115_0.out (by simp));have n1_:=aM0 (Kd.R_mono (Kd.R_keep (IsS61.apart (show IsS61 w0 _ g s0_0 t117 t118 from zsx0_10) (by (with_reducible repeat (first|apply Kd.R_alloc|apply Kd.R_drewN|apply Kd.R_drew));exact HO121.out) (by decide)) hk (fun _ h=>h.2)) (fun _ h=>h.1));have n2_:=aM0 (kT0 (zsx0_9) hk (.inl rfl));have n3_:=aM0 (hb);have n4_:=aM0 (hi);clear BK115 HO121 HK HB HI0;have BK115:=n0_;have HO121:=n1_;have HK:=n2_;have HB:=n3_;have HI0:=n4_;clear n0_ n1_ n2_ n3_ n4_;(try clear hb);(try clear hb2);(try clear hk);(try clear hi);obtain ⟨Ao12,co12,eo12⟩:=Kd.R_slice HO121.out;subst eo12;have p125:0≤(t122:Int):=oD0 (zsx0_0);have q125:t122 < (y119.length:Int):=oD0 (zsx0_0);obtain ⟨ad125,e125,hx125_0,hx125_1,hx125_2⟩:=at_T84 (Kd.R_reads' HO121.out).2.2 t122 p125 q125;cases e125;replace p125:=eq_true p125;replace q125:=eq_true q125;have hnb13:=NB115_0.out;have hnc13:=NB0_115.out;have hcz14_0:w11.cell? ⟨gb115,0,none⟩=some (.int .i64 0):=(bC0 BK115.out 0).trans rfl;have hcz14_1:w11.cell? ⟨gb115,1,none⟩=some (.int .i64 0):=(bC0 BK115.out 1).trans rfl;have hcz14_2:w11.cell? ⟨gb115,2,none⟩=some (.int .i64 0):=(bC0 BK115.out 2).trans rfl;have hfz14_0:=blk_frozen BK115.out 0;have hfz14_1:=blk_frozen BK115.out 1;have hfz14_2:=blk_frozen BK115.out 2))
    refine bodyPost_ret (results_cell_row rfl _ _ gb115 84 #[.int .i64 ((rd_T84 y119 t122).f0),.int .i64 ((rd_T84 y119 t122).f1),.int .i64 ((rd_T84 y119 t122).f2)] (0,0) _ rfl (by (with_reducible repeat (first|refine blk_drewN ?_ _|refine blk_drew ?_|refine blk_alloc ?_ _));refine blk_put (cs:=#[.int .i64 ((rd_T84 y119 t122).f0),.int .i64 ((rd_T84 y119 t122).f1),.int .i64 0]) ?_ 2 _ rfl;(with_reducible repeat (first|refine blk_drewN ?_ _|refine blk_drew ?_|refine blk_alloc ?_ _));refine blk_put (cs:=#[.int .i64 ((rd_T84 y119 t122).f0),.int .i64 0,.int .i64 0]) ?_ 1 _ rfl;(with_reducible repeat (first|refine blk_drewN ?_ _|refine blk_drew ?_|refine blk_alloc ?_ _));refine blk_put (cs:=#[.int .i64 0,.int .i64 0,.int .i64 0]) ?_ 0 _ rfl;(with_reducible repeat (first|refine blk_drewN ?_ _|refine blk_drew ?_|refine blk_alloc ?_ _));exact BK115.out) Try.underlying84 rfl (zsx0_6)) rfl ?_
    exact ⟨zsx0_1,zsx0_10,zsx0_11,zsx0_9⟩
   ·rw [if_neg c6] at H
    exact absurd H (by simp)
  ·rw [if_neg c5] at H
   exact absurd H (by simp)
 ·replace c3:=Bool.eq_false_iff.mpr c3
  subst c3
  have H1:((spec_l1Cur_pick.f s0_0 t117 t118 4).bind fun bt126=>((spec_l1Cur_pick.f s0_0 bt126.2.1 bt126.2.2 3).bind fun bt129=>((spec_l1Cur_pick.f s0_0 bt129.2.1 bt129.2.2 3).bind fun bt132=>(some (wrap64 (1 + bt126.1),wrap64 (1 + bt129.1),wrap64 (1 + bt132.1),bt132.2.1,bt132.2.2)))))=some (r1,r2,r3,r4,r5):=by rw [if_neg (show ¬ (false=true) by decide)] at H;exact H
  clear H
  have H:=H1
  clear H1
  replace H:=bI0.mp H
  obtain ⟨⟨t126,t127,t128⟩,A150,H⟩:=H
  replace H:((spec_l1Cur_pick.f s0_0 t127 t128 3).bind fun bt129=>((spec_l1Cur_pick.f s0_0 bt129.2.1 bt129.2.2 3).bind fun bt132=>(some (wrap64 (1 + t126),wrap64 (1 + bt129.1),wrap64 (1 + bt132.1),bt132.2.1,bt132.2.2))))=some (r1,r2,r3,r4,r5):=H
  have A15:=aM0 A150
  clear A150
  replace H:=bI0.mp H
  obtain ⟨⟨t129,t130,t131⟩,A160,H⟩:=H
  replace H:((spec_l1Cur_pick.f s0_0 t130 t131 3).bind fun bt132=>(some (wrap64 (1 + t126),wrap64 (1 + t129),wrap64 (1 + bt132.1),bt132.2.1,bt132.2.2)))=some (r1,r2,r3,r4,r5):=H
  have A16:=aM0 A160
  clear A160
  replace H:=bI0.mp H
  obtain ⟨⟨t132,t133,t134⟩,A170,H⟩:=H
  replace H:(some (wrap64 (1 + t126),wrap64 (1 + t129),wrap64 (1 + t132),t133,t134))=some (r1,r2,r3,r4,r5):=H
  have A17:=aM0 A170
  clear A170
  simp only [Option.some.injEq,Prod.mk.injEq] at H
  obtain ⟨rfl,rfl,rfl,rfl,rfl⟩:=H
  go_enter Try.func89,Try.ntmps89
  go_wp2_with (first|((with_reducible refine gate_dst (N:=2) rfl ?_);refine box_event ?hg (N:=2) ?hd (cs:=#[.int .i64 0,.int .i64 0,.int .i64 0]) (t:=84) ?hr ?_;(case hd=>rfl);(case hg=>rfl);(case hr=>exact zsx0_28);intro gb115 hg w18 hbox hb;have n0_:=aM0 (IsS61.below (zsx0_5) hb);have n1_:=aM0 (kT0 (zsx0_4) (KeepBut.of_below hb g none) (.inl rfl));have n2_:=aM0 (below_step (zsx0_3) hb);have n3_:=aM0 (hbox);have n4_:=aM0 ((zsx0_29:w.heap.size≤gb115));have n5_:=aM0 ((Nat.le_trans HW0.out (zsx0_29:w.heap.size≤gb115):w0.heap.size≤gb115));have n6_:=aM0 ((by rw [hg];exact Nat.ne_of_lt (IsS61.lt (show IsS61 w0 _ g s0_0 s0_1 s0_2 from zsx0_5)):g≠gb115));have n7_:=aM0 ((by rw [hg];exact Nat.ne_of_gt (IsS61.lt (show IsS61 w0 _ g s0_0 s0_1 s0_2 from zsx0_5)):gb115≠g));clear HI0 HK HB;have HI0:=n0_;have HK:=n1_;have HB:=n2_;have BK115:=n3_;have GW115:=n4_;have GE115:=n5_;have NB0_115:=n6_;have NB115_0:=n7_;clear n0_ n1_ n2_ n3_ n4_ n5_ n6_ n7_ hb hbox hg)|((with_reducible refine gate_callee (f:=86) rfl ?_);refine goesL_ (some 4) rfl rfl Try.func86 (zsx0_6) rfl #[.pointer (some ⟨g,0,none⟩),.int .i64 24] rfl (zsx0_7) ?_;(with_reducible refine (spec_l1Cur_one.calls g s0_0 s0_1 s0_2 24 false t117 t118 w0 _ ?side1 ?side2 A2.out).mono ?_);(case side1=>exact zsx0_10);(case side2=>exact zsx0_11);rintro e w19 ⟨rfl,hi,hb,hk⟩;refine ⟨_,rfl,?_⟩;have n0_:=aM0 (KeepBut.blk hk (g':=gb115) (o:=.cells #[.int .i64 0,.int .i64 0,.int .i64 0] 84 (0,0)) (zsx0_8) NB115_0.out (by simp));have n1_:=aM0 (kT0 (zsx0_9) hk (.inl rfl));have n2_:=aM0 (hb);have n3_:=aM0 (hi);clear BK115 HK HB HI0;have BK115:=n0_;have HK:=n1_;have HB:=n2_;have HI0:=n3_;clear n0_ n1_ n2_ n3_;(try clear hb);(try clear hb2);(try clear hk);(try clear hi))|((with_reducible refine gate_callee (f:=53) rfl ?_);refine goesL_ (some 15) rfl rfl Try.func53 (zsx0_6) rfl #[.pointer (some ⟨g,0,none⟩),.int .i64 4] rfl (zsx0_7) ?_;(with_reducible refine (spec_l1Cur_pick.calls g s0_0 t117 t118 4 t126 t127 t128 w0 _ ?side1 ?side2 A15.out).mono ?_);(case side1=>exact zsx0_10);(case side2=>exact zsx0_11);rintro e w20 ⟨rfl,hi,hb,hk⟩;refine ⟨_,rfl,?_⟩;have n0_:=aM0 (KeepBut.blk hk (g':=gb115) (o:=.cells #[.int .i64 0,.int .i64 0,.int .i64 0] 84 (0,0)) (zsx0_8) NB115_0.out (by simp));have n1_:=aM0 (kT0 (zsx0_9) hk (.inl rfl));have n2_:=aM0 (hb);have n3_:=aM0 (hi);clear BK115 HK HB HI0;have BK115:=n0_;have HK:=n1_;have HB:=n2_;have HI0:=n3_;clear n0_ n1_ n2_ n3_;(try clear hb);(try clear hb2);(try clear hk);(try clear hi))|((with_reducible refine gate_callee (f:=53) rfl ?_);refine goesL_ (some 18) rfl rfl Try.func53 (zsx0_6) rfl #[.pointer (some ⟨g,0,none⟩),.int .i64 3] rfl (zsx0_7) ?_;(with_reducible refine (spec_l1Cur_pick.calls g s0_0 t127 t128 3 t129 t130 t131 w0 _ ?side1 ?side2 A16.out).mono ?_);(case side1=>exact zsx0_10);(case side2=>exact zsx0_11);rintro e w21 ⟨rfl,hi,hb,hk⟩;refine ⟨_,rfl,?_⟩;have n0_:=aM0 (KeepBut.blk hk (g':=gb115) (o:=.cells #[.int .i64 0,.int .i64 0,.int .i64 0] 84 (0,0)) (zsx0_8) NB115_0.out (by simp));have n1_:=aM0 (kT0 (zsx0_9) hk (.inl rfl));have n2_:=aM0 (hb);have n3_:=aM0 (hi);clear BK115 HK HB HI0;have BK115:=n0_;have HK:=n1_;have HB:=n2_;have HI0:=n3_;clear n0_ n1_ n2_ n3_;(try clear hb);(try clear hb2);(try clear hk);(try clear hi))|((with_reducible refine gate_callee (f:=53) rfl ?_);refine goesL_ (some 21) rfl rfl Try.func53 (zsx0_6) rfl #[.pointer (some ⟨g,0,none⟩),.int .i64 3] rfl (zsx0_7) ?_;(with_reducible refine (spec_l1Cur_pick.calls g s0_0 t130 t131 3 t132 t133 t134 w0 _ ?side1 ?side2 A17.out).mono ?_);(case side1=>exact zsx0_10);(case side2=>exact zsx0_11);rintro e w22 ⟨rfl,hi,hb,hk⟩;refine ⟨_,rfl,?_⟩;have n0_:=aM0 (KeepBut.blk hk (g':=gb115) (o:=.cells #[.int .i64 0,.int .i64 0,.int .i64 0] 84 (0,0)) (zsx0_8) NB115_0.out (by simp));have n1_:=aM0 (kT0 (zsx0_9) hk (.inl rfl));have n2_:=aM0 (hb);have n3_:=aM0 (hi);clear BK115 HK HB HI0;have BK115:=n0_;have HK:=n1_;have HB:=n2_;have HI0:=n3_;clear n0_ n1_ n2_ n3_;(try clear hb);(try clear hb2);(try clear hk);(try clear hi);have hnb23:=NB115_0.out;have hnc23:=NB0_115.out;have hcz24_0:w22.cell? ⟨gb115,0,none⟩=some (.int .i64 0):=(bC0 BK115.out 0).trans rfl;have hcz24_1:w22.cell? ⟨gb115,1,none⟩=some (.int .i64 0):=(bC0 BK115.out 1).trans rfl;have hcz24_2:w22.cell? ⟨gb115,2,none⟩=some (.int .i64 0):=(bC0 BK115.out 2).trans rfl;have hfz24_0:=blk_frozen BK115.out 0;have hfz24_1:=blk_frozen BK115.out 1;have hfz24_2:=blk_frozen BK115.out 2))
  refine bodyPost_ret (results_cell_row rfl _ _ gb115 84 #[.int .i64 (wrap64 (1 + t126)),.int .i64 (wrap64 (1 + t129)),.int .i64 (wrap64 (1 + t132))] (0,0) _ rfl (by (with_reducible repeat (first|refine blk_drewN ?_ _|refine blk_drew ?_|refine blk_alloc ?_ _));refine blk_put (cs:=#[.int .i64 (wrap64 (1 + t126)),.int .i64 (wrap64 (1 + t129)),.int .i64 0]) ?_ 2 _ rfl;(with_reducible repeat (first|refine blk_drewN ?_ _|refine blk_drew ?_|refine blk_alloc ?_ _));refine blk_put (cs:=#[.int .i64 (wrap64 (1 + t126)),.int .i64 0,.int .i64 0]) ?_ 1 _ rfl;(with_reducible repeat (first|refine blk_drewN ?_ _|refine blk_drew ?_|refine blk_alloc ?_ _));refine blk_put (cs:=#[.int .i64 0,.int .i64 0,.int .i64 0]) ?_ 0 _ rfl;(with_reducible repeat (first|refine blk_drewN ?_ _|refine blk_drew ?_|refine blk_alloc ?_ _));exact BK115.out) Try.underlying84 rfl (zsx0_6)) rfl ?_
  exact ⟨zsx0_1,zsx0_10,zsx0_11,zsx0_9⟩
def spec_l1Put.l0:Nat→List Int→Int→Int→Option (List Int)
 | 0,_,_,_=>none
 | k + 1,x0,x1,x5=>if x5 < (x0.length:Int) then (if 0≤x5 then (if (rd x0 x5) < x1 then (spec_l1Put.l0 k x0 x1 (wrap64 (x5 + 1))) else (if (rd x0 x5)=x1 then (some x0) else ((some (([]:List Int):List Int)).bind fun y137=>(if x5≤(x0.length:Int) then ((some (x0.take (x5:Int).toNat:List Int)).bind fun y140=>(if y137.length + y140.length < 17592186044416 then ((some (y137 ++ y140:List Int)).bind fun y144=>(if y144.length < 17592186044416 then ((some (y144 ++ [x1]:List Int)).bind fun y147=>((some (x0.drop (x5:Int).toNat:List Int)).bind fun y150=>(if y147.length + y150.length < 17592186044416 then (some (y147 ++ y150)) else (none)))) else (none))) else (none))) else (none))))) else (none)) else ((some (([]:List Int):List Int)).bind fun y157=>(if 0≤x5 then (if x5≤(x0.length:Int) then ((some (x0.take (x5:Int).toNat:List Int)).bind fun y160=>(if y157.length + y160.length < 17592186044416 then ((some (y157 ++ y160:List Int)).bind fun y164=>(if y164.length < 17592186044416 then ((some (y164 ++ [x1]:List Int)).bind fun y167=>((some (x0.drop (x5:Int).toNat:List Int)).bind fun y170=>(if y167.length + y170.length < 17592186044416 then (some (y167 ++ y170)) else (none)))) else (none))) else (none))) else (none)) else (none)))
def spec_l1Put.f (k:Nat) (l0:List Int) (a1:Int):Option (List Int):=spec_l1Put.l0 k l0 a1 0
set_option maxHeartbeats 8000000 in
set_option maxRecDepth 100000 in
theorem spec_l1Put.calls (k:Nat) (P0_:Nat→Prop) (u9000_:Value) (l0:List Int) (a1:Int) (r:List Int) (w0 w:World) (hB:Below w0.heap.size w0 w) (ho0:Kd.R (Kd.int .i64) 3 w w0.heap.size P0_ u9000_ l0) (h:spec_l1Put.f k l0 a1=some r) :
  Calls Try.prog 85 #[u9000_,.int .i64 a1] w fun e w'=>∃ v0_:Value,e=.returned (v0_)∧Kd.R (Kd.int .i64) 3 w' w0.heap.size (fun k_=>(P0_ k_ ∨ w.heap.size≤k_)) v0_ r∧Below w0.heap.size w0 w'∧Kept w w' (fun k_=>P0_ k_):=by
 have HO0:=aM0 (show Kd.R (Kd.int .i64) 3 w w0.heap.size (fun k_=>(P0_ k_ ∨ w.heap.size≤k_)) u9000_ l0 from Kd.R_mono ho0 (fun k_ hk=>(.inl hk)))
 have HK:=aM0 (Kept.refl w (fun k_=>P0_ k_))
 have HW0:=aM0 hB.size
 have HB:=aM0 hB
 clear hB
 have H:(spec_l1Put.l0 k l0 a1 0)=some r:=h
 clear h
 have H':=aM0 H
 clear H
 go_enter Try.func85,Try.ntmps85
 go_wp2
 go_loopg [5] k (fun kq v5 w'=>∃ (x5_1:Int),v5=.int .i64 x5_1∧Aside0 (spec_l1Put.l0 kq l0 a1 x5_1=some r)∧Aside0 (kq≤k)∧Aside0 (Kd.R (Kd.int .i64) 3 w' w0.heap.size (fun k_=>(P0_ k_ ∨ w.heap.size≤k_)) u9000_ l0)∧Aside0 (Kept w w' (fun k_=>P0_ k_))∧Aside0 (Below w0.heap.size w0 w'))
 case atStart=>exact ⟨(0),(zsx0_12),H',⟨Nat.le_refl _⟩,⟨by (with_reducible repeat (first|apply Kd.R_alloc|apply Kd.R_drewN|apply Kd.R_drew));exact HO0.out⟩,⟨zsx0_13⟩,⟨zsx0_14⟩⟩
 case round =>
  clear H'
  try clear p2
  obtain ⟨x5_1,rfl,HA,HK1,HO_0,HK,HB⟩:=hrel
  cases gk with
  | zero=>exact absurd HA.out (by simp [spec_l1Put.l0])
  | succ k1 =>
   have H:=HA.out
   clear HA
   simp only [spec_l1Put.l0] at H
   by_cases c3:x5_1 < (l0.length:Int)
   ·rw [if_pos c3] at H
    have c3b0:decide (x5_1 < (l0.length:Int))=true:=dT0 c3
    clear c3
    by_cases c4:0≤x5_1
    ·rw [if_pos c4] at H
     have c4b0:decide (0≤x5_1)=true:=dT0 c4
     clear c4
     by_cases c5:(rd l0 x5_1) < a1
     ·rw [if_pos c5] at H
      have c5b0:decide ((rd l0 x5_1) < a1)=true:=dT0 c5
      clear c5
      have H':=aM0 H
      clear H
      obtain ⟨Ao6,co6,eo6⟩:=Kd.R_slice HO_0.out
      subst eo6
      have p135:0≤(x5_1:Int):=oD0 (zsx0_0)
      have q135:x5_1 < (l0.length:Int):=oD0 (zsx0_0)
      obtain ⟨ad135,e135,hx135_0⟩:=Kd.at_int (Kd.R_reads' HO_0.out).2.2 x5_1 p135 q135
      cases e135
      replace p135:=eq_true p135
      replace q135:=eq_true q135
      go_wp2
      go_roundg k1
      case measure=>have:=HK1.out;omega
      case rel=>exact ⟨(wrap64 (x5_1 + 1)),(zsx0_12),H',⟨by have:=HK1.out;omega⟩,⟨zsx0_15⟩,⟨zsx0_13⟩,⟨zsx0_14⟩⟩
     ·rw [if_neg c5] at H
      have c5b0:decide ((rd l0 x5_1) < a1)=false:=decide_eq_false c5
      clear c5
      by_cases c7:(rd l0 x5_1)=a1
      ·rw [if_pos c7] at H
       have c7b0:((rd l0 x5_1) == a1)=true:=beq_iff_eq.mpr c7
       have c7b1:((rd l0 x5_1) != a1)=false:=bne_eq_false_iff_eq.mpr c7
       clear c7
       obtain rfl:=Option.some.inj H
       obtain ⟨Ao8,co8,eo8⟩:=Kd.R_slice HO_0.out
       subst eo8
       have p135:0≤(x5_1:Int):=oD0 (zsx0_0)
       have q135:x5_1 < (l0.length:Int):=oD0 (zsx0_0)
       obtain ⟨ad135,e135,hx135_0⟩:=Kd.at_int (Kd.R_reads' HO_0.out).2.2 x5_1 p135 q135
       cases e135
       replace p135:=eq_true p135
       replace q135:=eq_true q135
       have p136:0≤(x5_1:Int):=oD0 (zsx0_0)
       have q136:x5_1 < (l0.length:Int):=oD0 (zsx0_0)
       obtain ⟨ad136,e136,hx136_0⟩:=Kd.at_int (Kd.R_reads' HO_0.out).2.2 x5_1 p136 q136
       obtain rfl:ad135=ad136:=(by injection e136)
       replace p136:=eq_true p136
       replace q136:=eq_true q136
       go_wp2
       go_ret
       exact ⟨_,zsx0_1,zsx0_15,zsx0_14,zsx0_13⟩
      ·rw [if_neg c7] at H
       have c7b0:((rd l0 x5_1) == a1)=false:=beq_eq_false_iff_ne.mpr c7
       have c7b1:((rd l0 x5_1) != a1)=true:=bne_iff_ne.mpr c7
       obtain ⟨y137,hy137⟩:∃ y_:List Int,y_=(([]:List Int)):=⟨_,rfl⟩
       replace H:(if x5_1≤(l0.length:Int) then ((some (l0.take (x5_1:Int).toNat:List Int)).bind fun y140=>(if y137.length + y140.length < 17592186044416 then ((some (y137 ++ y140:List Int)).bind fun y144=>(if y144.length < 17592186044416 then ((some (y144 ++ [a1]:List Int)).bind fun y147=>((some (l0.drop (x5_1:Int).toNat:List Int)).bind fun y150=>(if y147.length + y150.length < 17592186044416 then (some (y147 ++ y150)) else (none)))) else (none))) else (none))) else (none))=some r:=by first|(rw [hy137];with_reducible exact H)|(have H2_:=(Option.bind_some _ _).symm.trans H;rw [hy137];with_reducible exact H2_)|(have H2_:=(Option.bind_some _ _).symm.trans H;with_reducible exact H2_)|with_reducible exact H|(rw [hy137];exact H)|exact H
       have Ny137:=aM0 hy137
       clear hy137
       have c9b0:=eq_true (oD0 (zsx0_0):0≤x5_1)
       by_cases c10:x5_1≤(l0.length:Int)
       ·rw [if_pos c10] at H
        have c10b0:=eq_true c10
        have c10b1:decide (x5_1≤(l0.length:Int))=true:=dT0 c10
        clear c10
        obtain ⟨y140,hy140⟩:∃ y_:List Int,y_=(l0.take (x5_1:Int).toNat):=⟨_,rfl⟩
        replace H:(if y137.length + y140.length < 17592186044416 then ((some (y137 ++ y140:List Int)).bind fun y144=>(if y144.length < 17592186044416 then ((some (y144 ++ [a1]:List Int)).bind fun y147=>((some (l0.drop (x5_1:Int).toNat:List Int)).bind fun y150=>(if y147.length + y150.length < 17592186044416 then (some (y147 ++ y150)) else (none)))) else (none))) else (none))=some r:=by first|(rw [hy140];with_reducible exact H)|(have H2_:=(Option.bind_some _ _).symm.trans H;rw [hy140];with_reducible exact H2_)|(have H2_:=(Option.bind_some _ _).symm.trans H;with_reducible exact H2_)|with_reducible exact H|(rw [hy140];exact H)|exact H
        have Ny140:=aM0 hy140
        clear hy140
        by_cases c11:y137.length + y140.length < 17592186044416
        ·rw [if_pos c11] at H
         have LMc11:=aM0 c11
         clear c11
         obtain ⟨y144,hy144⟩:∃ y_:List Int,y_=(y137 ++ y140):=⟨_,rfl⟩
         replace H:(if y144.length < 17592186044416 then ((some (y144 ++ [a1]:List Int)).bind fun y147=>((some (l0.drop (x5_1:Int).toNat:List Int)).bind fun y150=>(if y147.length + y150.length < 17592186044416 then (some (y147 ++ y150)) else (none)))) else (none))=some r:=by first|(rw [hy144];with_reducible exact H)|(have H2_:=(Option.bind_some _ _).symm.trans H;rw [hy144];with_reducible exact H2_)|(have H2_:=(Option.bind_some _ _).symm.trans H;with_reducible exact H2_)|with_reducible exact H|(rw [hy144];exact H)|exact H
         have Ny144:=aM0 hy144
         clear hy144
         by_cases c12:y144.length < 17592186044416
         ·rw [if_pos c12] at H
          have LMc12:=aM0 c12
          clear c12
          obtain ⟨y147,hy147⟩:∃ y_:List Int,y_=(y144 ++ [a1]):=⟨_,rfl⟩
          replace H:((some (l0.drop (x5_1:Int).toNat:List Int)).bind fun y150=>(if y147.length + y150.length < 17592186044416 then (some (y147 ++ y150)) else (none)))=some r:=by first|(rw [hy147];with_reducible exact H)|(have H2_:=(Option.bind_some _ _).symm.trans H;rw [hy147];with_reducible exact H2_)|(have H2_:=(Option.bind_some _ _).symm.trans H;with_reducible exact H2_)|with_reducible exact H|(rw [hy147];exact H)|exact H
          have Ny147:=aM0 hy147
          clear hy147
          have c13b0:=eq_true (oD0 (zsx0_0):0≤x5_1)
          have c14b0:=eq_true (oD0 (zsx0_0):x5_1≤(l0.length:Int))
          obtain ⟨y150,hy150⟩:∃ y_:List Int,y_=(l0.drop (x5_1:Int).toNat):=⟨_,rfl⟩
          replace H:(if y147.length + y150.length < 17592186044416 then (some (y147 ++ y150)) else (none))=some r:=by first|(rw [hy150];with_reducible exact H)|(have H2_:=(Option.bind_some _ _).symm.trans H;rw [hy150];with_reducible exact H2_)|(have H2_:=(Option.bind_some _ _).symm.trans H;with_reducible exact H2_)|with_reducible exact H|(rw [hy150];exact H)|exact H
          have Ny150:=aM0 hy150
          clear hy150
          by_cases c15:y147.length + y150.length < 17592186044416
          ·rw [if_pos c15] at H
           have LMc15:=aM0 c15
           clear c15
           obtain ⟨y154,hy154⟩:∃ y_:List Int,y_=(y147 ++ y150):=⟨_,rfl⟩
           replace H:(some y154)=some r:=by first|(rw [hy154];with_reducible exact H)|(have H2_:=(Option.bind_some _ _).symm.trans H;rw [hy154];with_reducible exact H2_)|(have H2_:=(Option.bind_some _ _).symm.trans H;with_reducible exact H2_)|with_reducible exact H|(rw [hy154];exact H)|exact H
           have Ny154:=aM0 hy154
           clear hy154
           obtain rfl:=Option.some.inj H
           obtain ⟨Ao16,co16,eo16⟩:=Kd.R_slice HO_0.out
           subst eo16
           have p135:0≤(x5_1:Int):=oD0 (zsx0_0)
           have q135:x5_1 < (l0.length:Int):=oD0 (zsx0_0)
           obtain ⟨ad135,e135,hx135_0⟩:=Kd.at_int (Kd.R_reads' HO_0.out).2.2 x5_1 p135 q135
           cases e135
           replace p135:=eq_true p135
           replace q135:=eq_true q135
           have p136:0≤(x5_1:Int):=oD0 (zsx0_0)
           have q136:x5_1 < (l0.length:Int):=oD0 (zsx0_0)
           obtain ⟨ad136,e136,hx136_0⟩:=Kd.at_int (Kd.R_reads' HO_0.out).2.2 x5_1 p136 q136
           obtain rfl:ad135=ad136:=(by injection e136)
           replace p136:=eq_true p136
           replace q136:=eq_true q136
           go_wp2_with (first|((with_reducible refine gate_dst (N:=34) rfl ?_);refine Kd.R_lit (Kd.int .i64) _ 3 ?hg (N:=34) ?hd (xs:=([]:List Int)) (inner:=[]) (ok:=fun _=>True) (okp:=fun _=>True) ?hr ?hp (fun _ hk=>hk) trivial (Below.refl _ _) (Nat.le_refl _) (by simp) ?_;(case hd=>rfl);(case hg=>rfl);(case hr=>exact zsx0_28);(case hp=>exact (Reps.none _ _));intro v138 w17 ho18 hb hg_ hnew_;clear hg_ hnew_;(first|rw [← Ny137.out] at ho18|(simp only [Int.reduceToNat] at ho18;rw [← Ny137.out] at ho18));have n0_:=aM0 (Kd.R_elder' (zsx0_15) (Kd.R_base ho18) hb);have n1_:=aM0 (Kd.R_lower (Kd.R_new' (Kd.R_newM (M:=fun k_=>(P0_ k_ ∨ w.heap.size≤k_)) ho18 (zsx0_30) (fun k_ h_=>.inr h_)) (Kd.R_lt (zsx0_15))) (bZ0 (zsx0_14)));have n2_:=aM0 (Kept.below (S:=(fun k_=>P0_ k_)) (zsx0_13) hb);have n3_:=aM0 (below_step (zsx0_14) hb);clear HO_0 HK HB;have HO_0:=n0_;have HO139:=n1_;have HK:=n2_;have HB:=n3_;clear n0_ n1_ n2_ n3_ hb ho18;have q19:(x5_1:Int)≤((l0.length:Int):Int):=oD0 (zsx0_0);obtain ⟨i019,hi019,_,hsz19,_⟩:=info_parts info3;have hroom19:l0.length≤co16:=(Kd.R_reads' HO_0.out).2.1;have hC19:Kd.C (Kd.int .i64) _ (some ad135) l0.length l0:=(Kd.R_reads' HO_0.out).2.2;have hcut19:=cut_to (P:=Try.prog) 33 3 .i64 Try.underlying33 hi019 (some ad135) l0.length co16 x5_1 (oD0 (zsx0_0)) q19 hroom19;have hr19:=Kd.C_take (m:=(x5_1:Int).toNat) hC19 (by omega);have hy19:y140.length=(x5_1:Int).toNat:=(by rw [Ny140.out,List.length_take];omega);rw [← Ny140.out] at hr19;rw [← hy19] at hcut19;have HR143:=aM0 hr19;have HC143:=aM0 (show y140.length≤co16 from by omega);clear hr19 hC19 hroom19 hi019 hsz19;have KY19:=aM0 hy19;clear hy19;have KL19:=aM0 (show (x5_1:Int).toNat≤l0.length from by omega);replace q19:=eq_true q19)|((with_reducible refine gate_builtin (b:=.append) (xs:=#[.tmp 34,.tmp 37]) rfl ?_);at_builtin;refine Kd.R_append_rows (Kd.int .i64) (w0:=w0) w0.heap.size rfl (.tmp 34) (.tmp 37) 33 3 (.int .i64 0) 8 rfl Try.underlying33 info3 rfl (by decide) (by omega) v138 y137 y140 _ _ _ (fun k_=>(P0_ k_ ∨ w.heap.size≤k_)∧some k_≠(.slice (some ad135) l0.length co16:Value).ownBlock) (fun _=>False) rfl rfl ?aO ?aR (fun _ _ h=>h) (fun _ h=>h.elim) ?aF ?aB ?aS ?aL ?_;(case aR=>repeat (first|exact (by repeat (first|(with_reducible exact HR143.out)|(with_reducible refine Kd.C_alloc ?_ _)|(with_reducible refine Kd.C_drewN ?_ _)|(with_reducible refine Kd.C_drew ?_)|exact HR143.out))|(with_reducible refine Kd.C_alloc ?_ _)|(with_reducible refine Kd.C_drewN ?_ _)|(with_reducible refine Kd.C_drew ?_)));(case aB=>exact (zsx0_14));(case aF=>exact (fun k_ hk=>⟨(.inr (Nat.le_trans (zsx0_30) hk)),Kd.fresh' (Kd.R_lt (zsx0_15)) k_ hk⟩));(case aO=>exact (by (with_reducible repeat (first|apply Kd.R_alloc|apply Kd.R_drewN|apply Kd.R_drew));exact Kd.R_mono HO139.out (fun _ hk=>⟨hk.1.1,hk.2⟩)));(case aS=>exact (bZ0 (zsx0_14)));(case aL=>have:=LMc11.out;omega);intro v145 w20 ho hb hg hat;rw [← Ny144.out] at ho;have n0_:=aM0 (Kd.R_after (ok:=(fun k_=>(P0_ k_ ∨ w.heap.size≤k_))) (zsx0_15) hg hat);have n1_:=aM0 (hb);have n2_:=aM0 (Kept.of_grown (S:=(fun k_=>P0_ k_)) hg (zsx0_13) (fun k_ e_=>(HO139.out.1 k_ e_).1.1));have n3_:=aM0 ((show Kd.C (Kd.int .i64) w20 (some ad135) y140.length y140 from zsx0_31));have n4_:=aM0 (ho);clear HO_0 HB HK HR143 HO139;have HO_0:=n0_;have HB:=n1_;have HK:=n2_;have HR143:=n3_;have HO146:=n4_;clear n0_ n1_ n2_ n3_ n4_ ho hb hg hat)|((with_reducible refine gate_builtin (b:=.append) (xs:=#[.tmp 39,.tmp 41]) rfl ?_);at_builtin;refine Kd.R_append (Kd.int .i64) (w0:=w0) w0.heap.size rfl (.tmp 39) (.tmp 41) 33 3 (.int .i64 0) 8 rfl Try.underlying33 info3 rfl (by decide) (by omega) v145 y144 a1 [.int .i64 a1] (fun k_=>(P0_ k_ ∨ w.heap.size≤k_)∧some k_≠(.slice (some ad135) l0.length co16:Value).ownBlock) (fun _=>False) rfl rfl ?aP (fun _ hk=>hk.elim) ?aF ?aO ?aB ?aS ?aL ?_;(case aP=>exact rfl);(case aB=>exact (zsx0_14));(case aF=>exact (fun k_ hk=>⟨(.inr (Nat.le_trans (zsx0_30) hk)),Kd.fresh' (Kd.R_lt (zsx0_15)) k_ hk⟩));(case aO=>exact (by (with_reducible repeat (first|apply Kd.R_alloc|apply Kd.R_drewN|apply Kd.R_drew));exact HO146.out));(case aS=>exact (bZ0 (zsx0_14)));(case aL=>have:=LMc12.out;omega);intro v148 w21 ho hb hg hat;rw [← Ny147.out] at ho;have n0_:=aM0 (Kd.R_after (ok:=(fun k_=>(P0_ k_ ∨ w.heap.size≤k_))) (zsx0_15) hg hat);have n1_:=aM0 (hb);have n2_:=aM0 (Kept.of_grown (S:=(fun k_=>P0_ k_)) hg (zsx0_13) (fun k_ e_=>(HO146.out.1 k_ e_).1));have n3_:=aM0 ((show Kd.C (Kd.int .i64) w21 (some ad135) y140.length y140 from zsx0_31));have n4_:=aM0 (ho);clear HO_0 HB HK HR143 HO146;have HO_0:=n0_;have HB:=n1_;have HK:=n2_;have HR143:=n3_;have HO149:=n4_;clear n0_ n1_ n2_ n3_ n4_ ho hb hg hat;have q22:(x5_1:Int)≤((l0.length:Int):Int):=oD0 (zsx0_0);obtain ⟨i022,hi022,_,hsz22,_⟩:=info_parts info3;have hroom22:l0.length≤co16:=(Kd.R_reads' HO_0.out).2.1;have hC22:Kd.C (Kd.int .i64) _ (some ad135) l0.length l0:=(Kd.R_reads' HO_0.out).2.2;have q022:(0:Int)≤(x5_1:Int):=oD0 (zsx0_0);have hcut22:=cut_from (P:=Try.prog) 33 3 .i64 Try.underlying33 hi022 1 hsz22 (some ad135) l0.length co16 x5_1 q022 q22;have hr22:=Kd.C_drop (m:=(x5_1:Int).toNat) (c:=co16) hC22 (by omega) hroom22;obtain ⟨A22,hA22⟩:∃ A1,A1=(if co16=(x5_1:Int).toNat then (some ad135) else ((some ad135):Option Addr).map (·.add ((x5_1:Int).toNat * 1))):=⟨_,rfl⟩;obtain ⟨c22,hc22⟩:∃ c1,c1=co16 - (x5_1:Int).toNat:=⟨_,rfl⟩;have hy22:y150.length=l0.length - (x5_1:Int).toNat:=(by rw [Ny150.out,List.length_drop] <;> omega);rw [show (l0).drop (x5_1:Int).toNat=y150 from Ny150.out.symm] at hr22;replace hr22:Kd.C (Kd.int .i64) _ A22 y150.length y150:=(by rw [hA22];exact hr22);rw [← hy22,← hA22,← hc22] at hcut22;have HR153:=aM0 hr22;have HC153:=aM0 (show y150.length≤c22 from by rw [hy22,hc22];exact Nat.sub_le_sub_right hroom22 _);clear hr22 hC22 hroom22 hi022 hsz22 hc22;have KY22:=aM0 hy22;have KA22:=aM0 hA22;clear hy22 hA22;have KL22:=aM0 (show (x5_1:Int).toNat≤l0.length from by omega);replace q22:=eq_true q22)|((with_reducible refine gate_builtin (b:=.append) (xs:=#[.tmp 43,.tmp 46]) rfl ?_);at_builtin;refine Kd.R_append_rows (Kd.int .i64) (w0:=w0) w0.heap.size rfl (.tmp 43) (.tmp 46) 33 3 (.int .i64 0) 8 rfl Try.underlying33 info3 rfl (by decide) (by omega) v148 y147 y150 _ _ _ (fun k_=>(P0_ k_ ∨ w.heap.size≤k_)∧some k_≠(.slice (some ad135) l0.length co16:Value).ownBlock) (fun _=>False) rfl rfl ?aO ?aR (fun _ _ h=>h) (fun _ h=>h.elim) ?aF ?aB ?aS ?aL ?_;(case aR=>repeat (first|exact (by repeat (first|(with_reducible exact HR153.out)|(with_reducible refine Kd.C_alloc ?_ _)|(with_reducible refine Kd.C_drewN ?_ _)|(with_reducible refine Kd.C_drew ?_)|exact HR153.out))|(with_reducible refine Kd.C_alloc ?_ _)|(with_reducible refine Kd.C_drewN ?_ _)|(with_reducible refine Kd.C_drew ?_)));(case aB=>exact (zsx0_14));(case aF=>exact (fun k_ hk=>⟨(.inr (Nat.le_trans (zsx0_30) hk)),Kd.fresh' (Kd.R_lt (zsx0_15)) k_ hk⟩));(case aO=>exact (by (with_reducible repeat (first|apply Kd.R_alloc|apply Kd.R_drewN|apply Kd.R_drew));exact HO149.out));(case aS=>exact (bZ0 (zsx0_14)));(case aL=>have:=LMc15.out;omega);intro v155 w23 ho hb hg hat;rw [← Ny154.out] at ho;have n0_:=aM0 (Kd.R_after (ok:=(fun k_=>(P0_ k_ ∨ w.heap.size≤k_))) (zsx0_15) hg hat);have n1_:=aM0 (hb);have n2_:=aM0 (Kept.of_grown (S:=(fun k_=>P0_ k_)) hg (zsx0_13) (fun k_ e_=>(HO149.out.1 k_ e_).1));have n3_:=aM0 ((show Kd.C (Kd.int .i64) w23 (some ad135) y140.length y140 from zsx0_31));have n4_:=aM0 ((show Kd.C (Kd.int .i64) w23 A22 y150.length y150 from by rw [Ny150.out,KA22.out];exact Kd.C_drop (m:=(x5_1:Int).toNat) (c:=co16) ((Kd.R_reads' (Kd.R_after (ok:=(fun k_=>(P0_ k_ ∨ w.heap.size≤k_))) (zsx0_15) hg hat)).2.2) KL22.out ((Kd.R_reads' (Kd.R_after (ok:=(fun k_=>(P0_ k_ ∨ w.heap.size≤k_))) (zsx0_15) hg hat)).2.1)));have n5_:=aM0 (ho);clear HO_0 HB HK HR143 HR153 HO149;have HO_0:=n0_;have HB:=n1_;have HK:=n2_;have HR143:=n3_;have HR153:=n4_;have HO156:=n5_;clear n0_ n1_ n2_ n3_ n4_ n5_ ho hb hg hat))
           go_ret
           exact ⟨_,zsx0_1,by (with_reducible repeat (first|apply Kd.R_alloc|apply Kd.R_drewN|apply Kd.R_drew));exact Kd.R_mono HO156.out (fun _ hk=>hk.1),zsx0_14,zsx0_13⟩
          ·rw [if_neg c15] at H
           exact absurd H (by simp)
         ·rw [if_neg c12] at H
          exact absurd H (by simp)
        ·rw [if_neg c11] at H
         exact absurd H (by simp)
       ·rw [if_neg c10] at H
        exact absurd H (by simp)
    ·rw [if_neg c4] at H
     exact absurd H (by simp)
   ·rw [if_neg c3] at H
    have c3b0:decide (x5_1 < (l0.length:Int))=false:=decide_eq_false c3
    clear c3
    obtain ⟨y157,hy157⟩:∃ y_:List Int,y_=(([]:List Int)):=⟨_,rfl⟩
    replace H:(if 0≤x5_1 then (if x5_1≤(l0.length:Int) then ((some (l0.take (x5_1:Int).toNat:List Int)).bind fun y160=>(if y157.length + y160.length < 17592186044416 then ((some (y157 ++ y160:List Int)).bind fun y164=>(if y164.length < 17592186044416 then ((some (y164 ++ [a1]:List Int)).bind fun y167=>((some (l0.drop (x5_1:Int).toNat:List Int)).bind fun y170=>(if y167.length + y170.length < 17592186044416 then (some (y167 ++ y170)) else (none)))) else (none))) else (none))) else (none)) else (none))=some r:=by first|(rw [hy157];with_reducible exact H)|(have H2_:=(Option.bind_some _ _).symm.trans H;rw [hy157];with_reducible exact H2_)|(have H2_:=(Option.bind_some _ _).symm.trans H;with_reducible exact H2_)|with_reducible exact H|(rw [hy157];exact H)|exact H
    have Ny157:=aM0 hy157
    clear hy157
    by_cases c24:0≤x5_1
    ·rw [if_pos c24] at H
     have c24b0:=eq_true c24
     have c24b1:decide (0≤x5_1)=true:=dT0 c24
     clear c24
     by_cases c25:x5_1≤(l0.length:Int)
     ·rw [if_pos c25] at H
      have c25b0:=eq_true c25
      have c25b1:decide (x5_1≤(l0.length:Int))=true:=dT0 c25
      clear c25
      obtain ⟨y160,hy160⟩:∃ y_:List Int,y_=(l0.take (x5_1:Int).toNat):=⟨_,rfl⟩
      replace H:(if y157.length + y160.length < 17592186044416 then ((some (y157 ++ y160:List Int)).bind fun y164=>(if y164.length < 17592186044416 then ((some (y164 ++ [a1]:List Int)).bind fun y167=>((some (l0.drop (x5_1:Int).toNat:List Int)).bind fun y170=>(if y167.length + y170.length < 17592186044416 then (some (y167 ++ y170)) else (none)))) else (none))) else (none))=some r:=by first|(rw [hy160];with_reducible exact H)|(have H2_:=(Option.bind_some _ _).symm.trans H;rw [hy160];with_reducible exact H2_)|(have H2_:=(Option.bind_some _ _).symm.trans H;with_reducible exact H2_)|with_reducible exact H|(rw [hy160];exact H)|exact H
      have Ny160:=aM0 hy160
      clear hy160
      by_cases c26:y157.length + y160.length < 17592186044416
      ·rw [if_pos c26] at H
       have LMc26:=aM0 c26
       clear c26
       obtain ⟨y164,hy164⟩:∃ y_:List Int,y_=(y157 ++ y160):=⟨_,rfl⟩
       replace H:(if y164.length < 17592186044416 then ((some (y164 ++ [a1]:List Int)).bind fun y167=>((some (l0.drop (x5_1:Int).toNat:List Int)).bind fun y170=>(if y167.length + y170.length < 17592186044416 then (some (y167 ++ y170)) else (none)))) else (none))=some r:=by first|(rw [hy164];with_reducible exact H)|(have H2_:=(Option.bind_some _ _).symm.trans H;rw [hy164];with_reducible exact H2_)|(have H2_:=(Option.bind_some _ _).symm.trans H;with_reducible exact H2_)|with_reducible exact H|(rw [hy164];exact H)|exact H
       have Ny164:=aM0 hy164
       clear hy164
       by_cases c27:y164.length < 17592186044416
       ·rw [if_pos c27] at H
        have LMc27:=aM0 c27
        clear c27
        obtain ⟨y167,hy167⟩:∃ y_:List Int,y_=(y164 ++ [a1]):=⟨_,rfl⟩
        replace H:((some (l0.drop (x5_1:Int).toNat:List Int)).bind fun y170=>(if y167.length + y170.length < 17592186044416 then (some (y167 ++ y170)) else (none)))=some r:=by first|(rw [hy167];with_reducible exact H)|(have H2_:=(Option.bind_some _ _).symm.trans H;rw [hy167];with_reducible exact H2_)|(have H2_:=(Option.bind_some _ _).symm.trans H;with_reducible exact H2_)|with_reducible exact H|(rw [hy167];exact H)|exact H
        have Ny167:=aM0 hy167
        clear hy167
        have c28b0:=eq_true (oD0 (zsx0_0):0≤x5_1)
        have c29b0:=eq_true (oD0 (zsx0_0):x5_1≤(l0.length:Int))
        obtain ⟨y170,hy170⟩:∃ y_:List Int,y_=(l0.drop (x5_1:Int).toNat):=⟨_,rfl⟩
        replace H:(if y167.length + y170.length < 17592186044416 then (some (y167 ++ y170)) else (none))=some r:=by first|(rw [hy170];with_reducible exact H)|(have H2_:=(Option.bind_some _ _).symm.trans H;rw [hy170];with_reducible exact H2_)|(have H2_:=(Option.bind_some _ _).symm.trans H;with_reducible exact H2_)|with_reducible exact H|(rw [hy170];exact H)|exact H
        have Ny170:=aM0 hy170
        clear hy170
        by_cases c30:y167.length + y170.length < 17592186044416
        ·rw [if_pos c30] at H
         have LMc30:=aM0 c30
         clear c30
         obtain ⟨y174,hy174⟩:∃ y_:List Int,y_=(y167 ++ y170):=⟨_,rfl⟩
         replace H:(some y174)=some r:=by first|(rw [hy174];with_reducible exact H)|(have H2_:=(Option.bind_some _ _).symm.trans H;rw [hy174];with_reducible exact H2_)|(have H2_:=(Option.bind_some _ _).symm.trans H;with_reducible exact H2_)|with_reducible exact H|(rw [hy174];exact H)|exact H
         have Ny174:=aM0 hy174
         clear hy174
         obtain rfl:=Option.some.inj H
         obtain ⟨Ao31,co31,eo31⟩:=Kd.R_slice HO_0.out
         subst eo31
         go_wp2_with (first|((with_reducible refine gate_dst (N:=34) rfl ?_);refine Kd.R_lit (Kd.int .i64) _ 3 ?hg (N:=34) ?hd (xs:=([]:List Int)) (inner:=[]) (ok:=fun _=>True) (okp:=fun _=>True) ?hr ?hp (fun _ hk=>hk) trivial (Below.refl _ _) (Nat.le_refl _) (by simp) ?_;(case hd=>rfl);(case hg=>rfl);(case hr=>exact zsx0_28);(case hp=>exact (Reps.none _ _));intro v158 w32 ho33 hb hg_ hnew_;clear hg_ hnew_;(first|rw [← Ny157.out] at ho33|(simp only [Int.reduceToNat] at ho33;rw [← Ny157.out] at ho33));have n0_:=aM0 (Kd.R_elder' (zsx0_15) (Kd.R_base ho33) hb);have n1_:=aM0 (Kd.R_lower (Kd.R_new' (Kd.R_newM (M:=fun k_=>(P0_ k_ ∨ w.heap.size≤k_)) ho33 (zsx0_30) (fun k_ h_=>.inr h_)) (Kd.R_lt (zsx0_15))) (bZ0 (zsx0_14)));have n2_:=aM0 (Kept.below (S:=(fun k_=>P0_ k_)) (zsx0_13) hb);have n3_:=aM0 (below_step (zsx0_14) hb);clear HO_0 HK HB;have HO_0:=n0_;have HO159:=n1_;have HK:=n2_;have HB:=n3_;clear n0_ n1_ n2_ n3_ hb ho33;have q34:(x5_1:Int)≤((l0.length:Int):Int):=oD0 (zsx0_0);obtain ⟨i034,hi034,_,hsz34,_⟩:=info_parts info3;have hroom34:l0.length≤co31:=(Kd.R_reads' HO_0.out).2.1;have hC34:Kd.C (Kd.int .i64) _ Ao31 l0.length l0:=(Kd.R_reads' HO_0.out).2.2;have hcut34:=cut_to (P:=Try.prog) 33 3 .i64 Try.underlying33 hi034 Ao31 l0.length co31 x5_1 (oD0 (zsx0_0)) q34 hroom34;have hr34:=Kd.C_take (m:=(x5_1:Int).toNat) hC34 (by omega);have hy34:y160.length=(x5_1:Int).toNat:=(by rw [Ny160.out,List.length_take];omega);rw [← Ny160.out] at hr34;rw [← hy34] at hcut34;have HR163:=aM0 hr34;have HC163:=aM0 (show y160.length≤co31 from by omega);clear hr34 hC34 hroom34 hi034 hsz34;have KY34:=aM0 hy34;clear hy34;have KL34:=aM0 (show (x5_1:Int).toNat≤l0.length from by omega);replace q34:=eq_true q34)|((with_reducible refine gate_builtin (b:=.append) (xs:=#[.tmp 34,.tmp 37]) rfl ?_);at_builtin;refine Kd.R_append_rows (Kd.int .i64) (w0:=w0) w0.heap.size rfl (.tmp 34) (.tmp 37) 33 3 (.int .i64 0) 8 rfl Try.underlying33 info3 rfl (by decide) (by omega) v158 y157 y160 _ _ _ (fun k_=>(P0_ k_ ∨ w.heap.size≤k_)∧some k_≠(.slice Ao31 l0.length co31:Value).ownBlock) (fun _=>False) rfl rfl ?aO ?aR (fun _ _ h=>h) (fun _ h=>h.elim) ?aF ?aB ?aS ?aL ?_;(case aR=>repeat (first|exact (by repeat (first|(with_reducible exact HR163.out)|(with_reducible refine Kd.C_alloc ?_ _)|(with_reducible refine Kd.C_drewN ?_ _)|(with_reducible refine Kd.C_drew ?_)|exact HR163.out))|(with_reducible refine Kd.C_alloc ?_ _)|(with_reducible refine Kd.C_drewN ?_ _)|(with_reducible refine Kd.C_drew ?_)));(case aB=>exact (zsx0_14));(case aF=>exact (fun k_ hk=>⟨(.inr (Nat.le_trans (zsx0_30) hk)),Kd.fresh' (Kd.R_lt (zsx0_15)) k_ hk⟩));(case aO=>exact (by (with_reducible repeat (first|apply Kd.R_alloc|apply Kd.R_drewN|apply Kd.R_drew));exact Kd.R_mono HO159.out (fun _ hk=>⟨hk.1.1,hk.2⟩)));(case aS=>exact (bZ0 (zsx0_14)));(case aL=>have:=LMc26.out;omega);intro v165 w35 ho hb hg hat;rw [← Ny164.out] at ho;have n0_:=aM0 (Kd.R_after (ok:=(fun k_=>(P0_ k_ ∨ w.heap.size≤k_))) (zsx0_15) hg hat);have n1_:=aM0 (hb);have n2_:=aM0 (Kept.of_grown (S:=(fun k_=>P0_ k_)) hg (zsx0_13) (fun k_ e_=>(HO159.out.1 k_ e_).1.1));have n3_:=aM0 ((show Kd.C (Kd.int .i64) w35 Ao31 y160.length y160 from zsx0_32));have n4_:=aM0 (ho);clear HO_0 HB HK HR163 HO159;have HO_0:=n0_;have HB:=n1_;have HK:=n2_;have HR163:=n3_;have HO166:=n4_;clear n0_ n1_ n2_ n3_ n4_ ho hb hg hat)|((with_reducible refine gate_builtin (b:=.append) (xs:=#[.tmp 39,.tmp 41]) rfl ?_);at_builtin;refine Kd.R_append (Kd.int .i64) (w0:=w0) w0.heap.size rfl (.tmp 39) (.tmp 41) 33 3 (.int .i64 0) 8 rfl Try.underlying33 info3 rfl (by decide) (by omega) v165 y164 a1 [.int .i64 a1] (fun k_=>(P0_ k_ ∨ w.heap.size≤k_)∧some k_≠(.slice Ao31 l0.length co31:Value).ownBlock) (fun _=>False) rfl rfl ?aP (fun _ hk=>hk.elim) ?aF ?aO ?aB ?aS ?aL ?_;(case aP=>exact rfl);(case aB=>exact (zsx0_14));(case aF=>exact (fun k_ hk=>⟨(.inr (Nat.le_trans (zsx0_30) hk)),Kd.fresh' (Kd.R_lt (zsx0_15)) k_ hk⟩));(case aO=>exact (by (with_reducible repeat (first|apply Kd.R_alloc|apply Kd.R_drewN|apply Kd.R_drew));exact HO166.out));(case aS=>exact (bZ0 (zsx0_14)));(case aL=>have:=LMc27.out;omega);intro v168 w36 ho hb hg hat;rw [← Ny167.out] at ho;have n0_:=aM0 (Kd.R_after (ok:=(fun k_=>(P0_ k_ ∨ w.heap.size≤k_))) (zsx0_15) hg hat);have n1_:=aM0 (hb);have n2_:=aM0 (Kept.of_grown (S:=(fun k_=>P0_ k_)) hg (zsx0_13) (fun k_ e_=>(HO166.out.1 k_ e_).1));have n3_:=aM0 ((show Kd.C (Kd.int .i64) w36 Ao31 y160.length y160 from zsx0_32));have n4_:=aM0 (ho);clear HO_0 HB HK HR163 HO166;have HO_0:=n0_;have HB:=n1_;have HK:=n2_;have HR163:=n3_;have HO169:=n4_;clear n0_ n1_ n2_ n3_ n4_ ho hb hg hat;have q37:(x5_1:Int)≤((l0.length:Int):Int):=oD0 (zsx0_0);obtain ⟨i037,hi037,_,hsz37,_⟩:=info_parts info3;have hroom37:l0.length≤co31:=(Kd.R_reads' HO_0.out).2.1;have hC37:Kd.C (Kd.int .i64) _ Ao31 l0.length l0:=(Kd.R_reads' HO_0.out).2.2;have q037:(0:Int)≤(x5_1:Int):=oD0 (zsx0_0);have hcut37:=cut_from (P:=Try.prog) 33 3 .i64 Try.underlying33 hi037 1 hsz37 Ao31 l0.length co31 x5_1 q037 q37;have hr37:=Kd.C_drop (m:=(x5_1:Int).toNat) (c:=co31) hC37 (by omega) hroom37;obtain ⟨A37,hA37⟩:∃ A1,A1=(if co31=(x5_1:Int).toNat then Ao31 else (Ao31:Option Addr).map (·.add ((x5_1:Int).toNat * 1))):=⟨_,rfl⟩;obtain ⟨c37,hc37⟩:∃ c1,c1=co31 - (x5_1:Int).toNat:=⟨_,rfl⟩;have hy37:y170.length=l0.length - (x5_1:Int).toNat:=(by rw [Ny170.out,List.length_drop] <;> omega);rw [show (l0).drop (x5_1:Int).toNat=y170 from Ny170.out.symm] at hr37;replace hr37:Kd.C (Kd.int .i64) _ A37 y170.length y170:=(by rw [hA37];exact hr37);rw [← hy37,← hA37,← hc37] at hcut37;have HR173:=aM0 hr37;have HC173:=aM0 (show y170.length≤c37 from by rw [hy37,hc37];exact Nat.sub_le_sub_right hroom37 _);clear hr37 hC37 hroom37 hi037 hsz37 hc37;have KY37:=aM0 hy37;have KA37:=aM0 hA37;clear hy37 hA37;have KL37:=aM0 (show (x5_1:Int).toNat≤l0.length from by omega);replace q37:=eq_true q37)|((with_reducible refine gate_builtin (b:=.append) (xs:=#[.tmp 43,.tmp 46]) rfl ?_);at_builtin;refine Kd.R_append_rows (Kd.int .i64) (w0:=w0) w0.heap.size rfl (.tmp 43) (.tmp 46) 33 3 (.int .i64 0) 8 rfl Try.underlying33 info3 rfl (by decide) (by omega) v168 y167 y170 _ _ _ (fun k_=>(P0_ k_ ∨ w.heap.size≤k_)∧some k_≠(.slice Ao31 l0.length co31:Value).ownBlock) (fun _=>False) rfl rfl ?aO ?aR (fun _ _ h=>h) (fun _ h=>h.elim) ?aF ?aB ?aS ?aL ?_;(case aR=>repeat (first|exact (by repeat (first|(with_reducible exact HR173.out)|(with_reducible refine Kd.C_alloc ?_ _)|(with_reducible refine Kd.C_drewN ?_ _)|(with_reducible refine Kd.C_drew ?_)|exact HR173.out))|(with_reducible refine Kd.C_alloc ?_ _)|(with_reducible refine Kd.C_drewN ?_ _)|(with_reducible refine Kd.C_drew ?_)));(case aB=>exact (zsx0_14));(case aF=>exact (fun k_ hk=>⟨(.inr (Nat.le_trans (zsx0_30) hk)),Kd.fresh' (Kd.R_lt (zsx0_15)) k_ hk⟩));(case aO=>exact (by (with_reducible repeat (first|apply Kd.R_alloc|apply Kd.R_drewN|apply Kd.R_drew));exact HO169.out));(case aS=>exact (bZ0 (zsx0_14)));(case aL=>have:=LMc30.out;omega);intro v175 w38 ho hb hg hat;rw [← Ny174.out] at ho;have n0_:=aM0 (Kd.R_after (ok:=(fun k_=>(P0_ k_ ∨ w.heap.size≤k_))) (zsx0_15) hg hat);have n1_:=aM0 (hb);have n2_:=aM0 (Kept.of_grown (S:=(fun k_=>P0_ k_)) hg (zsx0_13) (fun k_ e_=>(HO169.out.1 k_ e_).1));have n3_:=aM0 ((show Kd.C (Kd.int .i64) w38 Ao31 y160.length y160 from zsx0_32));have n4_:=aM0 ((show Kd.C (Kd.int .i64) w38 A37 y170.length y170 from by rw [Ny170.out,KA37.out];exact Kd.C_drop (m:=(x5_1:Int).toNat) (c:=co31) ((Kd.R_reads' (Kd.R_after (ok:=(fun k_=>(P0_ k_ ∨ w.heap.size≤k_))) (zsx0_15) hg hat)).2.2) KL37.out ((Kd.R_reads' (Kd.R_after (ok:=(fun k_=>(P0_ k_ ∨ w.heap.size≤k_))) (zsx0_15) hg hat)).2.1)));have n5_:=aM0 (ho);clear HO_0 HB HK HR163 HR173 HO169;have HO_0:=n0_;have HB:=n1_;have HK:=n2_;have HR163:=n3_;have HR173:=n4_;have HO176:=n5_;clear n0_ n1_ n2_ n3_ n4_ n5_ ho hb hg hat))
         go_ret
         exact ⟨_,zsx0_1,by (with_reducible repeat (first|apply Kd.R_alloc|apply Kd.R_drewN|apply Kd.R_drew));exact Kd.R_mono HO176.out (fun _ hk=>hk.1),zsx0_14,zsx0_13⟩
        ·rw [if_neg c30] at H
         exact absurd H (by simp)
       ·rw [if_neg c27] at H
        exact absurd H (by simp)
      ·rw [if_neg c26] at H
       exact absurd H (by simp)
     ·rw [if_neg c25] at H
      exact absurd H (by simp)
    ·rw [if_neg c24] at H
     exact absurd H (by simp)
def spec_grCount.f (a0_0:Int) (a0_1:Int) (a0_2:Int):Option (Int):=some (wrap64 ((wrap64 (a0_0 * a0_1)) * a0_2))
set_option maxHeartbeats 8000000 in
set_option maxRecDepth 100000 in
theorem spec_grCount.calls (a0_0:Int) (a0_1:Int) (a0_2:Int) (r:Int) (w:World) (h:spec_grCount.f a0_0 a0_1 a0_2=some r) :
  Calls Try.prog 92 #[.agg #[.int .i64 a0_0,.int .i64 a0_1,.int .i64 a0_2]] w fun e w'=>e=.returned (.int .i64 r)∧Below w.heap.size w w':=by
 have hu84:=Try.underlying84
 have HB:=aM0 (Below.refl w.heap.size w)
 have H:(some (wrap64 ((wrap64 (a0_0 * a0_1)) * a0_2)))=some r:=h
 clear h
 obtain rfl:=Option.some.inj H
 go_enter Try.func92,Try.ntmps92
 go_wp2_with (first|((with_reducible refine gate_dst (N:=1) rfl ?_);refine box_event ?hg (N:=1) ?hd (cs:=#[.int .i64 a0_0,.int .i64 a0_1,.int .i64 a0_2]) (t:=84) ?hr ?_;(case hd=>rfl);(case hg=>rfl);(case hr=>exact zsx0_28);intro gb177 hg w2 hbox hb;have n0_:=aM0 (below_step (zsx0_14) hb);have n1_:=aM0 (hbox);have n2_:=aM0 ((zsx0_33:w.heap.size≤gb177));have n3_:=aM0 ((zsx0_33:w.heap.size≤gb177));clear HB;have HB:=n0_;have BK177:=n1_;have GW177:=n2_;have GE177:=n3_;clear n0_ n1_ n2_ n3_ hb hbox hg;have hcz3_0:w2.cell? ⟨gb177,0,none⟩=some (.int .i64 a0_0):=(bC0 BK177.out 0).trans rfl;have hcz3_1:w2.cell? ⟨gb177,1,none⟩=some (.int .i64 a0_1):=(bC0 BK177.out 1).trans rfl;have hcz3_2:w2.cell? ⟨gb177,2,none⟩=some (.int .i64 a0_2):=(bC0 BK177.out 2).trans rfl;have hfz3_0:=blk_frozen BK177.out 0;have hfz3_1:=blk_frozen BK177.out 1;have hfz3_2:=blk_frozen BK177.out 2))
 go_ret
 exact ⟨zsx0_1,by repeat (first|(with_reducible first|exact HB.out|apply below_alloc|apply pw_below_drewN|apply below_drew1|refine below_set ?_ GE177.out)|exact HB.out)⟩
def spec_grX.f (a0_0:Int) (a0_1:Int) (a0_2:Int) (a1:Int):Option (Int):=if a0_0=0 then (none) else (some (Int.tmod a1 a0_0))
set_option maxHeartbeats 8000000 in
set_option maxRecDepth 100000 in
theorem spec_grX.calls (a0_0:Int) (a0_1:Int) (a0_2:Int) (a1:Int) (r:Int) (w:World) (h:spec_grX.f a0_0 a0_1 a0_2 a1=some r) :
  Calls Try.prog 93 #[.agg #[.int .i64 a0_0,.int .i64 a0_1,.int .i64 a0_2],.int .i64 a1] w fun e w'=>e=.returned (.int .i64 r)∧Below w.heap.size w w':=by
 have hu84:=Try.underlying84
 have HB:=aM0 (Below.refl w.heap.size w)
 have H:(if a0_0=0 then (none) else (some (Int.tmod a1 a0_0)))=some r:=h
 clear h
 by_cases c3:a0_0=0
 ·rw [if_pos c3] at H
  exact absurd H (by simp)
 ·rw [if_neg c3] at H
  have c3b0:(a0_0 == 0)=false:=beq_eq_false_iff_ne.mpr c3
  have c3b1:(a0_0 != 0)=true:=bne_iff_ne.mpr c3
  obtain rfl:=Option.some.inj H
  go_enter Try.func93,Try.ntmps93
  go_wp2_with (first|((with_reducible refine gate_dst (N:=2) rfl ?_);refine box_event ?hg (N:=2) ?hd (cs:=#[.int .i64 a0_0,.int .i64 a0_1,.int .i64 a0_2]) (t:=84) ?hr ?_;(case hd=>rfl);(case hg=>rfl);(case hr=>exact zsx0_28);intro gb178 hg w4 hbox hb;have n0_:=aM0 (below_step (zsx0_14) hb);have n1_:=aM0 (hbox);have n2_:=aM0 ((zsx0_33:w.heap.size≤gb178));have n3_:=aM0 ((zsx0_33:w.heap.size≤gb178));clear HB;have HB:=n0_;have BK178:=n1_;have GW178:=n2_;have GE178:=n3_;clear n0_ n1_ n2_ n3_ hb hbox hg;have hcz5_0:w4.cell? ⟨gb178,0,none⟩=some (.int .i64 a0_0):=(bC0 BK178.out 0).trans rfl;have hcz5_1:w4.cell? ⟨gb178,1,none⟩=some (.int .i64 a0_1):=(bC0 BK178.out 1).trans rfl;have hcz5_2:w4.cell? ⟨gb178,2,none⟩=some (.int .i64 a0_2):=(bC0 BK178.out 2).trans rfl;have hfz5_0:=blk_frozen BK178.out 0;have hfz5_1:=blk_frozen BK178.out 1;have hfz5_2:=blk_frozen BK178.out 2))
  go_ret
  exact ⟨zsx0_1,by repeat (first|(with_reducible first|exact HB.out|apply below_alloc|apply pw_below_drewN|apply below_drew1|refine below_set ?_ GE178.out)|exact HB.out)⟩
def spec_grY.f (a0_0:Int) (a0_1:Int) (a0_2:Int) (a1:Int):Option (Int):=if a0_0=0 then (none) else (if a0_1=0 then (none) else (some (Int.tmod (wrap64 (Int.tdiv a1 a0_0)) a0_1)))
set_option maxHeartbeats 8000000 in
set_option maxRecDepth 100000 in
theorem spec_grY.calls (a0_0:Int) (a0_1:Int) (a0_2:Int) (a1:Int) (r:Int) (w:World) (h:spec_grY.f a0_0 a0_1 a0_2 a1=some r) :
  Calls Try.prog 94 #[.agg #[.int .i64 a0_0,.int .i64 a0_1,.int .i64 a0_2],.int .i64 a1] w fun e w'=>e=.returned (.int .i64 r)∧Below w.heap.size w w':=by
 have hu84:=Try.underlying84
 have HB:=aM0 (Below.refl w.heap.size w)
 have H:(if a0_0=0 then (none) else (if a0_1=0 then (none) else (some (Int.tmod (wrap64 (Int.tdiv a1 a0_0)) a0_1))))=some r:=h
 clear h
 by_cases c3:a0_0=0
 ·rw [if_pos c3] at H
  exact absurd H (by simp)
 ·rw [if_neg c3] at H
  have c3b0:(a0_0 == 0)=false:=beq_eq_false_iff_ne.mpr c3
  have c3b1:(a0_0 != 0)=true:=bne_iff_ne.mpr c3
  by_cases c4:a0_1=0
  ·rw [if_pos c4] at H
   exact absurd H (by simp)
  ·rw [if_neg c4] at H
   have c4b0:(a0_1 == 0)=false:=beq_eq_false_iff_ne.mpr c4
   have c4b1:(a0_1 != 0)=true:=bne_iff_ne.mpr c4
   obtain rfl:=Option.some.inj H
   go_enter Try.func94,Try.ntmps94
   go_wp2_with (first|((with_reducible refine gate_dst (N:=2) rfl ?_);refine box_event ?hg (N:=2) ?hd (cs:=#[.int .i64 a0_0,.int .i64 a0_1,.int .i64 a0_2]) (t:=84) ?hr ?_;(case hd=>rfl);(case hg=>rfl);(case hr=>exact zsx0_28);intro gb179 hg w5 hbox hb;have n0_:=aM0 (below_step (zsx0_14) hb);have n1_:=aM0 (hbox);have n2_:=aM0 ((zsx0_33:w.heap.size≤gb179));have n3_:=aM0 ((zsx0_33:w.heap.size≤gb179));clear HB;have HB:=n0_;have BK179:=n1_;have GW179:=n2_;have GE179:=n3_;clear n0_ n1_ n2_ n3_ hb hbox hg;have hcz6_0:w5.cell? ⟨gb179,0,none⟩=some (.int .i64 a0_0):=(bC0 BK179.out 0).trans rfl;have hcz6_1:w5.cell? ⟨gb179,1,none⟩=some (.int .i64 a0_1):=(bC0 BK179.out 1).trans rfl;have hcz6_2:w5.cell? ⟨gb179,2,none⟩=some (.int .i64 a0_2):=(bC0 BK179.out 2).trans rfl;have hfz6_0:=blk_frozen BK179.out 0;have hfz6_1:=blk_frozen BK179.out 1;have hfz6_2:=blk_frozen BK179.out 2))
   repeat (go_quiet (first|((with_reducible refine gate_dst (N:=2) rfl ?_);refine box_event ?hg (N:=2) ?hd (cs:=#[.int .i64 a0_0,.int .i64 a0_1,.int .i64 a0_2]) (t:=84) ?hr ?_;(case hd=>rfl);(case hg=>rfl);(case hr=>exact zsx0_28);intro gb179 hg w5 hbox hb;have n0_:=aM0 (below_step (zsx0_14) hb);have n1_:=aM0 (hbox);have n2_:=aM0 ((zsx0_33:w.heap.size≤gb179));have n3_:=aM0 ((zsx0_33:w.heap.size≤gb179));clear HB;have HB:=n0_;have BK179:=n1_;have GW179:=n2_;have GE179:=n3_;clear n0_ n1_ n2_ n3_ hb hbox hg;have hcz6_0:w5.cell? ⟨gb179,0,none⟩=some (.int .i64 a0_0):=(bC0 BK179.out 0).trans rfl;have hcz6_1:w5.cell? ⟨gb179,1,none⟩=some (.int .i64 a0_1):=(bC0 BK179.out 1).trans rfl;have hcz6_2:w5.cell? ⟨gb179,2,none⟩=some (.int .i64 a0_2):=(bC0 BK179.out 2).trans rfl;have hfz6_0:=blk_frozen BK179.out 0;have hfz6_1:=blk_frozen BK179.out 1;have hfz6_2:=blk_frozen BK179.out 2));try go_wp2_with (first|((with_reducible refine gate_dst (N:=2) rfl ?_);refine box_event ?hg (N:=2) ?hd (cs:=#[.int .i64 a0_0,.int .i64 a0_1,.int .i64 a0_2]) (t:=84) ?hr ?_;(case hd=>rfl);(case hg=>rfl);(case hr=>exact zsx0_28);intro gb179 hg w5 hbox hb;have n0_:=aM0 (below_step (zsx0_14) hb);have n1_:=aM0 (hbox);have n2_:=aM0 ((zsx0_33:w.heap.size≤gb179));have n3_:=aM0 ((zsx0_33:w.heap.size≤gb179));clear HB;have HB:=n0_;have BK179:=n1_;have GW179:=n2_;have GE179:=n3_;clear n0_ n1_ n2_ n3_ hb hbox hg;have hcz6_0:w5.cell? ⟨gb179,0,none⟩=some (.int .i64 a0_0):=(bC0 BK179.out 0).trans rfl;have hcz6_1:w5.cell? ⟨gb179,1,none⟩=some (.int .i64 a0_1):=(bC0 BK179.out 1).trans rfl;have hcz6_2:w5.cell? ⟨gb179,2,none⟩=some (.int .i64 a0_2):=(bC0 BK179.out 2).trans rfl;have hfz6_0:=blk_frozen BK179.out 0;have hfz6_1:=blk_frozen BK179.out 1;have hfz6_2:=blk_frozen BK179.out 2)))
   go_ret
   exact ⟨zsx0_1,by repeat (first|(with_reducible first|exact HB.out|apply below_alloc|apply pw_below_drewN|apply below_drew1|refine below_set ?_ GE179.out)|exact HB.out)⟩
def spec_grZ.f (a0_0:Int) (a0_1:Int) (a0_2:Int) (a1:Int):Option (Int):=if a0_0=0 then (none) else (if a0_1=0 then (none) else (some (wrap64 (Int.tdiv (wrap64 (Int.tdiv a1 a0_0)) a0_1))))
set_option maxHeartbeats 8000000 in
set_option maxRecDepth 100000 in
theorem spec_grZ.calls (a0_0:Int) (a0_1:Int) (a0_2:Int) (a1:Int) (r:Int) (w:World) (h:spec_grZ.f a0_0 a0_1 a0_2 a1=some r) :
  Calls Try.prog 95 #[.agg #[.int .i64 a0_0,.int .i64 a0_1,.int .i64 a0_2],.int .i64 a1] w fun e w'=>e=.returned (.int .i64 r)∧Below w.heap.size w w':=by
 have hu84:=Try.underlying84
 have HB:=aM0 (Below.refl w.heap.size w)
 have H:(if a0_0=0 then (none) else (if a0_1=0 then (none) else (some (wrap64 (Int.tdiv (wrap64 (Int.tdiv a1 a0_0)) a0_1)))))=some r:=h
 clear h
 by_cases c3:a0_0=0
 ·rw [if_pos c3] at H
  exact absurd H (by simp)
 ·rw [if_neg c3] at H
  have c3b0:(a0_0 == 0)=false:=beq_eq_false_iff_ne.mpr c3
  have c3b1:(a0_0 != 0)=true:=bne_iff_ne.mpr c3
  by_cases c4:a0_1=0
  ·rw [if_pos c4] at H
   exact absurd H (by simp)
  ·rw [if_neg c4] at H
   have c4b0:(a0_1 == 0)=false:=beq_eq_false_iff_ne.mpr c4
   have c4b1:(a0_1 != 0)=true:=bne_iff_ne.mpr c4
   obtain rfl:=Option.some.inj H
   go_enter Try.func95,Try.ntmps95
   go_wp2_with (first|((with_reducible refine gate_dst (N:=2) rfl ?_);refine box_event ?hg (N:=2) ?hd (cs:=#[.int .i64 a0_0,.int .i64 a0_1,.int .i64 a0_2]) (t:=84) ?hr ?_;(case hd=>rfl);(case hg=>rfl);(case hr=>exact zsx0_28);intro gb180 hg w5 hbox hb;have n0_:=aM0 (below_step (zsx0_14) hb);have n1_:=aM0 (hbox);have n2_:=aM0 ((zsx0_33:w.heap.size≤gb180));have n3_:=aM0 ((zsx0_33:w.heap.size≤gb180));clear HB;have HB:=n0_;have BK180:=n1_;have GW180:=n2_;have GE180:=n3_;clear n0_ n1_ n2_ n3_ hb hbox hg;have hcz6_0:w5.cell? ⟨gb180,0,none⟩=some (.int .i64 a0_0):=(bC0 BK180.out 0).trans rfl;have hcz6_1:w5.cell? ⟨gb180,1,none⟩=some (.int .i64 a0_1):=(bC0 BK180.out 1).trans rfl;have hcz6_2:w5.cell? ⟨gb180,2,none⟩=some (.int .i64 a0_2):=(bC0 BK180.out 2).trans rfl;have hfz6_0:=blk_frozen BK180.out 0;have hfz6_1:=blk_frozen BK180.out 1;have hfz6_2:=blk_frozen BK180.out 2))
   repeat (go_quiet (first|((with_reducible refine gate_dst (N:=2) rfl ?_);refine box_event ?hg (N:=2) ?hd (cs:=#[.int .i64 a0_0,.int .i64 a0_1,.int .i64 a0_2]) (t:=84) ?hr ?_;(case hd=>rfl);(case hg=>rfl);(case hr=>exact zsx0_28);intro gb180 hg w5 hbox hb;have n0_:=aM0 (below_step (zsx0_14) hb);have n1_:=aM0 (hbox);have n2_:=aM0 ((zsx0_33:w.heap.size≤gb180));have n3_:=aM0 ((zsx0_33:w.heap.size≤gb180));clear HB;have HB:=n0_;have BK180:=n1_;have GW180:=n2_;have GE180:=n3_;clear n0_ n1_ n2_ n3_ hb hbox hg;have hcz6_0:w5.cell? ⟨gb180,0,none⟩=some (.int .i64 a0_0):=(bC0 BK180.out 0).trans rfl;have hcz6_1:w5.cell? ⟨gb180,1,none⟩=some (.int .i64 a0_1):=(bC0 BK180.out 1).trans rfl;have hcz6_2:w5.cell? ⟨gb180,2,none⟩=some (.int .i64 a0_2):=(bC0 BK180.out 2).trans rfl;have hfz6_0:=blk_frozen BK180.out 0;have hfz6_1:=blk_frozen BK180.out 1;have hfz6_2:=blk_frozen BK180.out 2));try go_wp2_with (first|((with_reducible refine gate_dst (N:=2) rfl ?_);refine box_event ?hg (N:=2) ?hd (cs:=#[.int .i64 a0_0,.int .i64 a0_1,.int .i64 a0_2]) (t:=84) ?hr ?_;(case hd=>rfl);(case hg=>rfl);(case hr=>exact zsx0_28);intro gb180 hg w5 hbox hb;have n0_:=aM0 (below_step (zsx0_14) hb);have n1_:=aM0 (hbox);have n2_:=aM0 ((zsx0_33:w.heap.size≤gb180));have n3_:=aM0 ((zsx0_33:w.heap.size≤gb180));clear HB;have HB:=n0_;have BK180:=n1_;have GW180:=n2_;have GE180:=n3_;clear n0_ n1_ n2_ n3_ hb hbox hg;have hcz6_0:w5.cell? ⟨gb180,0,none⟩=some (.int .i64 a0_0):=(bC0 BK180.out 0).trans rfl;have hcz6_1:w5.cell? ⟨gb180,1,none⟩=some (.int .i64 a0_1):=(bC0 BK180.out 1).trans rfl;have hcz6_2:w5.cell? ⟨gb180,2,none⟩=some (.int .i64 a0_2):=(bC0 BK180.out 2).trans rfl;have hfz6_0:=blk_frozen BK180.out 0;have hfz6_1:=blk_frozen BK180.out 1;have hfz6_2:=blk_frozen BK180.out 2)))
   go_ret
   exact ⟨zsx0_1,by repeat (first|(with_reducible first|exact HB.out|apply below_alloc|apply pw_below_drewN|apply below_drew1|refine below_set ?_ GE180.out)|exact HB.out)⟩
def spec_l1In.f (a0:Int) (a1:Int) (a2:Int):Option (Bool):=if a0 ≥ a1 then (some (decide (a0≤a2))) else (some false)
set_option maxHeartbeats 8000000 in
set_option maxRecDepth 100000 in
theorem spec_l1In.calls (a0:Int) (a1:Int) (a2:Int) (r:Bool) (w:World) (h:spec_l1In.f a0 a1 a2=some r) :
  Calls Try.prog 70 #[.int .i64 a0,.int .i64 a1,.int .i64 a2] w fun e w'=>e=.returned (.bool r)∧Drawn0 w w':=by
 have H:(if a0 ≥ a1 then (some (decide (a0≤a2))) else (some false))=some r:=h
 clear h
 by_cases c4:a0 ≥ a1
 ·rw [if_pos c4] at H
  have c4b0:decide (a1≤a0)=true:=dT0 c4
  clear c4
  obtain rfl:=Option.some.inj H
  go_enter Try.func70,Try.ntmps70
  go_wp2
  go_ret
  exact ⟨zsx0_12,by repeat (first|exact Drawn0.refl _|apply Drawn0.step)⟩
 ·rw [if_neg c4] at H
  have c4b0:decide (a1≤a0)=false:=decide_eq_false c4
  clear c4
  obtain rfl:=Option.some.inj H
  go_enter Try.func70,Try.ntmps70
  go_wp2
  go_ret
  exact ⟨zsx0_12,by repeat (first|exact Drawn0.refl _|apply Drawn0.step)⟩
def spec_grAt.f (a0_0:Int) (a0_1:Int) (a0_2:Int) (a1:Int) (a2:Int) (a3:Int):Option (Int):=(spec_l1In.f a1 0 (wrap64 (a0_0 - 1))).bind fun t182=>(if t182=true then ((spec_l1In.f a2 0 (wrap64 (a0_1 - 1))).bind fun t183=>(if t183=true then ((spec_l1In.f a3 0 (wrap64 (a0_2 - 1))).bind fun t184=>(if t184=true then (some (wrap64 ((wrap64 ((wrap64 ((wrap64 (a3 * a0_1)) + a2)) * a0_0)) + a1))) else (some (-1)))) else (some (-1)))) else (some (-1)))
set_option maxHeartbeats 8000000 in
set_option maxRecDepth 100000 in
theorem spec_grAt.calls (a0_0:Int) (a0_1:Int) (a0_2:Int) (a1:Int) (a2:Int) (a3:Int) (r:Int) (w:World) (h:spec_grAt.f a0_0 a0_1 a0_2 a1 a2 a3=some r) :
  Calls Try.prog 96 #[.agg #[.int .i64 a0_0,.int .i64 a0_1,.int .i64 a0_2],.int .i64 a1,.int .i64 a2,.int .i64 a3] w fun e w'=>e=.returned (.int .i64 r)∧Below w.heap.size w w':=by
 have hu84:=Try.underlying84
 have HB:=aM0 (Below.refl w.heap.size w)
 have H:((spec_l1In.f a1 0 (wrap64 (a0_0 - 1))).bind fun t182=>(if t182=true then ((spec_l1In.f a2 0 (wrap64 (a0_1 - 1))).bind fun t183=>(if t183=true then ((spec_l1In.f a3 0 (wrap64 (a0_2 - 1))).bind fun t184=>(if t184=true then (some (wrap64 ((wrap64 ((wrap64 ((wrap64 (a3 * a0_1)) + a2)) * a0_0)) + a1))) else (some (-1)))) else (some (-1)))) else (some (-1))))=some r:=h
 clear h
 replace H:=bI0.mp H
 obtain ⟨t182,A50,H⟩:=H
 replace H:(if t182=true then ((spec_l1In.f a2 0 (wrap64 (a0_1 - 1))).bind fun t183=>(if t183=true then ((spec_l1In.f a3 0 (wrap64 (a0_2 - 1))).bind fun t184=>(if t184=true then (some (wrap64 ((wrap64 ((wrap64 ((wrap64 (a3 * a0_1)) + a2)) * a0_0)) + a1))) else (some (-1)))) else (some (-1)))) else (some (-1)))=some r:=H
 have A5:=aM0 A50
 clear A50
 by_cases c6:t182=true
 ·subst c6
  have H1:((spec_l1In.f a2 0 (wrap64 (a0_1 - 1))).bind fun t183=>(if t183=true then ((spec_l1In.f a3 0 (wrap64 (a0_2 - 1))).bind fun t184=>(if t184=true then (some (wrap64 ((wrap64 ((wrap64 ((wrap64 (a3 * a0_1)) + a2)) * a0_0)) + a1))) else (some (-1)))) else (some (-1))))=some r:=by rw [if_pos rfl] at H;exact H
  clear H
  have H:=H1
  clear H1
  replace H:=bI0.mp H
  obtain ⟨t183,A70,H⟩:=H
  replace H:(if t183=true then ((spec_l1In.f a3 0 (wrap64 (a0_2 - 1))).bind fun t184=>(if t184=true then (some (wrap64 ((wrap64 ((wrap64 ((wrap64 (a3 * a0_1)) + a2)) * a0_0)) + a1))) else (some (-1)))) else (some (-1)))=some r:=H
  have A7:=aM0 A70
  clear A70
  by_cases c8:t183=true
  ·subst c8
   have H1:((spec_l1In.f a3 0 (wrap64 (a0_2 - 1))).bind fun t184=>(if t184=true then (some (wrap64 ((wrap64 ((wrap64 ((wrap64 (a3 * a0_1)) + a2)) * a0_0)) + a1))) else (some (-1))))=some r:=by rw [if_pos rfl] at H;exact H
   clear H
   have H:=H1
   clear H1
   replace H:=bI0.mp H
   obtain ⟨t184,A90,H⟩:=H
   replace H:(if t184=true then (some (wrap64 ((wrap64 ((wrap64 ((wrap64 (a3 * a0_1)) + a2)) * a0_0)) + a1))) else (some (-1)))=some r:=H
   have A9:=aM0 A90
   clear A90
   by_cases c10:t184=true
   ·subst c10
    have H1:(some (wrap64 ((wrap64 ((wrap64 ((wrap64 (a3 * a0_1)) + a2)) * a0_0)) + a1)))=some r:=by rw [if_pos rfl] at H;exact H
    clear H
    have H:=H1
    clear H1
    obtain rfl:=Option.some.inj H
    go_enter Try.func96,Try.ntmps96
    go_wp2_with (first|((with_reducible refine gate_dst (N:=4) rfl ?_);refine box_event ?hg (N:=4) ?hd (cs:=#[.int .i64 a0_0,.int .i64 a0_1,.int .i64 a0_2]) (t:=84) ?hr ?_;(case hd=>rfl);(case hg=>rfl);(case hr=>exact zsx0_28);intro gb181 hg w11 hbox hb;have n0_:=aM0 (below_step (zsx0_14) hb);have n1_:=aM0 (hbox);have n2_:=aM0 ((zsx0_33:w.heap.size≤gb181));have n3_:=aM0 ((zsx0_33:w.heap.size≤gb181));clear HB;have HB:=n0_;have BK181:=n1_;have GW181:=n2_;have GE181:=n3_;clear n0_ n1_ n2_ n3_ hb hbox hg;have hcz12_0:w11.cell? ⟨gb181,0,none⟩=some (.int .i64 a0_0):=(bC0 BK181.out 0).trans rfl;have hcz12_1:w11.cell? ⟨gb181,1,none⟩=some (.int .i64 a0_1):=(bC0 BK181.out 1).trans rfl;have hcz12_2:w11.cell? ⟨gb181,2,none⟩=some (.int .i64 a0_2):=(bC0 BK181.out 2).trans rfl;have hfz12_0:=blk_frozen BK181.out 0;have hfz12_1:=blk_frozen BK181.out 1;have hfz12_2:=blk_frozen BK181.out 2)|((with_reducible refine gate_callee (f:=70) rfl ?_);refine goesL_ (some 13) rfl rfl Try.func70 (zsx0_6) rfl #[.int .i64 a1,.int .i64 0,.int .i64 (wrap64 (a0_0 - 1))] rfl (zsx0_7) ?_;(with_reducible refine (spec_l1In.calls a1 0 (wrap64 (a0_0 - 1)) true _ A5.out).mono ?_);rintro e w' ⟨rfl,⟨nd,rfl⟩⟩;refine ⟨_,rfl,?_⟩)|(go_at_call 70;(with_reducible refine (spec_l1In.calls a2 0 (wrap64 (a0_1 - 1)) true _ A7.out).mono ?_);rintro e w' ⟨rfl,⟨nd,rfl⟩⟩)|(go_at_call 70;(with_reducible refine (spec_l1In.calls a3 0 (wrap64 (a0_2 - 1)) true _ A9.out).mono ?_);rintro e w' ⟨rfl,⟨nd,rfl⟩⟩))
    go_ret
    exact ⟨zsx0_1,zsx0_16⟩
   ·replace c10:=Bool.eq_false_iff.mpr c10
    subst c10
    have H1:(some (-1))=some r:=by rw [if_neg (show ¬ (false=true) by decide)] at H;exact H
    clear H
    have H:=H1
    clear H1
    obtain rfl:=Option.some.inj H
    go_enter Try.func96,Try.ntmps96
    go_wp2_with (first|((with_reducible refine gate_dst (N:=4) rfl ?_);refine box_event ?hg (N:=4) ?hd (cs:=#[.int .i64 a0_0,.int .i64 a0_1,.int .i64 a0_2]) (t:=84) ?hr ?_;(case hd=>rfl);(case hg=>rfl);(case hr=>exact zsx0_28);intro gb181 hg w13 hbox hb;have n0_:=aM0 (below_step (zsx0_14) hb);have n1_:=aM0 (hbox);have n2_:=aM0 ((zsx0_33:w.heap.size≤gb181));have n3_:=aM0 ((zsx0_33:w.heap.size≤gb181));clear HB;have HB:=n0_;have BK181:=n1_;have GW181:=n2_;have GE181:=n3_;clear n0_ n1_ n2_ n3_ hb hbox hg;have hcz14_0:w13.cell? ⟨gb181,0,none⟩=some (.int .i64 a0_0):=(bC0 BK181.out 0).trans rfl;have hcz14_1:w13.cell? ⟨gb181,1,none⟩=some (.int .i64 a0_1):=(bC0 BK181.out 1).trans rfl;have hcz14_2:w13.cell? ⟨gb181,2,none⟩=some (.int .i64 a0_2):=(bC0 BK181.out 2).trans rfl;have hfz14_0:=blk_frozen BK181.out 0;have hfz14_1:=blk_frozen BK181.out 1;have hfz14_2:=blk_frozen BK181.out 2)|((with_reducible refine gate_callee (f:=70) rfl ?_);refine goesL_ (some 13) rfl rfl Try.func70 (zsx0_6) rfl #[.int .i64 a1,.int .i64 0,.int .i64 (wrap64 (a0_0 - 1))] rfl (zsx0_7) ?_;(with_reducible refine (spec_l1In.calls a1 0 (wrap64 (a0_0 - 1)) true _ A5.out).mono ?_);rintro e w' ⟨rfl,⟨nd,rfl⟩⟩;refine ⟨_,rfl,?_⟩)|(go_at_call 70;(with_reducible refine (spec_l1In.calls a2 0 (wrap64 (a0_1 - 1)) true _ A7.out).mono ?_);rintro e w' ⟨rfl,⟨nd,rfl⟩⟩)|(go_at_call 70;(with_reducible refine (spec_l1In.calls a3 0 (wrap64 (a0_2 - 1)) false _ A9.out).mono ?_);rintro e w' ⟨rfl,⟨nd,rfl⟩⟩))
    go_ret
    exact ⟨zsx0_1,zsx0_16⟩
  ·replace c8:=Bool.eq_false_iff.mpr c8
   subst c8
   have H1:(some (-1))=some r:=by rw [if_neg (show ¬ (false=true) by decide)] at H;exact H
   clear H
   have H:=H1
   clear H1
   obtain rfl:=Option.some.inj H
   go_enter Try.func96,Try.ntmps96
   go_wp2_with (first|((with_reducible refine gate_dst (N:=4) rfl ?_);refine box_event ?hg (N:=4) ?hd (cs:=#[.int .i64 a0_0,.int .i64 a0_1,.int .i64 a0_2]) (t:=84) ?hr ?_;(case hd=>rfl);(case hg=>rfl);(case hr=>exact zsx0_28);intro gb181 hg w15 hbox hb;have n0_:=aM0 (below_step (zsx0_14) hb);have n1_:=aM0 (hbox);have n2_:=aM0 ((zsx0_33:w.heap.size≤gb181));have n3_:=aM0 ((zsx0_33:w.heap.size≤gb181));clear HB;have HB:=n0_;have BK181:=n1_;have GW181:=n2_;have GE181:=n3_;clear n0_ n1_ n2_ n3_ hb hbox hg;have hcz16_0:w15.cell? ⟨gb181,0,none⟩=some (.int .i64 a0_0):=(bC0 BK181.out 0).trans rfl;have hcz16_1:w15.cell? ⟨gb181,1,none⟩=some (.int .i64 a0_1):=(bC0 BK181.out 1).trans rfl;have hcz16_2:w15.cell? ⟨gb181,2,none⟩=some (.int .i64 a0_2):=(bC0 BK181.out 2).trans rfl;have hfz16_0:=blk_frozen BK181.out 0;have hfz16_1:=blk_frozen BK181.out 1;have hfz16_2:=blk_frozen BK181.out 2)|((with_reducible refine gate_callee (f:=70) rfl ?_);refine goesL_ (some 13) rfl rfl Try.func70 (zsx0_6) rfl #[.int .i64 a1,.int .i64 0,.int .i64 (wrap64 (a0_0 - 1))] rfl (zsx0_7) ?_;(with_reducible refine (spec_l1In.calls a1 0 (wrap64 (a0_0 - 1)) true _ A5.out).mono ?_);rintro e w' ⟨rfl,⟨nd,rfl⟩⟩;refine ⟨_,rfl,?_⟩)|(go_at_call 70;(with_reducible refine (spec_l1In.calls a2 0 (wrap64 (a0_1 - 1)) false _ A7.out).mono ?_);rintro e w' ⟨rfl,⟨nd,rfl⟩⟩))
   go_ret
   exact ⟨zsx0_1,zsx0_16⟩
 ·replace c6:=Bool.eq_false_iff.mpr c6
  subst c6
  have H1:(some (-1))=some r:=by rw [if_neg (show ¬ (false=true) by decide)] at H;exact H
  clear H
  have H:=H1
  clear H1
  obtain rfl:=Option.some.inj H
  go_enter Try.func96,Try.ntmps96
  go_wp2_with (first|((with_reducible refine gate_dst (N:=4) rfl ?_);refine box_event ?hg (N:=4) ?hd (cs:=#[.int .i64 a0_0,.int .i64 a0_1,.int .i64 a0_2]) (t:=84) ?hr ?_;(case hd=>rfl);(case hg=>rfl);(case hr=>exact zsx0_28);intro gb181 hg w17 hbox hb;have n0_:=aM0 (below_step (zsx0_14) hb);have n1_:=aM0 (hbox);have n2_:=aM0 ((zsx0_33:w.heap.size≤gb181));have n3_:=aM0 ((zsx0_33:w.heap.size≤gb181));clear HB;have HB:=n0_;have BK181:=n1_;have GW181:=n2_;have GE181:=n3_;clear n0_ n1_ n2_ n3_ hb hbox hg;have hcz18_0:w17.cell? ⟨gb181,0,none⟩=some (.int .i64 a0_0):=(bC0 BK181.out 0).trans rfl;have hcz18_1:w17.cell? ⟨gb181,1,none⟩=some (.int .i64 a0_1):=(bC0 BK181.out 1).trans rfl;have hcz18_2:w17.cell? ⟨gb181,2,none⟩=some (.int .i64 a0_2):=(bC0 BK181.out 2).trans rfl;have hfz18_0:=blk_frozen BK181.out 0;have hfz18_1:=blk_frozen BK181.out 1;have hfz18_2:=blk_frozen BK181.out 2)|((with_reducible refine gate_callee (f:=70) rfl ?_);refine goesL_ (some 13) rfl rfl Try.func70 (zsx0_6) rfl #[.int .i64 a1,.int .i64 0,.int .i64 (wrap64 (a0_0 - 1))] rfl (zsx0_7) ?_;(with_reducible refine (spec_l1In.calls a1 0 (wrap64 (a0_0 - 1)) false _ A5.out).mono ?_);rintro e w' ⟨rfl,⟨nd,rfl⟩⟩;refine ⟨_,rfl,?_⟩))
  go_ret
  exact ⟨zsx0_1,zsx0_16⟩
mutual
def spec_slArcs.l0:Nat→List (List Int)→Int→Int→Int→Int→List Int→List (List (S96))→Option ((List (List Int)))
 | 0,_,_,_,_,_,_,_=>none
 | k + 1,x5,x6,x186000,x186001,x186002,x187000,x187001=>(spec_grCount.f x186000 x186001 x186002).bind fun t187=>(if x6 < t187 then ((spec_grX.f x186000 x186001 x186002 x6).bind fun t188=>((spec_grY.f x186000 x186001 x186002 x6).bind fun t189=>((spec_grZ.f x186000 x186001 x186002 x6).bind fun t190=>(if 0≤(wrap64 ((wrap64 (t189 * x186000)) + t188)) then (if (wrap64 ((wrap64 (t189 * x186000)) + t188)) < (x187000.length:Int) then (if 0≤(rd x187000 (wrap64 ((wrap64 (t189 * x186000)) + t188))) then (if (rd x187000 (wrap64 ((wrap64 (t189 * x186000)) + t188))) < (x187001.length:Int) then (spec_slArcs.l1 k x5 x6 t188 t189 t190 ([]:List Int) (rd_L4 x187001 (rd x187000 (wrap64 ((wrap64 (t189 * x186000)) + t188)))) ((rd_L4 x187001 (rd x187000 (wrap64 ((wrap64 (t189 * x186000)) + t188)))).length:Int) 0 x186000 x186001 x186002 x187000 x187001) else (none)) else (none)) else (none)) else (none))))) else (some x5))
def spec_slArcs.l1:Nat→List (List Int)→Int→Int→Int→Int→List Int→List (S96)→Int→Int→Int→Int→Int→List Int→List (List (S96))→Option ((List (List Int)))
 | 0,_,_,_,_,_,_,_,_,_,_,_,_,_,_=>none
 | k + 1,x5,x6,x7,x8,x9,x10,x42,x43,x44,x186000,x186001,x186002,x187000,x187001=>if x44 < x43 then (if 0≤x44 then (if x44 < (x42.length:Int) then ((spec_grAt.f x186000 x186001 x186002 (wrap64 (x7 + ((rd_T96 x42 x44).f0))) (wrap64 (x8 + ((rd_T96 x42 x44).f1))) (wrap64 (x9 - ((rd_T96 x42 x44).f2)))).bind fun t198=>(if t198 ≥ 0 then ((spec_l1Put.f k x10 t198).bind fun t199=>(spec_slArcs.l1 k x5 x6 x7 x8 x9 t199 x42 x43 (wrap64 (x44 + 1)) x186000 x186001 x186002 x187000 x187001)) else (spec_slArcs.l1 k x5 x6 x7 x8 x9 x10 x42 x43 (wrap64 (x44 + 1)) x186000 x186001 x186002 x187000 x187001))) else (none)) else (none)) else (if x5.length < 5864062014805 then (spec_slArcs.l0 k (x5 ++ [x10]) (wrap64 (x6 + 1)) x186000 x186001 x186002 x187000 x187001) else (none))
end
def spec_slArcs.f (k:Nat) (a0_0:Int) (a0_1:Int) (a0_2:Int) (l1_0:List Int) (l1_1:List (List (S96))):Option ((List (List Int))):=spec_slArcs.l0 k ([]:List (List Int)) 0 a0_0 a0_1 a0_2 l1_0 l1_1
def spec_slArcs.T5:Bool × List (List Nat × List Nat):=(true,[([],[]),([],[]),([0,1],[0,1]),([],[]),([],[]),([3,4,2],[3,4]),([],[]),([],[]),([6,7,5],[6,7]),([2,8,0,1,2],[2]),([5,9,0,1,2,3,4,5,9],[5]),([8,10,0,1,2,3,4,5,6,7,8,9,10],[8])])
def spec_slArcs.B5:List Nat:=[0,0,3,0,0,31,0,0,255,511,1023,2047]
theorem spec_slArcs.tab5:rtab .any (opsOf Try.f90 5)=spec_slArcs.T5:=by kernel_rfl
theorem spec_slArcs.bits5:waitsOk spec_slArcs.T5.2 spec_slArcs.B5=true:=by kernel_rfl
def spec_slArcs.T7:Bool × List (List Nat × List Nat):=(true,[([],[]),([0],[0]),([],[]),([2],[2]),([],[]),([],[]),([5],[5]),([4,6],[4,6]),([],[]),([7,8],[7,8]),([3,9],[3,9]),([10],[10]),([1,11],[1,11]),([12],[12]),([13],[13]),([],[])])
def spec_slArcs.B7:List Nat:=[0,1,0,4,0,0,32,112,0,496,1020,2044,4095,8191,16383,0]
theorem spec_slArcs.tab7:rtab .any (opsOf Try.f90 7)=spec_slArcs.T7:=by kernel_rfl
theorem spec_slArcs.bits7:waitsOk spec_slArcs.T7.2 spec_slArcs.B7=true:=by kernel_rfl
set_option maxHeartbeats 8000000 in
set_option maxRecDepth 100000 in
theorem spec_slArcs.calls (k:Nat) (a0_0:Int) (a0_1:Int) (a0_2:Int) (A1_0:Option Addr) (c1_0:Nat) (l1_0:List Int) (A1_1:Option Addr) (c1_1:Nat) (l1_1:List (List (S96))) (r:List (List Int)) (w:World) (hr1_0:Kd.C (Kd.int .i64) w A1_0 l1_0.length l1_0) (hc1_0:l1_0.length≤c1_0) (hr1_1:Kd.C (Kd.slice 96 k96) w A1_1 l1_1.length l1_1) (hc1_1:l1_1.length≤c1_1) (h:spec_slArcs.f k a0_0 a0_1 a0_2 l1_0 l1_1=some r) :
  Calls Try.prog 90 #[.agg #[.int .i64 a0_0,.int .i64 a0_1,.int .i64 a0_2],.agg #[.slice A1_0 l1_0.length c1_0,.slice A1_1 l1_1.length c1_1]] w fun e w'=>∃ v0_:Value,e=.returned (v0_)∧Kd.S (Kd.slice 3 (Kd.int .i64)) 33 w' w.heap.size (fun _=>True) v0_ r∧Below w.heap.size w w':=by
 have hu84:=Try.underlying84
 have hu89:=Try.underlying89
 have hu96:=Try.underlying96
 have HR1_0:=aM0 hr1_0
 have HC1_0:=aM0 hc1_0
 clear hr1_0 hc1_0
 have HR1_1:=aM0 hr1_1
 have HC1_1:=aM0 hc1_1
 clear hr1_1 hc1_1
 have HB:=aM0 (Below.refl w.heap.size w)
 have H:(spec_slArcs.l0 k ([]:List (List Int)) 0 a0_0 a0_1 a0_2 l1_0 l1_1)=some r:=h
 clear h
 have H':=aM0 H
 clear H
 go_enter Try.func90,Try.ntmps90
 go_wp2_with (first|((with_reducible refine gate_dst (N:=2) rfl ?_);refine box_event ?hg (N:=2) ?hd (cs:=#[.int .i64 a0_0,.int .i64 a0_1,.int .i64 a0_2]) (t:=84) ?hr ?_;(case hd=>rfl);(case hg=>rfl);(case hr=>exact zsx0_28);intro gb185 hg w3 hbox hb;have n0_:=aM0 (below_step (zsx0_14) hb);have n1_:=aM0 (hbox);have n2_:=aM0 ((zsx0_33:w.heap.size≤gb185));have n3_:=aM0 ((zsx0_33:w.heap.size≤gb185));clear HB;have HB:=n0_;have BK185:=n1_;have GW185:=n2_;have GE185:=n3_;clear n0_ n1_ n2_ n3_ hb hbox hg)|((with_reducible refine gate_dst (N:=3) rfl ?_);refine box_event ?hg (N:=3) ?hd (cs:=#[.slice A1_0 l1_0.length c1_0,.slice A1_1 l1_1.length c1_1]) (t:=89) ?hr ?_;(case hd=>rfl);(case hg=>rfl);(case hr=>exact zsx0_28);intro gb186 hg w4 hbox hb;have n0_:=aM0 (blk_below (g:=gb185) (o:=.cells #[.int .i64 a0_0,.int .i64 a0_1,.int .i64 a0_2] 84 (0,0)) (zsx0_17) hb);have n1_:=aM0 (below_step (zsx0_18) hb);have n2_:=aM0 (hbox);have n3_:=aM0 ((by rw [hg];exact (bZ0 (zsx0_18)):w.heap.size≤gb186));have n4_:=aM0 ((by rw [hg];exact (bZ0 (zsx0_18)):w.heap.size≤gb186));have n5_:=aM0 ((zsx0_34:gb185≠gb186));have n6_:=aM0 ((zsx0_35:gb186≠gb185));clear BK185 HB;have BK185:=n0_;have HB:=n1_;have BK186:=n2_;have GW186:=n3_;have GE186:=n4_;have NB185_186:=n5_;have NB186_185:=n6_;clear n0_ n1_ n2_ n3_ n4_ n5_ n6_ hb hbox hg))
 go_loopg [5,6] k (fun kq v5 v6 w'=>∃ (x5_1:List (List Int)) (x6_1:Int),v6=.int .i64 x6_1∧Aside0 (spec_slArcs.l0 kq x5_1 x6_1 a0_0 a0_1 a0_2 l1_0 l1_1=some r)∧Aside0 (kq≤k)∧Aside0 (Kd.S (Kd.slice 3 (Kd.int .i64)) 33 w' w.heap.size (fun _=>True) v5 x5_1)∧Aside0 (w'.heap[gb185]?=some (.cells #[.int .i64 a0_0,.int .i64 a0_1,.int .i64 a0_2] 84 (0,0)))∧Aside0 (w'.heap[gb186]?=some (.cells #[(.slice A1_0 l1_0.length c1_0),(.slice A1_1 l1_1.length c1_1)] 89 (0,0)))∧Aside0 (Below w.heap.size w w'))
 case atStart=>exact ⟨(([]:List (List Int))),(0),(zsx0_12),H',⟨Nat.le_refl _⟩,⟨by first|exact Kd.S_nil _ _ _ _ _|exact Kd.N_nil _ _ _ _ _|exact Kd.V_nil _ _ _ _ _|exact Kd.Q_nil _ _ _ _ _|exact Kd.R_nil _ _ _ _ _⟩,⟨zsx0_17⟩,⟨zsx0_19⟩,⟨zsx0_20⟩⟩
 case round =>
  clear H'
  try clear c1
  try clear p2
  obtain ⟨x5_1,x6_1,rfl,HA,HK1,HO_5,BK185,BK186,HB⟩:=hrel
  cases gk with
  | zero=>exact absurd HA.out (by simp [spec_slArcs.l0])
  | succ k1 =>
   have H:=HA.out
   clear HA
   simp only [spec_slArcs.l0] at H
   replace H:=bI0.mp H
   obtain ⟨t187,A50,H⟩:=H
   replace H:(if x6_1 < t187 then ((spec_grX.f a0_0 a0_1 a0_2 x6_1).bind fun t188=>((spec_grY.f a0_0 a0_1 a0_2 x6_1).bind fun t189=>((spec_grZ.f a0_0 a0_1 a0_2 x6_1).bind fun t190=>(if 0≤(wrap64 ((wrap64 (t189 * a0_0)) + t188)) then (if (wrap64 ((wrap64 (t189 * a0_0)) + t188)) < (l1_0.length:Int) then (if 0≤(rd l1_0 (wrap64 ((wrap64 (t189 * a0_0)) + t188))) then (if (rd l1_0 (wrap64 ((wrap64 (t189 * a0_0)) + t188))) < (l1_1.length:Int) then (spec_slArcs.l1 k1 x5_1 x6_1 t188 t189 t190 ([]:List Int) (rd_L4 l1_1 (rd l1_0 (wrap64 ((wrap64 (t189 * a0_0)) + t188)))) ((rd_L4 l1_1 (rd l1_0 (wrap64 ((wrap64 (t189 * a0_0)) + t188)))).length:Int) 0 a0_0 a0_1 a0_2 l1_0 l1_1) else (none)) else (none)) else (none)) else (none))))) else (some x5_1))=some r:=H
   have A5:=aM0 A50
   clear A50
   by_cases c6:x6_1 < t187
   ·rw [if_pos c6] at H
    have c6b0:decide (x6_1 < t187)=true:=dT0 c6
    clear c6
    replace H:=bI0.mp H
    obtain ⟨t188,A70,H⟩:=H
    replace H:((spec_grY.f a0_0 a0_1 a0_2 x6_1).bind fun t189=>((spec_grZ.f a0_0 a0_1 a0_2 x6_1).bind fun t190=>(if 0≤(wrap64 ((wrap64 (t189 * a0_0)) + t188)) then (if (wrap64 ((wrap64 (t189 * a0_0)) + t188)) < (l1_0.length:Int) then (if 0≤(rd l1_0 (wrap64 ((wrap64 (t189 * a0_0)) + t188))) then (if (rd l1_0 (wrap64 ((wrap64 (t189 * a0_0)) + t188))) < (l1_1.length:Int) then (spec_slArcs.l1 k1 x5_1 x6_1 t188 t189 t190 ([]:List Int) (rd_L4 l1_1 (rd l1_0 (wrap64 ((wrap64 (t189 * a0_0)) + t188)))) ((rd_L4 l1_1 (rd l1_0 (wrap64 ((wrap64 (t189 * a0_0)) + t188)))).length:Int) 0 a0_0 a0_1 a0_2 l1_0 l1_1) else (none)) else (none)) else (none)) else (none))))=some r:=H
    have A7:=aM0 A70
    clear A70
    replace H:=bI0.mp H
    obtain ⟨t189,A80,H⟩:=H
    replace H:((spec_grZ.f a0_0 a0_1 a0_2 x6_1).bind fun t190=>(if 0≤(wrap64 ((wrap64 (t189 * a0_0)) + t188)) then (if (wrap64 ((wrap64 (t189 * a0_0)) + t188)) < (l1_0.length:Int) then (if 0≤(rd l1_0 (wrap64 ((wrap64 (t189 * a0_0)) + t188))) then (if (rd l1_0 (wrap64 ((wrap64 (t189 * a0_0)) + t188))) < (l1_1.length:Int) then (spec_slArcs.l1 k1 x5_1 x6_1 t188 t189 t190 ([]:List Int) (rd_L4 l1_1 (rd l1_0 (wrap64 ((wrap64 (t189 * a0_0)) + t188)))) ((rd_L4 l1_1 (rd l1_0 (wrap64 ((wrap64 (t189 * a0_0)) + t188)))).length:Int) 0 a0_0 a0_1 a0_2 l1_0 l1_1) else (none)) else (none)) else (none)) else (none)))=some r:=H
    have A8:=aM0 A80
    clear A80
    replace H:=bI0.mp H
    obtain ⟨t190,A90,H⟩:=H
    replace H:(if 0≤(wrap64 ((wrap64 (t189 * a0_0)) + t188)) then (if (wrap64 ((wrap64 (t189 * a0_0)) + t188)) < (l1_0.length:Int) then (if 0≤(rd l1_0 (wrap64 ((wrap64 (t189 * a0_0)) + t188))) then (if (rd l1_0 (wrap64 ((wrap64 (t189 * a0_0)) + t188))) < (l1_1.length:Int) then (spec_slArcs.l1 k1 x5_1 x6_1 t188 t189 t190 ([]:List Int) (rd_L4 l1_1 (rd l1_0 (wrap64 ((wrap64 (t189 * a0_0)) + t188)))) ((rd_L4 l1_1 (rd l1_0 (wrap64 ((wrap64 (t189 * a0_0)) + t188)))).length:Int) 0 a0_0 a0_1 a0_2 l1_0 l1_1) else (none)) else (none)) else (none)) else (none))=some r:=H
    have A9:=aM0 A90
    clear A90
    obtain ⟨ji10,hji10⟩:∃ j_:Int,(wrap64 ((wrap64 (t189 * a0_0)) + t188))=j_:=⟨_,rfl⟩
    replace H:(if 0≤(ji10) then (if (ji10) < (l1_0.length:Int) then (if 0≤(rd l1_0 (ji10)) then (if (rd l1_0 (ji10)) < (l1_1.length:Int) then (spec_slArcs.l1 k1 x5_1 x6_1 t188 t189 t190 ([]:List Int) (rd_L4 l1_1 (rd l1_0 (ji10))) ((rd_L4 l1_1 (rd l1_0 (ji10))).length:Int) 0 a0_0 a0_1 a0_2 l1_0 l1_1) else (none)) else (none)) else (none)) else (none))=some r:=by first|(rw [hji10] at H;exact H)|(simp only [hji10] at H ⊢;exact H)
    (try rw [hji10] at A5)
    (try rw [hji10] at A7)
    (try rw [hji10] at A8)
    (try rw [hji10] at A9)
    have hji10w:(IntKind.i64.wrap ((wrap64 (t189 * a0_0)) + t188))=ji10:=(i64_w _).trans hji10
    by_cases c11:0≤(ji10)
    ·rw [if_pos c11] at H
     have c11b0:decide (0≤(ji10))=true:=dT0 c11
     clear c11
     by_cases c12:(ji10) < (l1_0.length:Int)
     ·rw [if_pos c12] at H
      have c12b0:decide ((ji10) < (l1_0.length:Int))=true:=dT0 c12
      clear c12
      by_cases c13:0≤(rd l1_0 (ji10))
      ·rw [if_pos c13] at H
       have c13b0:decide (0≤(rd l1_0 (ji10)))=true:=dT0 c13
       clear c13
       by_cases c14:(rd l1_0 (ji10)) < (l1_1.length:Int)
       ·rw [if_pos c14] at H
        have c14b0:decide ((rd l1_0 (ji10)) < (l1_1.length:Int))=true:=dT0 c14
        clear c14
        have H':=aM0 H
        clear H
        have hnb15:=NB185_186.out
        have hnc15:=NB186_185.out
        have hcz16_0:wr.cell? ⟨gb185,0,none⟩=some (.int .i64 a0_0):=(bC0 BK185.out 0).trans rfl
        have hcz16_1:wr.cell? ⟨gb185,1,none⟩=some (.int .i64 a0_1):=(bC0 BK185.out 1).trans rfl
        have hcz16_2:wr.cell? ⟨gb185,2,none⟩=some (.int .i64 a0_2):=(bC0 BK185.out 2).trans rfl
        have hfz16_0:=blk_frozen BK185.out 0
        have hfz16_1:=blk_frozen BK185.out 1
        have hfz16_2:=blk_frozen BK185.out 2
        try go_wp2_with (first|((with_reducible refine gate_callee (f:=92) rfl ?_);refine goesL_ (some 16) rfl rfl Try.func92 (zsx0_6) rfl #[.agg #[.int .i64 a0_0,.int .i64 a0_1,.int .i64 a0_2]] rfl (zsx0_7) ?_;(with_reducible refine (spec_grCount.calls a0_0 a0_1 a0_2 t187 _ A5.out).mono ?_);rintro e w17 ⟨rfl,hb⟩;refine ⟨_,rfl,?_⟩;have n0_:=aM0 (Kd.S_below (zsx0_21) hb);have n1_:=aM0 (blk_below (g:=gb185) (o:=.cells #[.int .i64 a0_0,.int .i64 a0_1,.int .i64 a0_2] 84 (0,0)) (zsx0_17) hb);have n2_:=aM0 (blk_below (g:=gb186) (o:=.cells #[.slice A1_0 l1_0.length c1_0,.slice A1_1 l1_1.length c1_1] 89 (0,0)) (zsx0_19) hb);have n3_:=aM0 (below_step (zsx0_20) hb);clear HO_5 BK185 BK186 HB;have HO_5:=n0_;have BK185:=n1_;have BK186:=n2_;have HB:=n3_;clear n0_ n1_ n2_ n3_;(try clear hb);(try clear hb2);(try clear hk);(try clear hi)))
        have n0_:=aM0 (Kd.S_drew HO_5.out)
        have n1_:=aM0 (blk_drew BK185.out)
        have n2_:=aM0 (blk_drew BK186.out)
        have n3_:=aM0 (below_drew1 HB.out)
        clear HO_5 BK185 BK186 HB
        have HO_5:=n0_
        have BK185:=n1_
        have BK186:=n2_
        have HB:=n3_
        clear n0_ n1_ n2_ n3_
        refine start_ (n:=12) (S:=fun w'=>w'.cell? ⟨gb185,0,none⟩=some (.int .i64 a0_0)∧w'.cell? ⟨gb185,1,none⟩=some (.int .i64 a0_1)∧w'.cell? ⟨gb185,2,none⟩=some (.int .i64 a0_2)) (ds:=[]) #[false,false,false,false,false,false,false,false,false,false,false,false] (zsx0_6) rfl rfl ⟨(bC0 BK185.out 0).trans rfl,(bC0 BK185.out 1).trans rfl,(bC0 BK185.out 2).trans rfl⟩ (fun hHeld=>?_);refine with_tabW spec_slArcs.tab5 spec_slArcs.bits5 (fun HT_ HW_=>?_)
        generalize w17.drew=w18 at HO_5 BK185 BK186 HB hHeld ⊢
        refine pure_ (i:=1) (N:=some 21) (v:=?_) (a':=?_) #[false,true,false,false,false,false,false,false,false,false,false,false] rfl rfl (any_of HT_.out (zsx0_6)) (fun _ _ _ h=>h) (Or.inl ⟨by rfl,?_⟩) ?_ ?_
        rotate_left
        ·intro w'
         go_simp
         with_reducible rfl
        rotate_left
        ·simp only [Act.put,uA0,uB0,uC0,i64_w,i32_w]
         rfl
        refine pure_ (i:=4) (N:=some 24) (v:=?_) (a':=?_) #[false,true,false,false,true,false,false,false,false,false,false,false] rfl rfl (any_of HT_.out (zsx0_6)) (fun _ _ _ h=>h) (Or.inl ⟨by rfl,?_⟩) ?_ ?_
        rotate_left
        ·intro w'
         go_simp
         with_reducible rfl
        rotate_left
        ·simp only [Act.put,uA0,uB0,uC0,i64_w,i32_w]
         rfl
        refine pure_ (i:=7) (N:=some 27) (v:=?_) (a':=?_) #[false,true,false,false,true,false,false,true,false,false,false,false] rfl rfl (any_of HT_.out (zsx0_6)) (fun _ _ _ h=>h) (Or.inl ⟨by rfl,?_⟩) ?_ ?_
        rotate_left
        ·intro w'
         go_simp
         with_reducible rfl
        rotate_left
        ·simp only [Act.put,uA0,uB0,uC0,i64_w,i32_w]
         rfl
        refine take_ (i:=0) (N:=some 20) (v:=?_) (a':=?_) #[true,true,false,false,true,false,false,true,false,false,false,false] rfl rfl (take_ofW HT_.out HW_.out (zsx0_6)) (fun _ _ _ h=>h) (Or.inl ⟨by rfl,?_⟩) hHeld ?_ ?_
        rotate_left
        ·rintro w' ⟨s0,s1,s2⟩
         go_simp
         with_reducible rfl
        rotate_left
        ·simp only [Act.put,uA0,uB0,uC0,i64_w,i32_w]
         rfl
        refine take_ (i:=3) (N:=some 23) (v:=?_) (a':=?_) #[true,true,false,true,true,false,false,true,false,false,false,false] rfl rfl (take_ofW HT_.out HW_.out (zsx0_6)) (fun _ _ _ h=>h) (Or.inl ⟨by rfl,?_⟩) hHeld ?_ ?_
        rotate_left
        ·rintro w' ⟨s0,s1,s2⟩
         go_simp
         with_reducible rfl
        rotate_left
        ·simp only [Act.put,uA0,uB0,uC0,i64_w,i32_w]
         rfl
        refine take_ (i:=6) (N:=some 26) (v:=?_) (a':=?_) #[true,true,false,true,true,false,true,true,false,false,false,false] rfl rfl (take_ofW HT_.out HW_.out (zsx0_6)) (fun _ _ _ h=>h) (Or.inl ⟨by rfl,?_⟩) hHeld ?_ ?_
        rotate_left
        ·rintro w' ⟨s0,s1,s2⟩
         go_simp
         with_reducible rfl
        rotate_left
        ·simp only [Act.put,uA0,uB0,uC0,i64_w,i32_w]
         rfl
        refine one_ (i:=2) (N:=some 22) #[true,true,true,true,true,false,true,true,false,false,false,false] rfl rfl (one_of HT_.out (zsx0_6)) (by decide) (fun K hK=>?_)
        refine goes_ Try.func93 (zsx0_6) rfl #[.agg #[.int .i64 a0_0,.int .i64 a0_1,.int .i64 a0_2],.int .i64 x6_1] (by rfl) rfl rfl (zsx0_7) ?_
        with_reducible refine (spec_grX.calls a0_0 a0_1 a0_2 x6_1 t188 _ A7.out).mono ?_
        rintro e w19 ⟨rfl,hb⟩
        refine ⟨_,rfl,?_⟩
        have n0_:=aM0 (Kd.S_below (zsx0_21) hb)
        have n1_:=aM0 (blk_below (g:=gb185) (o:=.cells #[.int .i64 a0_0,.int .i64 a0_1,.int .i64 a0_2] 84 (0,0)) (zsx0_17) hb)
        have n2_:=aM0 (blk_below (g:=gb186) (o:=.cells #[.slice A1_0 l1_0.length c1_0,.slice A1_1 l1_1.length c1_1] 89 (0,0)) (zsx0_19) hb)
        have n3_:=aM0 (below_step (zsx0_20) hb)
        clear HO_5 BK185 BK186 HB
        have HO_5:=n0_
        have BK185:=n1_
        have BK186:=n2_
        have HB:=n3_
        clear n0_ n1_ n2_ n3_
        (try clear hb)
        (try clear hb2)
        (try clear hk)
        (try clear hi)
        refine hK.out _ _ ⟨(bC0 BK185.out 0).trans rfl,(bC0 BK185.out 1).trans rfl,(bC0 BK185.out 2).trans rfl⟩ (fun hHeld=>?_)
        clear hK K
        refine norm_ (a':=?_) ?_ ?_
        rotate_left
        ·show Act.put _ (some 22) _=_
         simp only [Act.put,uA0,uB0,uC0,i64_w,i32_w]
         rfl
        refine one_ (i:=5) (N:=some 25) #[true,true,true,true,true,true,true,true,false,false,false,false] rfl rfl (one_of HT_.out (zsx0_6)) (by decide) (fun K hK=>?_)
        refine goes_ Try.func94 (zsx0_6) rfl #[.agg #[.int .i64 a0_0,.int .i64 a0_1,.int .i64 a0_2],.int .i64 x6_1] (by rfl) rfl rfl (zsx0_7) ?_
        with_reducible refine (spec_grY.calls a0_0 a0_1 a0_2 x6_1 t189 _ A8.out).mono ?_
        rintro e w20 ⟨rfl,hb⟩
        refine ⟨_,rfl,?_⟩
        have n0_:=aM0 (Kd.S_below (zsx0_21) hb)
        have n1_:=aM0 (blk_below (g:=gb185) (o:=.cells #[.int .i64 a0_0,.int .i64 a0_1,.int .i64 a0_2] 84 (0,0)) (zsx0_17) hb)
        have n2_:=aM0 (blk_below (g:=gb186) (o:=.cells #[.slice A1_0 l1_0.length c1_0,.slice A1_1 l1_1.length c1_1] 89 (0,0)) (zsx0_19) hb)
        have n3_:=aM0 (below_step (zsx0_20) hb)
        clear HO_5 BK185 BK186 HB
        have HO_5:=n0_
        have BK185:=n1_
        have BK186:=n2_
        have HB:=n3_
        clear n0_ n1_ n2_ n3_
        (try clear hb)
        (try clear hb2)
        (try clear hk)
        (try clear hi)
        refine hK.out _ _ ⟨(bC0 BK185.out 0).trans rfl,(bC0 BK185.out 1).trans rfl,(bC0 BK185.out 2).trans rfl⟩ (fun hHeld=>?_)
        clear hK K
        refine norm_ (a':=?_) ?_ ?_
        rotate_left
        ·show Act.put _ (some 25) _=_
         simp only [Act.put,uA0,uB0,uC0,i64_w,i32_w]
         rfl
        refine one_ (i:=8) (N:=some 28) #[true,true,true,true,true,true,true,true,true,false,false,false] rfl rfl (one_of HT_.out (zsx0_6)) (by decide) (fun K hK=>?_)
        refine goes_ Try.func95 (zsx0_6) rfl #[.agg #[.int .i64 a0_0,.int .i64 a0_1,.int .i64 a0_2],.int .i64 x6_1] (by rfl) rfl rfl (zsx0_7) ?_
        with_reducible refine (spec_grZ.calls a0_0 a0_1 a0_2 x6_1 t190 _ A9.out).mono ?_
        rintro e w21 ⟨rfl,hb⟩
        refine ⟨_,rfl,?_⟩
        have n0_:=aM0 (Kd.S_below (zsx0_21) hb)
        have n1_:=aM0 (blk_below (g:=gb185) (o:=.cells #[.int .i64 a0_0,.int .i64 a0_1,.int .i64 a0_2] 84 (0,0)) (zsx0_17) hb)
        have n2_:=aM0 (blk_below (g:=gb186) (o:=.cells #[.slice A1_0 l1_0.length c1_0,.slice A1_1 l1_1.length c1_1] 89 (0,0)) (zsx0_19) hb)
        have n3_:=aM0 (below_step (zsx0_20) hb)
        clear HO_5 BK185 BK186 HB
        have HO_5:=n0_
        have BK185:=n1_
        have BK186:=n2_
        have HB:=n3_
        clear n0_ n1_ n2_ n3_
        (try clear hb)
        (try clear hb2)
        (try clear hk)
        (try clear hi)
        refine hK.out _ _ ⟨(bC0 BK185.out 0).trans rfl,(bC0 BK185.out 1).trans rfl,(bC0 BK185.out 2).trans rfl⟩ (fun hHeld=>?_)
        clear hK K
        refine norm_ (a':=?_) ?_ ?_
        rotate_left
        ·show Act.put _ (some 28) _=_
         simp only [Act.put,uA0,uB0,uC0,i64_w,i32_w]
         rfl
        refine pure_ (i:=9) (N:=some 7) (v:=?_) (a':=?_) #[true,true,true,true,true,true,true,true,true,true,false,false] rfl rfl (any_of HT_.out (zsx0_6)) (fun _ _ _ h=>h) (Or.inl ⟨by rfl,?_⟩) ?_ ?_
        rotate_left
        ·intro w'
         go_simp
         with_reducible rfl
        rotate_left
        ·simp only [Act.put,uA0,uB0,uC0,i64_w,i32_w]
         rfl
        refine pure_ (i:=10) (N:=some 8) (v:=?_) (a':=?_) #[true,true,true,true,true,true,true,true,true,true,true,false] rfl rfl (any_of HT_.out (zsx0_6)) (fun _ _ _ h=>h) (Or.inl ⟨by rfl,?_⟩) ?_ ?_
        rotate_left
        ·intro w'
         go_simp
         with_reducible rfl
        rotate_left
        ·simp only [Act.put,uA0,uB0,uC0,i64_w,i32_w]
         rfl
        refine pure_ (i:=11) (N:=some 9) (v:=?_) (a':=?_) #[true,true,true,true,true,true,true,true,true,true,true,true] rfl rfl (any_of HT_.out (zsx0_6)) (fun _ _ _ h=>h) (Or.inl ⟨by rfl,?_⟩) ?_ ?_
        rotate_left
        ·intro w'
         go_simp
         with_reducible rfl
        rotate_left
        ·simp only [Act.put,uA0,uB0,uC0,i64_w,i32_w]
         rfl
        refine done_ (done_of HT_.out (zsx0_6)) ?_
        try go_wp2
        have n0_:=aM0 (Kd.S_drew HO_5.out)
        have n1_:=aM0 (blk_drew BK185.out)
        have n2_:=aM0 (blk_drew BK186.out)
        have n3_:=aM0 (below_drew1 HB.out)
        clear HO_5 BK185 BK186 HB
        have HO_5:=n0_
        have BK185:=n1_
        have BK186:=n2_
        have HB:=n3_
        clear n0_ n1_ n2_ n3_
        have p191:0≤((ji10):Int):=oD0 (zsx0_0)
        have q191:(ji10) < (l1_0.length:Int):=oD0 (zsx0_0)
        obtain ⟨ad191,e191,hx191_0⟩:=Kd.at_int HR1_0.out (ji10) p191 q191
        have hw191_0:=hx191_0
        cases e191
        replace hx191_0:=(HB.out.cell (bL0 w _ hx191_0)).trans hx191_0
        replace p191:=eq_true p191
        replace q191:=eq_true q191
        have p192:0≤((rd l1_0 (ji10)):Int):=oD0 (zsx0_0)
        have q192:(rd l1_0 (ji10)) < (l1_1.length:Int):=oD0 (zsx0_0)
        obtain ⟨ad192,A192_0,c192_0,e192,hx192_0,hl192_0,hi192_0⟩:=at_L4 HR1_1.out (rd l1_0 (ji10)) p192 q192
        have hw192_0:=hx192_0
        cases e192
        replace hx192_0:=(HB.out.cell (bL0 w _ hx192_0)).trans hx192_0
        have HR192_0:=aM0 hi192_0
        have HC192_0:=aM0 hl192_0
        clear hi192_0 hl192_0
        replace p192:=eq_true p192
        replace q192:=eq_true q192
        refine start_ (n:=16) (S:=fun w'=>w'.cell? ⟨gb186,0,none⟩=some (.slice (some ad191) l1_0.length c1_0)∧w'.cell? ⟨gb186,1,none⟩=some (.slice (some ad192) l1_1.length c1_1)∧w'.cell? ⟨gb185,0,none⟩=some (.int .i64 a0_0)∧w'.cell? ⟨gb185,1,none⟩=some (.int .i64 a0_1)∧w'.cell? ⟨gb185,2,none⟩=some (.int .i64 a0_2)∧w'.cell? (ad191.add ((ji10)).toNat)=some (.int .i64 (rd l1_0 (ji10)))∧w'.cell? (ad192.add ((rd l1_0 (ji10))).toNat)=some (.slice A192_0 (rd_L4 l1_1 (rd l1_0 (ji10))).length c192_0)) (ds:=[]) #[false,false,false,false,false,false,false,false,false,false,false,false,false,false,false,false] (zsx0_6) rfl rfl ⟨(bC0 BK186.out 0).trans rfl,(bC0 BK186.out 1).trans rfl,(bC0 BK185.out 0).trans rfl,(bC0 BK185.out 1).trans rfl,(bC0 BK185.out 2).trans rfl,((HB.out.cell (bL0 w _ hw191_0)).trans hw191_0),((HB.out.cell (bL0 w _ hw192_0)).trans hw192_0)⟩ (fun hHeld=>?_);refine with_tabW spec_slArcs.tab7 spec_slArcs.bits7 (fun HT_ HW_=>?_)
        generalize w21.drew=w22 at HO_5 BK185 BK186 HB HR192_0 hx191_0 hx192_0 hHeld ⊢
        refine pure_ (i:=0) (N:=some 29) (v:=?_) (a':=?_) #[true,false,false,false,false,false,false,false,false,false,false,false,false,false,false,false] rfl rfl (any_of HT_.out (zsx0_6)) (fun _ _ _ h=>h) (Or.inl ⟨by rfl,?_⟩) ?_ ?_
        rotate_left
        ·intro w'
         go_simp
         with_reducible rfl
        rotate_left
        ·simp only [Act.put,uA0,uB0,uC0,i64_w,i32_w]
         rfl
        refine pure_ (i:=2) (N:=some 31) (v:=?_) (a':=?_) #[true,false,true,false,false,false,false,false,false,false,false,false,false,false,false,false] rfl rfl (any_of HT_.out (zsx0_6)) (fun _ _ _ h=>h) (Or.inl ⟨by rfl,?_⟩) ?_ ?_
        rotate_left
        ·intro w'
         go_simp
         with_reducible rfl
        rotate_left
        ·simp only [Act.put,uA0,uB0,uC0,i64_w,i32_w]
         rfl
        refine pure_ (i:=4) (N:=some 33) (v:=?_) (a':=?_) #[true,false,true,false,true,false,false,false,false,false,false,false,false,false,false,false] rfl rfl (any_of HT_.out (zsx0_6)) (fun _ _ _ h=>h) (Or.inl ⟨by rfl,?_⟩) ?_ ?_
        rotate_left
        ·intro w'
         go_simp
         with_reducible rfl
        rotate_left
        ·simp only [Act.put,uA0,uB0,uC0,i64_w,i32_w]
         rfl
        refine pure_ (i:=5) (N:=some 34) (v:=?_) (a':=?_) #[true,false,true,false,true,true,false,false,false,false,false,false,false,false,false,false] rfl rfl (any_of HT_.out (zsx0_6)) (fun _ _ _ h=>h) (Or.inl ⟨by rfl,?_⟩) ?_ ?_
        rotate_left
        ·intro w'
         go_simp
         with_reducible rfl
        rotate_left
        ·simp only [Act.put,uA0,uB0,uC0,i64_w,i32_w]
         rfl
        refine pure_ (i:=8) (N:=some 37) (v:=?_) (a':=?_) #[true,false,true,false,true,true,false,false,true,false,false,false,false,false,false,false] rfl rfl (any_of HT_.out (zsx0_6)) (fun _ _ _ h=>h) (Or.inl ⟨by rfl,?_⟩) ?_ ?_
        rotate_left
        ·intro w'
         go_simp
         with_reducible rfl
        rotate_left
        ·simp only [Act.put,uA0,uB0,uC0,i64_w,i32_w]
         rfl
        refine pure_ (i:=15) (N:=some 44) (v:=?_) (a':=?_) #[true,false,true,false,true,true,false,false,true,false,false,false,false,false,false,true] rfl rfl (any_of HT_.out (zsx0_6)) (fun _ _ _ h=>h) (Or.inl ⟨by rfl,?_⟩) ?_ ?_
        rotate_left
        ·intro w'
         go_simp
         with_reducible rfl
        rotate_left
        ·simp only [Act.put,uA0,uB0,uC0,i64_w,i32_w]
         rfl
        refine take_ (i:=1) (N:=some 30) (v:=?_) (a':=?_) #[true,true,true,false,true,true,false,false,true,false,false,false,false,false,false,true] rfl rfl (take_ofW HT_.out HW_.out (zsx0_6)) (fun _ _ _ h=>h) (Or.inl ⟨by rfl,?_⟩) hHeld ?_ ?_
        rotate_left
        ·rintro w' ⟨s0,s1,s2,s3,s4,s5,s6⟩
         go_simp
         with_reducible rfl
        rotate_left
        ·simp only [Act.put,uA0,uB0,uC0,i64_w,i32_w]
         rfl
        refine take_ (i:=3) (N:=some 32) (v:=?_) (a':=?_) #[true,true,true,true,true,true,false,false,true,false,false,false,false,false,false,true] rfl rfl (take_ofW HT_.out HW_.out (zsx0_6)) (fun _ _ _ h=>h) (Or.inl ⟨by rfl,?_⟩) hHeld ?_ ?_
        rotate_left
        ·rintro w' ⟨s0,s1,s2,s3,s4,s5,s6⟩
         go_simp
         with_reducible rfl
        rotate_left
        ·simp only [Act.put,uA0,uB0,uC0,i64_w,i32_w]
         rfl
        refine take_ (i:=6) (N:=some 35) (v:=?_) (a':=?_) #[true,true,true,true,true,true,true,false,true,false,false,false,false,false,false,true] rfl rfl (take_ofW HT_.out HW_.out (zsx0_6)) (fun _ _ _ h=>h) (Or.inl ⟨by rfl,?_⟩) hHeld ?_ ?_
        rotate_left
        ·rintro w' ⟨s0,s1,s2,s3,s4,s5,s6⟩
         go_simp
         with_reducible rfl
        rotate_left
        ·simp only [Act.put,uA0,uB0,uC0,i64_w,i32_w]
         rfl
        refine pure_ (i:=7) (N:=some 36) (v:=?_) (a':=?_) #[true,true,true,true,true,true,true,true,true,false,false,false,false,false,false,true] rfl rfl (any_of HT_.out (zsx0_6)) (fun _ _ _ h=>h) (Or.inl ⟨by rfl,?_⟩) ?_ ?_
        rotate_left
        ·intro w'
         go_simp
         with_reducible rfl
        rotate_left
        ·simp only [Act.put,uA0,uB0,uC0,i64_w,i32_w]
         rfl
        refine pure_ (i:=9) (N:=some 38) (v:=?_) (a':=?_) #[true,true,true,true,true,true,true,true,true,true,false,false,false,false,false,true] rfl rfl (any_of HT_.out (zsx0_6)) (fun _ _ _ h=>h) (Or.inl ⟨by rfl,?_⟩) ?_ ?_
        rotate_left
        ·intro w'
         go_simp
         with_reducible rfl
        rotate_left
        ·simp only [Act.put,uA0,uB0,uC0,i64_w,i32_w]
         rfl
        refine pure_ (i:=10) (N:=some 39) (v:=?_) (a':=?_) #[true,true,true,true,true,true,true,true,true,true,true,false,false,false,false,true] rfl rfl (any_of HT_.out (zsx0_6)) (fun _ _ _ h=>h) (Or.inl ⟨by rfl,?_⟩) ?_ ?_
        rotate_left
        ·intro w'
         go_simp
         with_reducible rfl
        rotate_left
        ·simp only [Act.put,uA0,uB0,uC0,i64_w,i32_w]
         rfl
        refine take_ (i:=11) (N:=some 40) (v:=?_) (a':=?_) #[true,true,true,true,true,true,true,true,true,true,true,true,false,false,false,true] rfl rfl (take_ofW HT_.out HW_.out (zsx0_6)) (fun _ _ _ h=>h) (Or.inl ⟨by rfl,?_⟩) hHeld ?_ ?_
        rotate_left
        ·rintro w' ⟨s0,s1,s2,s3,s4,s5,s6⟩
         go_simp
         with_reducible rfl
        rotate_left
        ·simp only [Act.put,uA0,uB0,uC0,i64_w,i32_w]
         rfl
        refine pure_ (i:=12) (N:=some 41) (v:=?_) (a':=?_) #[true,true,true,true,true,true,true,true,true,true,true,true,true,false,false,true] rfl rfl (any_of HT_.out (zsx0_6)) (fun _ _ _ h=>h) (Or.inl ⟨by rfl,?_⟩) ?_ ?_
        rotate_left
        ·intro w'
         go_simp
         with_reducible rfl
        rotate_left
        ·simp only [Act.put,uA0,uB0,uC0,i64_w,i32_w]
         rfl
        refine take_ (i:=13) (N:=some 42) (v:=?_) (a':=?_) #[true,true,true,true,true,true,true,true,true,true,true,true,true,true,false,true] rfl rfl (take_ofW HT_.out HW_.out (zsx0_6)) (fun _ _ _ h=>h) (Or.inl ⟨by rfl,?_⟩) hHeld ?_ ?_
        rotate_left
        ·rintro w' ⟨s0,s1,s2,s3,s4,s5,s6⟩
         go_simp
         with_reducible rfl
        rotate_left
        ·simp only [Act.put,uA0,uB0,uC0,i64_w,i32_w]
         rfl
        refine pure_ (i:=14) (N:=some 43) (v:=?_) (a':=?_) #[true,true,true,true,true,true,true,true,true,true,true,true,true,true,true,true] rfl rfl (any_of HT_.out (zsx0_6)) (fun _ _ _ h=>h) (Or.inl ⟨by rfl,?_⟩) ?_ ?_
        rotate_left
        ·intro w'
         go_simp
         with_reducible rfl
        rotate_left
        ·simp only [Act.put,uA0,uB0,uC0,i64_w,i32_w]
         rfl
        refine done_ (done_of HT_.out (zsx0_6)) ?_
        try go_wp2
        go_loopg [10,44] k1 (fun kq v10 v44 w'=>∃ (x10_2:List Int) (x44_2:Int),v44=.int .i64 x44_2∧Aside0 (spec_slArcs.l1 kq x5_1 x6_1 t188 t189 t190 x10_2 (rd_L4 l1_1 (rd l1_0 (ji10))) ((rd_L4 l1_1 (rd l1_0 (ji10))).length:Int) x44_2 a0_0 a0_1 a0_2 l1_0 l1_1=some r)∧Aside0 (kq≤k1)∧Aside0 (Kd.S (Kd.slice 3 (Kd.int .i64)) 33 w' w.heap.size (fun k_=>some k_≠(v10:Value).ownBlock) u5 x5_1)∧Aside0 (Kd.R (Kd.int .i64) 3 w' w.heap.size (fun _=>True) v10 x10_2)∧Aside0 (w'.heap[gb185]?=some (.cells #[.int .i64 a0_0,.int .i64 a0_1,.int .i64 a0_2] 84 (0,0)))∧Aside0 (w'.heap[gb186]?=some (.cells #[(.slice (some ad191) l1_0.length c1_0),(.slice (some ad192) l1_1.length c1_1)] 89 (0,0)))∧Aside0 (Below w.heap.size w w'))
        case atStart=>exact ⟨(([]:List Int)),(0),(zsx0_12),H',⟨Nat.le_refl _⟩,⟨by (with_reducible repeat (first|apply Kd.S_alloc|apply Kd.S_drewN|apply Kd.S_drew));exact Kd.S_mono HO_5.out (fun _ hk=>(by simp [Value.ownBlock]))⟩,⟨by first|exact Kd.R_nil _ _ _ _ _|exact Kd.N_nil _ _ _ _ _|exact Kd.V_nil _ _ _ _ _|exact Kd.Q_nil _ _ _ _ _|exact Kd.S_nil _ _ _ _ _⟩,⟨zsx0_17⟩,⟨zsx0_19⟩,⟨zsx0_20⟩⟩
        case round =>
         clear H'
         try clear c1
         try clear p1
         try clear q1
         try clear hx1
         try clear p2
         try clear c6
         try clear c6b0
         try clear p6
         try clear c9
         try clear c11
         try clear c11b0
         try clear c12
         try clear c12b0
         try clear c13
         try clear c13b0
         try clear c14
         try clear c14b0
         try clear c15
         try clear c19
         try clear p19
         try clear q19
         try clear hx19
         try clear hcz16_0
         try clear hcz16_1
         try clear hcz16_2
         try clear hfz16_0
         try clear hfz16_1
         try clear hfz16_2
         try clear hx191_0
         try clear hx192_0
         try clear p191
         try clear p192
         try clear p2
         try clear q191
         try clear q192
         obtain ⟨x10_2,x44_2,rfl,HA,HK2,HO_5,HO_10,BK185,BK186,HB⟩:=hrel
         cases gk with
         | zero=>exact absurd HA.out (by simp [spec_slArcs.l1])
         | succ k2 =>
          have H:=HA.out
          clear HA
          simp only [spec_slArcs.l1] at H
          by_cases c23:x44_2 < ((rd_L4 l1_1 (rd l1_0 (ji10))).length:Int)
          ·rw [if_pos c23] at H
           have c23b0:decide (x44_2 < ((rd_L4 l1_1 (rd l1_0 (ji10))).length:Int))=true:=dT0 c23
           clear c23
           by_cases c24:0≤x44_2
           ·rw [if_pos c24] at H
            have c24b0:decide (0≤x44_2)=true:=dT0 c24
            clear c24
            by_cases c25:x44_2 < ((rd_L4 l1_1 (rd l1_0 (ji10))).length:Int)
            ·rw [if_pos c25] at H
             have c25b0:decide (x44_2 < ((rd_L4 l1_1 (rd l1_0 (ji10))).length:Int))=true:=dT0 c25
             clear c25
             replace H:=bI0.mp H
             obtain ⟨t198,A260,H⟩:=H
             replace H:(if t198 ≥ 0 then ((spec_l1Put.f k2 x10_2 t198).bind fun t199=>(spec_slArcs.l1 k2 x5_1 x6_1 t188 t189 t190 t199 (rd_L4 l1_1 (rd l1_0 (ji10))) ((rd_L4 l1_1 (rd l1_0 (ji10))).length:Int) (wrap64 (x44_2 + 1)) a0_0 a0_1 a0_2 l1_0 l1_1)) else (spec_slArcs.l1 k2 x5_1 x6_1 t188 t189 t190 x10_2 (rd_L4 l1_1 (rd l1_0 (ji10))) ((rd_L4 l1_1 (rd l1_0 (ji10))).length:Int) (wrap64 (x44_2 + 1)) a0_0 a0_1 a0_2 l1_0 l1_1))=some r:=H
             have A26:=aM0 A260
             clear A260
             by_cases c27:t198 ≥ 0
             ·rw [if_pos c27] at H
              have c27b0:decide (0≤t198)=true:=dT0 c27
              clear c27
              replace H:=bI0.mp H
              obtain ⟨t199,A280,H⟩:=H
              replace H:(spec_slArcs.l1 k2 x5_1 x6_1 t188 t189 t190 t199 (rd_L4 l1_1 (rd l1_0 (ji10))) ((rd_L4 l1_1 (rd l1_0 (ji10))).length:Int) (wrap64 (x44_2 + 1)) a0_0 a0_1 a0_2 l1_0 l1_1)=some r:=H
              have A28:=aM0 A280
              clear A280
              have H':=aM0 H
              clear H
              have p196:0≤(x44_2:Int):=oD0 (zsx0_0)
              have q196:x44_2 < ((rd_L4 l1_1 (rd l1_0 (ji10))).length:Int):=oD0 (zsx0_0)
              obtain ⟨ad196,e196,hx196_0,hx196_1,hx196_2⟩:=at_T96 HR192_0.out x44_2 p196 q196
              cases e196
              replace hx196_0:=(HB.out.cell (bL0 w _ hx196_0)).trans hx196_0
              replace hx196_1:=(HB.out.cell (bL0 w _ hx196_1)).trans hx196_1
              replace hx196_2:=(HB.out.cell (bL0 w _ hx196_2)).trans hx196_2
              replace p196:=eq_true p196
              replace q196:=eq_true q196
              go_wp2_with (first|((with_reducible refine gate_dst (N:=12) rfl ?_);refine box_event ?hg (N:=12) ?hd (cs:=#[.int .i64 0,.int .i64 0,.int .i64 0]) (t:=96) ?hr ?_;(case hd=>rfl);(case hg=>rfl);(case hr=>exact zsx0_28);intro gb197 hg w29 hbox hb;have n0_:=aM0 (Kd.S_below (zsx0_21) hb);have n1_:=aM0 (Kd.R_below (zsx0_22) hb);have n2_:=aM0 (blk_below (g:=gb185) (o:=.cells #[.int .i64 a0_0,.int .i64 a0_1,.int .i64 a0_2] 84 (0,0)) (zsx0_17) hb);have n3_:=aM0 (blk_below (g:=gb186) (o:=.cells #[.slice (some ad191) l1_0.length c1_0,.slice (some ad192) l1_1.length c1_1] 89 (0,0)) (zsx0_19) hb);have n4_:=aM0 (below_step (zsx0_20) hb);have n5_:=aM0 (hbox);have n6_:=aM0 ((by rw [hg];exact (bZ0 (zsx0_20)):w.heap.size≤gb197));have n7_:=aM0 ((by rw [hg];exact (bZ0 (zsx0_20)):w.heap.size≤gb197));have n8_:=aM0 ((zsx0_34:gb185≠gb197));have n9_:=aM0 ((zsx0_35:gb197≠gb185));have n10_:=aM0 ((zsx0_36:gb186≠gb197));have n11_:=aM0 ((zsx0_37:gb197≠gb186));clear HO_5 HO_10 BK185 BK186 HB;have HO_5:=n0_;have HO_10:=n1_;have BK185:=n2_;have BK186:=n3_;have HB:=n4_;have BK197:=n5_;have GW197:=n6_;have GE197:=n7_;have NB185_197:=n8_;have NB197_185:=n9_;have NB186_197:=n10_;have NB197_186:=n11_;clear n0_ n1_ n2_ n3_ n4_ n5_ n6_ n7_ n8_ n9_ n10_ n11_ hb hbox hg;have hnb30:=NB197_185.out;have hnc30:=NB185_197.out;have hnb31:=NB197_186.out;have hnc31:=NB186_197.out;have hcz32_0:w29.cell? ⟨gb197,0,none⟩=some (.int .i64 0):=(bC0 BK197.out 0).trans rfl;have hcz32_1:w29.cell? ⟨gb197,1,none⟩=some (.int .i64 0):=(bC0 BK197.out 1).trans rfl;have hcz32_2:w29.cell? ⟨gb197,2,none⟩=some (.int .i64 0):=(bC0 BK197.out 2).trans rfl;have hfz32_0:=blk_frozen BK197.out 0;have hfz32_1:=blk_frozen BK197.out 1;have hfz32_2:=blk_frozen BK197.out 2;have hnb33:=NB185_186.out;have hnc33:=NB186_185.out;have hcz34_0:w29.cell? ⟨gb185,0,none⟩=some (.int .i64 a0_0):=(bC0 BK185.out 0).trans rfl;have hcz34_1:w29.cell? ⟨gb185,1,none⟩=some (.int .i64 a0_1):=(bC0 BK185.out 1).trans rfl;have hcz34_2:w29.cell? ⟨gb185,2,none⟩=some (.int .i64 a0_2):=(bC0 BK185.out 2).trans rfl;have hfz34_0:=blk_frozen BK185.out 0;have hfz34_1:=blk_frozen BK185.out 1;have hfz34_2:=blk_frozen BK185.out 2)|((with_reducible refine gate_callee (f:=96) rfl ?_);refine goesL_ (some 61) rfl rfl Try.func96 (zsx0_6) rfl #[.agg #[.int .i64 a0_0,.int .i64 a0_1,.int .i64 a0_2],.int .i64 (wrap64 (t188 + ((rd_T96 (rd_L4 l1_1 (rd l1_0 (ji10))) x44_2).f0))),.int .i64 (wrap64 (t189 + ((rd_T96 (rd_L4 l1_1 (rd l1_0 (ji10))) x44_2).f1))),.int .i64 (wrap64 (t190 - ((rd_T96 (rd_L4 l1_1 (rd l1_0 (ji10))) x44_2).f2)))] rfl (zsx0_23) ?_;(with_reducible refine (spec_grAt.calls a0_0 a0_1 a0_2 (wrap64 (t188 + ((rd_T96 (rd_L4 l1_1 (rd l1_0 (ji10))) x44_2).f0))) (wrap64 (t189 + ((rd_T96 (rd_L4 l1_1 (rd l1_0 (ji10))) x44_2).f1))) (wrap64 (t190 - ((rd_T96 (rd_L4 l1_1 (rd l1_0 (ji10))) x44_2).f2))) t198 _ A26.out).mono ?_);rintro e w35 ⟨rfl,hb⟩;refine ⟨_,rfl,?_⟩;have n0_:=aM0 (Kd.S_below (by (with_reducible repeat (first|apply Kd.S_alloc|apply Kd.S_drewN|apply Kd.S_drew));exact (Kd.S_mono (Kd.S_far (p:=⟨gb197,2,none⟩) (Kd.S_far (p:=⟨gb197,1,none⟩) (Kd.S_far (p:=⟨gb197,0,none⟩) (Kd.S_types HO_5.out BK197.out (by decide)) (fun _ hk=>hk.2) (.int .i64 ((rd_T96 (rd_L4 l1_1 (rd l1_0 (ji10))) x44_2).f0))) (fun _ hk=>hk.2) (.int .i64 ((rd_T96 (rd_L4 l1_1 (rd l1_0 (ji10))) x44_2).f1))) (fun _ hk=>hk.2) (.int .i64 ((rd_T96 (rd_L4 l1_1 (rd l1_0 (ji10))) x44_2).f2))) (fun _ h_=>h_.1))) hb);have n1_:=aM0 (Kd.R_below (by (with_reducible repeat (first|apply Kd.R_alloc|apply Kd.R_drewN|apply Kd.R_drew));exact (Kd.R_mono (Kd.R_far (p:=⟨gb197,2,none⟩) (Kd.R_far (p:=⟨gb197,1,none⟩) (Kd.R_far (p:=⟨gb197,0,none⟩) (Kd.R_types HO_10.out BK197.out (by decide)) (fun _ hk=>hk.2) (.int .i64 ((rd_T96 (rd_L4 l1_1 (rd l1_0 (ji10))) x44_2).f0))) (fun _ hk=>hk.2) (.int .i64 ((rd_T96 (rd_L4 l1_1 (rd l1_0 (ji10))) x44_2).f1))) (fun _ hk=>hk.2) (.int .i64 ((rd_T96 (rd_L4 l1_1 (rd l1_0 (ji10))) x44_2).f2))) (fun _ h_=>h_.1))) hb);have n2_:=aM0 (blk_below (g:=gb185) (o:=.cells #[.int .i64 a0_0,.int .i64 a0_1,.int .i64 a0_2] 84 (0,0)) (zsx0_24) hb);have n3_:=aM0 (blk_below (g:=gb186) (o:=.cells #[.slice (some ad191) l1_0.length c1_0,.slice (some ad192) l1_1.length c1_1] 89 (0,0)) (zsx0_25) hb);have n4_:=aM0 (blk_below (g:=gb197) (o:=.cells #[.int .i64 ((rd_T96 (rd_L4 l1_1 (rd l1_0 (ji10))) x44_2).f0),.int .i64 ((rd_T96 (rd_L4 l1_1 (rd l1_0 (ji10))) x44_2).f1),.int .i64 ((rd_T96 (rd_L4 l1_1 (rd l1_0 (ji10))) x44_2).f2)] 96 (0,0)) (zsx0_26) hb);have n5_:=aM0 (below_step (zsx0_27) hb);clear HO_5 HO_10 BK185 BK186 BK197 HB;have HO_5:=n0_;have HO_10:=n1_;have BK185:=n2_;have BK186:=n3_;have BK197:=n4_;have HB:=n5_;clear n0_ n1_ n2_ n3_ n4_ n5_;(try clear hb);(try clear hb2);(try clear hk);(try clear hi);obtain ⟨Ao36,co36,eo36⟩:=Kd.R_slice HO_10.out;subst eo36)|((with_reducible refine gate_callee (f:=85) rfl ?_);refine goesL_ (some 66) rfl rfl Try.func85 (zsx0_6) rfl #[.slice Ao36 x10_2.length co36,.int .i64 t198] rfl (zsx0_7) ?_;(with_reducible refine (spec_l1Put.calls k2 (fun k_=>some k_=(.slice Ao36 x10_2.length co36:Value).ownBlock) (.slice Ao36 x10_2.length co36) x10_2 t198 t199 w _ ?side1 ?side2 A28.out).mono ?_);(case side1=>exact zsx0_27);(case side2=>exact Kd.R_tight rfl HO_10.out);rintro e w37 ⟨v200,rfl,ho0,hb,hkp⟩;refine ⟨_,rfl,?_⟩;have n0_:=aM0 (Kd.S_mono (ok':=fun k_=>some k_≠(v200:Value).ownBlock) (Kd.S_keptB (HO_5.out) hkp (fun k_ hk_ hs_=>(hk_) hs_)) (fun k_ hk_=>fun e_=>Or.elim (ho0.1 k_ e_.symm) (fun hs_=>hk_.2.1 hs_) (fun hn_=>Nat.not_le.2 hk_.2.2 hn_)));have n1_:=aM0 (blk_kept (zsx0_17) hkp (fun hs_=>(fun e_=>(Kd.R_ne HO_10.out BK185.out (by decide)) e_) hs_));have n2_:=aM0 (blk_kept (zsx0_19) hkp (fun hs_=>(fun e_=>(Kd.R_ne HO_10.out BK186.out (by decide)) e_) hs_));have n3_:=aM0 (blk_kept (by (with_reducible repeat (first|refine blk_drewN ?_ _|refine blk_drew ?_|refine blk_alloc ?_ _));exact BK197.out) hkp (fun hs_=>(fun e_=>(Kd.R_ne HO_10.out BK197.out (by decide)) e_) hs_));have n4_:=aM0 (Kd.R_mono (ok':=fun k_=>True) ho0 (fun k_ hk_=>trivial));have n5_:=aM0 (hb);clear HO_5 BK185 BK186 BK197 HB HO_10;have HO_5:=n0_;have BK185:=n1_;have BK186:=n2_;have BK197:=n3_;have HO201:=n4_;have HB:=n5_;clear n0_ n1_ n2_ n3_ n4_ n5_;(try clear hb);(try clear hkp);(try clear ho0)))
              go_roundg k2
              case measure=>have:=HK1.out;have:=HK2.out;omega
              case rel=>exact ⟨(t199),(wrap64 (x44_2 + 1)),(zsx0_12),H',⟨by have:=HK1.out;have:=HK2.out;omega⟩,⟨zsx0_21⟩,⟨by (with_reducible repeat (first|apply Kd.R_alloc|apply Kd.R_drewN|apply Kd.R_drew));exact HO201.out⟩,⟨zsx0_17⟩,⟨zsx0_19⟩,⟨zsx0_27⟩⟩
             ·rw [if_neg c27] at H
              have c27b0:decide (0≤t198)=false:=decide_eq_false c27
              clear c27
              have H':=aM0 H
              clear H
              have p196:0≤(x44_2:Int):=oD0 (zsx0_0)
              have q196:x44_2 < ((rd_L4 l1_1 (rd l1_0 (ji10))).length:Int):=oD0 (zsx0_0)
              obtain ⟨ad196,e196,hx196_0,hx196_1,hx196_2⟩:=at_T96 HR192_0.out x44_2 p196 q196
              cases e196
              replace hx196_0:=(HB.out.cell (bL0 w _ hx196_0)).trans hx196_0
              replace hx196_1:=(HB.out.cell (bL0 w _ hx196_1)).trans hx196_1
              replace hx196_2:=(HB.out.cell (bL0 w _ hx196_2)).trans hx196_2
              replace p196:=eq_true p196
              replace q196:=eq_true q196
              go_wp2_with (first|((with_reducible refine gate_dst (N:=12) rfl ?_);refine box_event ?hg (N:=12) ?hd (cs:=#[.int .i64 0,.int .i64 0,.int .i64 0]) (t:=96) ?hr ?_;(case hd=>rfl);(case hg=>rfl);(case hr=>exact zsx0_28);intro gb197 hg w38 hbox hb;have n0_:=aM0 (Kd.S_below (zsx0_21) hb);have n1_:=aM0 (Kd.R_below (zsx0_22) hb);have n2_:=aM0 (blk_below (g:=gb185) (o:=.cells #[.int .i64 a0_0,.int .i64 a0_1,.int .i64 a0_2] 84 (0,0)) (zsx0_17) hb);have n3_:=aM0 (blk_below (g:=gb186) (o:=.cells #[.slice (some ad191) l1_0.length c1_0,.slice (some ad192) l1_1.length c1_1] 89 (0,0)) (zsx0_19) hb);have n4_:=aM0 (below_step (zsx0_20) hb);have n5_:=aM0 (hbox);have n6_:=aM0 ((by rw [hg];exact (bZ0 (zsx0_20)):w.heap.size≤gb197));have n7_:=aM0 ((by rw [hg];exact (bZ0 (zsx0_20)):w.heap.size≤gb197));have n8_:=aM0 ((zsx0_34:gb185≠gb197));have n9_:=aM0 ((zsx0_35:gb197≠gb185));have n10_:=aM0 ((zsx0_36:gb186≠gb197));have n11_:=aM0 ((zsx0_37:gb197≠gb186));clear HO_5 HO_10 BK185 BK186 HB;have HO_5:=n0_;have HO_10:=n1_;have BK185:=n2_;have BK186:=n3_;have HB:=n4_;have BK197:=n5_;have GW197:=n6_;have GE197:=n7_;have NB185_197:=n8_;have NB197_185:=n9_;have NB186_197:=n10_;have NB197_186:=n11_;clear n0_ n1_ n2_ n3_ n4_ n5_ n6_ n7_ n8_ n9_ n10_ n11_ hb hbox hg;have hnb39:=NB197_185.out;have hnc39:=NB185_197.out;have hnb40:=NB197_186.out;have hnc40:=NB186_197.out;have hcz41_0:w38.cell? ⟨gb197,0,none⟩=some (.int .i64 0):=(bC0 BK197.out 0).trans rfl;have hcz41_1:w38.cell? ⟨gb197,1,none⟩=some (.int .i64 0):=(bC0 BK197.out 1).trans rfl;have hcz41_2:w38.cell? ⟨gb197,2,none⟩=some (.int .i64 0):=(bC0 BK197.out 2).trans rfl;have hfz41_0:=blk_frozen BK197.out 0;have hfz41_1:=blk_frozen BK197.out 1;have hfz41_2:=blk_frozen BK197.out 2;have hnb42:=NB185_186.out;have hnc42:=NB186_185.out;have hcz43_0:w38.cell? ⟨gb185,0,none⟩=some (.int .i64 a0_0):=(bC0 BK185.out 0).trans rfl;have hcz43_1:w38.cell? ⟨gb185,1,none⟩=some (.int .i64 a0_1):=(bC0 BK185.out 1).trans rfl;have hcz43_2:w38.cell? ⟨gb185,2,none⟩=some (.int .i64 a0_2):=(bC0 BK185.out 2).trans rfl;have hfz43_0:=blk_frozen BK185.out 0;have hfz43_1:=blk_frozen BK185.out 1;have hfz43_2:=blk_frozen BK185.out 2)|((with_reducible refine gate_callee (f:=96) rfl ?_);refine goesL_ (some 61) rfl rfl Try.func96 (zsx0_6) rfl #[.agg #[.int .i64 a0_0,.int .i64 a0_1,.int .i64 a0_2],.int .i64 (wrap64 (t188 + ((rd_T96 (rd_L4 l1_1 (rd l1_0 (ji10))) x44_2).f0))),.int .i64 (wrap64 (t189 + ((rd_T96 (rd_L4 l1_1 (rd l1_0 (ji10))) x44_2).f1))),.int .i64 (wrap64 (t190 - ((rd_T96 (rd_L4 l1_1 (rd l1_0 (ji10))) x44_2).f2)))] rfl (zsx0_23) ?_;(with_reducible refine (spec_grAt.calls a0_0 a0_1 a0_2 (wrap64 (t188 + ((rd_T96 (rd_L4 l1_1 (rd l1_0 (ji10))) x44_2).f0))) (wrap64 (t189 + ((rd_T96 (rd_L4 l1_1 (rd l1_0 (ji10))) x44_2).f1))) (wrap64 (t190 - ((rd_T96 (rd_L4 l1_1 (rd l1_0 (ji10))) x44_2).f2))) t198 _ A26.out).mono ?_);rintro e w44 ⟨rfl,hb⟩;refine ⟨_,rfl,?_⟩;have n0_:=aM0 (Kd.S_below (by (with_reducible repeat (first|apply Kd.S_alloc|apply Kd.S_drewN|apply Kd.S_drew));exact (Kd.S_mono (Kd.S_far (p:=⟨gb197,2,none⟩) (Kd.S_far (p:=⟨gb197,1,none⟩) (Kd.S_far (p:=⟨gb197,0,none⟩) (Kd.S_types HO_5.out BK197.out (by decide)) (fun _ hk=>hk.2) (.int .i64 ((rd_T96 (rd_L4 l1_1 (rd l1_0 (ji10))) x44_2).f0))) (fun _ hk=>hk.2) (.int .i64 ((rd_T96 (rd_L4 l1_1 (rd l1_0 (ji10))) x44_2).f1))) (fun _ hk=>hk.2) (.int .i64 ((rd_T96 (rd_L4 l1_1 (rd l1_0 (ji10))) x44_2).f2))) (fun _ h_=>h_.1))) hb);have n1_:=aM0 (Kd.R_below (by (with_reducible repeat (first|apply Kd.R_alloc|apply Kd.R_drewN|apply Kd.R_drew));exact (Kd.R_mono (Kd.R_far (p:=⟨gb197,2,none⟩) (Kd.R_far (p:=⟨gb197,1,none⟩) (Kd.R_far (p:=⟨gb197,0,none⟩) (Kd.R_types HO_10.out BK197.out (by decide)) (fun _ hk=>hk.2) (.int .i64 ((rd_T96 (rd_L4 l1_1 (rd l1_0 (ji10))) x44_2).f0))) (fun _ hk=>hk.2) (.int .i64 ((rd_T96 (rd_L4 l1_1 (rd l1_0 (ji10))) x44_2).f1))) (fun _ hk=>hk.2) (.int .i64 ((rd_T96 (rd_L4 l1_1 (rd l1_0 (ji10))) x44_2).f2))) (fun _ h_=>h_.1))) hb);have n2_:=aM0 (blk_below (g:=gb185) (o:=.cells #[.int .i64 a0_0,.int .i64 a0_1,.int .i64 a0_2] 84 (0,0)) (zsx0_24) hb);have n3_:=aM0 (blk_below (g:=gb186) (o:=.cells #[.slice (some ad191) l1_0.length c1_0,.slice (some ad192) l1_1.length c1_1] 89 (0,0)) (zsx0_25) hb);have n4_:=aM0 (blk_below (g:=gb197) (o:=.cells #[.int .i64 ((rd_T96 (rd_L4 l1_1 (rd l1_0 (ji10))) x44_2).f0),.int .i64 ((rd_T96 (rd_L4 l1_1 (rd l1_0 (ji10))) x44_2).f1),.int .i64 ((rd_T96 (rd_L4 l1_1 (rd l1_0 (ji10))) x44_2).f2)] 96 (0,0)) (zsx0_26) hb);have n5_:=aM0 (below_step (zsx0_27) hb);clear HO_5 HO_10 BK185 BK186 BK197 HB;have HO_5:=n0_;have HO_10:=n1_;have BK185:=n2_;have BK186:=n3_;have BK197:=n4_;have HB:=n5_;clear n0_ n1_ n2_ n3_ n4_ n5_;(try clear hb);(try clear hb2);(try clear hk);(try clear hi)))
              go_roundg k2
              case measure=>have:=HK1.out;have:=HK2.out;omega
              case rel=>exact ⟨(x10_2),(wrap64 (x44_2 + 1)),(zsx0_12),H',⟨by have:=HK1.out;have:=HK2.out;omega⟩,⟨zsx0_21⟩,⟨zsx0_22⟩,⟨zsx0_17⟩,⟨zsx0_19⟩,⟨zsx0_27⟩⟩
            ·rw [if_neg c25] at H
             exact absurd H (by simp)
           ·rw [if_neg c24] at H
            exact absurd H (by simp)
          ·rw [if_neg c23] at H
           have c23b0:decide (x44_2 < ((rd_L4 l1_1 (rd l1_0 (ji10))).length:Int))=false:=decide_eq_false c23
           clear c23
           by_cases c45:x5_1.length < 5864062014805
           ·rw [if_pos c45] at H
            have LMc45:=aM0 c45
            clear c45
            obtain ⟨y193,hy193⟩:∃ y_:List (List Int),y_=(x5_1 ++ [x10_2]):=⟨_,rfl⟩
            replace H:(spec_slArcs.l0 k2 y193 (wrap64 (x6_1 + 1)) a0_0 a0_1 a0_2 l1_0 l1_1)=some r:=by first|(rw [hy193];with_reducible exact H)|(have H2_:=(Option.bind_some _ _).symm.trans H;rw [hy193];with_reducible exact H2_)|(have H2_:=(Option.bind_some _ _).symm.trans H;with_reducible exact H2_)|with_reducible exact H|(rw [hy193];exact H)|exact H
            have Ny193:=aM0 hy193
            clear hy193
            have H':=aM0 H
            clear H
            obtain ⟨Ao47,co47,eo47⟩:=Kd.R_slice HO_10.out
            subst eo47
            go_wp2_with (first|((with_reducible refine gate_builtin (b:=.append) (xs:=#[.tmp 68,.tmp 70]) rfl ?_);at_builtin;refine Kd.S_append (Kd.slice 3 (Kd.int .i64)) (w0:=w) w.heap.size rfl (.tmp 68) (.tmp 70) 22 33 (.slice none 0 0) 24 rfl Try.underlying22 info33 rfl (by decide) (by omega) u5 x5_1 x10_2 [.slice Ao47 x10_2.length co47] (fun _=>True) (fun k_=>some k_=(.slice Ao47 x10_2.length co47:Value).ownBlock) rfl rfl ?aP (fun k_ hk_=>((Kd.R_mono (ok':=fun k_=>((fun _=>True)) k_∧some k_≠(u5:Value).ownBlock) (Kd.R_apart' (HO_10.out) (Kd.S_typed HO_5.out) (by decide)) (fun k_ hk=>⟨trivial,hk.2⟩))).1 k_ hk_.symm) ?aF ?aO ?aB ?aS ?aL ?_;(case aP=>exact Kd.M_row (Kd.R_mono (Kd.R_tight rfl (Kd.R_mono (ok':=fun k_=>((fun _=>True)) k_∧some k_≠(u5:Value).ownBlock) (Kd.R_apart' (HO_10.out) (Kd.S_typed HO_5.out) (by decide)) (fun k_ hk=>⟨trivial,hk.2⟩))) (fun _ h_=>h_)));(case aB=>exact (zsx0_20));(case aF=>exact (fun _ _=>trivial));(case aO=>exact (by (with_reducible repeat (first|apply Kd.S_alloc|apply Kd.S_drewN|apply Kd.S_drew));exact Kd.S_mono HO_5.out (fun k_ hk=>⟨trivial,fun e_=>hk e_⟩)));(case aS=>exact (bZ0 (zsx0_20)));(case aL=>have:=LMc45.out;omega);intro v194 w46 ho hb hg hat;rw [← Ny193.out] at ho;have n0_:=aM0 (blk_grown (g:=gb185) (o:=.cells #[.int .i64 a0_0,.int .i64 a0_1,.int .i64 a0_2] 84 (0,0)) (zsx0_17) hg (Kd.S_ne HO_5.out BK185.out (by decide)));have n1_:=aM0 (blk_grown (g:=gb186) (o:=.cells #[.slice (some ad191) l1_0.length c1_0,.slice (some ad192) l1_1.length c1_1] 89 (0,0)) (zsx0_19) hg (Kd.S_ne HO_5.out BK186.out (by decide)));have n2_:=aM0 (hb);have n3_:=aM0 (ho);clear BK185 BK186 HB HO_5 HO_10;have BK185:=n0_;have BK186:=n1_;have HB:=n2_;have HO195:=n3_;clear n0_ n1_ n2_ n3_ ho hb hg hat))
            go_roundg k2
            case measure=>have:=HK1.out;have:=HK2.out;omega
            case rel=>exact ⟨(y193),(wrap64 (x6_1 + 1)),(zsx0_12),H',⟨by have:=HK1.out;have:=HK2.out;omega⟩,⟨by (with_reducible repeat (first|apply Kd.S_alloc|apply Kd.S_drewN|apply Kd.S_drew));exact HO195.out⟩,⟨zsx0_17⟩,⟨zsx0_19⟩,⟨zsx0_20⟩⟩
           ·rw [if_neg c45] at H
            exact absurd H (by simp)
       ·rw [if_neg c14] at H
        exact absurd H (by simp)
      ·rw [if_neg c13] at H
       exact absurd H (by simp)
     ·rw [if_neg c12] at H
      exact absurd H (by simp)
    ·rw [if_neg c11] at H
     exact absurd H (by simp)
   ·rw [if_neg c6] at H
    have c6b0:decide (x6_1 < t187)=false:=decide_eq_false c6
    clear c6
    obtain rfl:=Option.some.inj H
    have hnb48:=NB185_186.out
    have hnc48:=NB186_185.out
    have hcz49_0:wr.cell? ⟨gb185,0,none⟩=some (.int .i64 a0_0):=(bC0 BK185.out 0).trans rfl
    have hcz49_1:wr.cell? ⟨gb185,1,none⟩=some (.int .i64 a0_1):=(bC0 BK185.out 1).trans rfl
    have hcz49_2:wr.cell? ⟨gb185,2,none⟩=some (.int .i64 a0_2):=(bC0 BK185.out 2).trans rfl
    have hfz49_0:=blk_frozen BK185.out 0
    have hfz49_1:=blk_frozen BK185.out 1
    have hfz49_2:=blk_frozen BK185.out 2
    go_wp2_with (first|((with_reducible refine gate_callee (f:=92) rfl ?_);refine goesL_ (some 16) rfl rfl Try.func92 (zsx0_6) rfl #[.agg #[.int .i64 a0_0,.int .i64 a0_1,.int .i64 a0_2]] rfl (zsx0_7) ?_;(with_reducible refine (spec_grCount.calls a0_0 a0_1 a0_2 t187 _ A5.out).mono ?_);rintro e w50 ⟨rfl,hb⟩;refine ⟨_,rfl,?_⟩;have n0_:=aM0 (Kd.S_below (zsx0_21) hb);have n1_:=aM0 (blk_below (g:=gb185) (o:=.cells #[.int .i64 a0_0,.int .i64 a0_1,.int .i64 a0_2] 84 (0,0)) (zsx0_17) hb);have n2_:=aM0 (blk_below (g:=gb186) (o:=.cells #[.slice A1_0 l1_0.length c1_0,.slice A1_1 l1_1.length c1_1] 89 (0,0)) (zsx0_19) hb);have n3_:=aM0 (below_step (zsx0_20) hb);clear HO_5 BK185 BK186 HB;have HO_5:=n0_;have BK185:=n1_;have BK186:=n2_;have HB:=n3_;clear n0_ n1_ n2_ n3_;(try clear hb);(try clear hb2);(try clear hk);(try clear hi)))
    go_ret
    exact ⟨_,zsx0_1,zsx0_21,zsx0_20⟩
end Go.Proofs.Ytbhlffakpneecaa.PFnCones
end
