/- Texts that print.sh has printed for the law FnOre,one function each,put together in one file: contracts of its functions. -/
import Derived.Test.YtomfjhpiemipkaaProg
import Derived.Below
import Derived.Deep.Draws
import Derived.Deep.AppendLies
import Derived.Maps.AppendAt
import Derived.OwnWalk
import Derived.Laws.BytesArg
import Derived.Laws.MakeOwn
import Derived.Laws.OwnMore
import Derived.Deep.OwnRows
import Derived.Tactics
import Derived.Lib.ConvBytes
import Derived.Laws.Slices
import Derived.WalkKit
import Derived.KernelRfl
import Derived.RowKit3
import Derived.Deep.LoopGhost
import Derived.Deep.QuietTactic
import Derived.BigQuiet
import Derived.WideLaws
import Derived.Deep.DeepCutAuto
import Derived.Deep.CutBlock
import Derived.Deep.RegionHeld3
import Derived.Laws.Rows
import Derived.Lib.AppendStr
import Derived.ArgAppend
import Derived.Laws.IdiomCopy
import Derived.OrdersHeld
import Derived.Laws.BitsLemmas
import Derived.RowKit
import Derived.Test.YtomfjhpiemipkaaTWWords
import Derived.Test.YtomfjhpiemipkaaTWLast
import Derived.Test.YtomfjhpiemipkaaTWTab
import Derived.Test.YtomfjhpiemipkaaTWFour
import Derived.Test.YtomfjhpiemipkaaTWQPut
import Derived.Test.YtomfjhpiemipkaaTWApart
import Derived.Test.YtomfjhpiemipkaaTWArr
import Derived.Test.YtomfjhpiemipkaaTWZeros
import Derived.Test.YtomfjhpiemipkaaTWFoot
import Derived.Test.YtomfjhpiemipkaaTWKept
import Derived.Test.YtomfjhpiemipkaaTWShare
import Derived.Test.YtomfjhpiemipkaaTWN
import Derived.Test.YtomfjhpiemipkaaTWFootNe
import Derived.Test.YtomfjhpiemipkaaTWAt
import Derived.Test.YtomfjhpiemipkaaTWEqStruct
import Derived.Test.YtomfjhpiemipkaaTWRepsOne
import Derived.Test.YtomfjhpiemipkaaTWInv
import Derived.Test.YtomfjhpiemipkaaTWInvWords
import Derived.Test.YtomfjhpiemipkaaTWGuard
import Derived.Test.YtomfjhpiemipkaaTWNEv
import Derived.Test.YtomfjhpiemipkaaTWMore
section
namespace Go.Proofs.Ytomfjhpiemipkaa.PFnOre
open Go.RowKit Go.Proofs.YtomfjhpiemipkaaW.PrintWords Go.Proofs.YtomfjhpiemipkaaW.PrintLast Go.Proofs.YtomfjhpiemipkaaW.PrintMore
attribute [local go_sem] max2_int min2_int max_two min_two max_three min_three max_four min_four   -- for this text's walks alone
set_option linter.unusedVariables false
set_option linter.unusedSimpArgs false
def errW:Option Int→Value
 | none=>.nilIface
 | some c=>.iface 0 (.int .i64 c)
theorem errW_none:errW none=.nilIface:=rfl
theorem errW_some (c:Int):errW (some c)=.iface 0 (.int .i64 c):=rfl
theorem info3:(Try.prog.info? 3).map (fun i=>(i.zero,i.size,i.bytes))=some (some (.int .i64 0),1,8):=by kernel_rfl
-- the values' own types
structure S32 where
 f0:Int
 f1:Int
 f2:Int
def z32:S32:=⟨(0:Int),(0:Int),(0:Int)⟩
def k32:Kd S32:=Kd.iso (Kd.pair (Kd.int .i64) (Kd.pair (Kd.int .i64) (Kd.int .i64))) (fun x:S32=>(x.f0,x.f1,x.f2))
theorem k32_open {w:World} {x:S32} {cs:List Value} (h:k32.K w x cs):cs=[.int .i64 x.f0,.int .i64 x.f1,.int .i64 x.f2]:=by
 obtain ⟨_,_,rfl,rfl,⟨_,_,rfl,rfl,rfl⟩⟩:=h
 exact rfl
theorem k32_mkM (w:World) (base:Nat) (ok:Nat→Prop) (x:S32)  : k32.M w base ok x [.int .i64 x.f0,.int .i64 x.f1,.int .i64 x.f2]:=⟨[.int .i64 x.f0],[.int .i64 x.f1,.int .i64 x.f2],rfl,rfl,⟨[.int .i64 x.f1],[.int .i64 x.f2],rfl,rfl,rfl⟩⟩
def rd_T32 (xs:List S32) (i:Int):S32:=xs.getD i.toNat z32
theorem at_T32 {w:World} {A:Option Addr} {n:Nat} {xs:List S32} (h:Kd.C k32 w A n xs) (i:Int) (h0:0≤i) (h1:i < n):∃ ad ,A=some ad∧w.cell? (ad.add (i.toNat * 3))=some (.int .i64 (rd_T32 xs i).f0)∧w.cell? ⟨(ad.add (i.toNat * 3)).block,(ad.add (i.toNat * 3)).off + 1,none⟩=some (.int .i64 (rd_T32 xs i).f1)∧w.cell? ⟨(ad.add (i.toNat * 3)).block,(ad.add (i.toNat * 3)).off + 2,none⟩=some (.int .i64 (rd_T32 xs i).f2):=by
 obtain ⟨ad,c,e,_,hK,hc0⟩:=Kd.C_get h z32 i h0 h1
 have hc:∀ j u,c[j]?=some u→w.cell? (ad.add (i.toNat * 3 + j))=some u:=hc0
 obtain rfl:=k32_open hK
 exact ⟨ad,e,hc 0 _ rfl,by rw [← add_field _ _ 1 (by omega)];exact hc 1 _ rfl,by rw [← add_field _ _ 2 (by omega)];exact hc 2 _ rfl⟩
end Go.Proofs.Ytomfjhpiemipkaa.PFnOre
end
section
namespace Go.Proofs.Ytomfjhpiemipkaa.PFnOre
open Go.RowKit Go.Proofs.YtomfjhpiemipkaaW.PrintWords Go.Proofs.YtomfjhpiemipkaaW.PrintLast Go.Proofs.YtomfjhpiemipkaaW.PrintMore
attribute [local go_sem] max2_int min2_int max_two min_two max_three min_three max_four min_four   -- for this text's walks alone
set_option linter.unusedVariables false
set_option linter.unusedSimpArgs false
def laws_qInts.l0:Nat→List Int→List Int→Int→Int→Option (Bool)
 | 0,_,_,_,_=>none
 | k + 1,x0,x1,x12,x13=>if x13 < x12 then (if 0≤x13 then (if x13 < (x0.length:Int) then (if x13 < (x1.length:Int) then (if (rd x0 x13)=(rd x1 x13) then (laws_qInts.l0 k x0 x1 x12 (wrap64 (x13 + 1))) else (some false)) else (none)) else (none)) else (none)) else (some true)
def laws_qInts.f (k:Nat) (l0:List Int) (l1:List Int):Option (Bool):=if (l0.length:Int)=(l1.length:Int) then (laws_qInts.l0 k l0 l1 (l0.length:Int) 0) else (some false)
set_option maxHeartbeats 8000000 in
set_option maxRecDepth 100000 in
theorem laws_qInts.calls (k:Nat) (A0:Option Addr) (c0:Nat) (l0:List Int) (A1:Option Addr) (c1:Nat) (l1:List Int) (r:Bool) (w:World) (hr0:Kd.C (Kd.int .i64) w A0 l0.length l0) (hc0:l0.length≤c0) (hr1:Kd.C (Kd.int .i64) w A1 l1.length l1) (hc1:l1.length≤c1) (h:laws_qInts.f k l0 l1=some r) :
  Calls Try.prog 55 #[.slice A0 l0.length c0,.slice A1 l1.length c1] w fun e w'=>e=.returned (.bool r)∧Drawn0 w w':=by
 have HR0:=Aside0.mk hr0
 have HC0:=Aside0.mk hc0
 clear hr0 hc0
 have HR1:=Aside0.mk hr1
 have HC1:=Aside0.mk hc1
 clear hr1 hc1
 have H:(if (l0.length:Int)=(l1.length:Int) then (laws_qInts.l0 k l0 l1 (l0.length:Int) 0) else (some false))=some r:=h
 clear h
 by_cases c3:(l0.length:Int)=(l1.length:Int)
 ·rw [if_pos c3] at H
  have c3b0:((l0.length:Int) == (l1.length:Int))=true:=beq_iff_eq.mpr c3
  have c3b1:((l0.length:Int) != (l1.length:Int))=false:=bne_eq_false_iff_eq.mpr c3
  have c3b2:(l0.length == l1.length)=true:=by first|simpa using c3|(simp at c3 ⊢;omega)
  clear c3
  have H':=Aside0.mk H
  clear H
  go_enter Try.func55,Try.ntmps55
  go_wp2
  repeat (go_quiet (fail);try go_wp2)
  go_loopg [13] k (fun kq v13 w'=>∃ (x13_1:Int),v13=.int .i64 x13_1∧Aside0 (laws_qInts.l0 kq l0 l1 (l0.length:Int) x13_1=some r)∧Aside0 (kq≤k)∧Drawn0 w w')
  case atStart=>exact ⟨(0),(by first|rfl|(simp;done)|(simp [*];done)),H',⟨Nat.le_refl _⟩,by repeat (first|exact Drawn0.refl _|apply Drawn0.step)⟩
  case round =>
   clear H'
   try clear c1
   try clear p2
   try clear c3
   try clear c3b0
   try clear c3b1
   try clear c3b2
   obtain ⟨x13_1,rfl,HA,HK1,⟨m1,rfl⟩⟩:=hrel
   cases gk with
   | zero=>exact absurd HA.out (by simp [laws_qInts.l0])
   | succ k1 =>
    have H:=HA.out
    clear HA
    simp only [laws_qInts.l0] at H
    by_cases c4:x13_1 < (l0.length:Int)
    ·rw [if_pos c4] at H
     have c4b0:decide (x13_1 < (l0.length:Int))=true:=decide_eq_true c4
     clear c4
     by_cases c5:0≤x13_1
     ·rw [if_pos c5] at H
      have c5b0:decide (0≤x13_1)=true:=decide_eq_true c5
      clear c5
      by_cases c6:x13_1 < (l0.length:Int)
      ·rw [if_pos c6] at H
       have c6b0:decide (x13_1 < (l0.length:Int))=true:=decide_eq_true c6
       clear c6
       by_cases c7:x13_1 < (l1.length:Int)
       ·rw [if_pos c7] at H
        have c7b0:decide (x13_1 < (l1.length:Int))=true:=decide_eq_true c7
        clear c7
        by_cases c8:(rd l0 x13_1)=(rd l1 x13_1)
        ·rw [if_pos c8] at H
         have c8b0:((rd l0 x13_1) == (rd l1 x13_1))=true:=beq_iff_eq.mpr c8
         have c8b1:((rd l0 x13_1) != (rd l1 x13_1))=false:=bne_eq_false_iff_eq.mpr c8
         clear c8
         have H':=Aside0.mk H
         clear H
         have p455:0≤(x13_1:Int):=of_decide_eq_true (by first|(with_reducible assumption)|assumption)
         have q455:x13_1 < (l0.length:Int):=of_decide_eq_true (by first|(with_reducible assumption)|assumption)
         obtain ⟨ad455,e455,hx455_0⟩:=Kd.at_int HR0.out x13_1 p455 q455
         cases e455
         replace p455:=eq_true p455
         replace q455:=eq_true q455
         have p456:0≤(x13_1:Int):=of_decide_eq_true (by first|(with_reducible assumption)|assumption)
         have q456:x13_1 < (l1.length:Int):=of_decide_eq_true (by first|(with_reducible assumption)|assumption)
         obtain ⟨ad456,e456,hx456_0⟩:=Kd.at_int HR1.out x13_1 p456 q456
         cases e456
         replace p456:=eq_true p456
         replace q456:=eq_true q456
         go_wp2
         repeat (go_quiet (fail);try go_wp2)
         go_roundg k1
         case measure=>have:=HK1.out;omega
         case rel=>exact ⟨(wrap64 (x13_1 + 1)),(by first|rfl|(simp;done)|(simp [*];done)),H',⟨by have:=HK1.out;omega⟩,by repeat (first|exact Drawn0.refl _|apply Drawn0.step)⟩
        ·rw [if_neg c8] at H
         have c8b0:((rd l0 x13_1) == (rd l1 x13_1))=false:=beq_eq_false_iff_ne.mpr c8
         have c8b1:((rd l0 x13_1) != (rd l1 x13_1))=true:=bne_iff_ne.mpr c8
         obtain rfl:=Option.some.inj H
         have p455:0≤(x13_1:Int):=of_decide_eq_true (by first|(with_reducible assumption)|assumption)
         have q455:x13_1 < (l0.length:Int):=of_decide_eq_true (by first|(with_reducible assumption)|assumption)
         obtain ⟨ad455,e455,hx455_0⟩:=Kd.at_int HR0.out x13_1 p455 q455
         cases e455
         replace p455:=eq_true p455
         replace q455:=eq_true q455
         have p456:0≤(x13_1:Int):=of_decide_eq_true (by first|(with_reducible assumption)|assumption)
         have q456:x13_1 < (l1.length:Int):=of_decide_eq_true (by first|(with_reducible assumption)|assumption)
         obtain ⟨ad456,e456,hx456_0⟩:=Kd.at_int HR1.out x13_1 p456 q456
         cases e456
         replace p456:=eq_true p456
         replace q456:=eq_true q456
         go_wp2
         repeat (go_quiet (fail);try go_wp2)
         go_ret
         exact ⟨by first|rfl|(simp;done)|(simp [*];done),by repeat (first|exact Drawn0.refl _|apply Drawn0.step)⟩
       ·rw [if_neg c7] at H
        exact absurd H (by simp)
      ·rw [if_neg c6] at H
       exact absurd H (by simp)
     ·rw [if_neg c5] at H
      exact absurd H (by simp)
    ·rw [if_neg c4] at H
     have c4b0:decide (x13_1 < (l0.length:Int))=false:=decide_eq_false c4
     clear c4
     obtain rfl:=Option.some.inj H
     go_wp2
     repeat (go_quiet (fail);try go_wp2)
     go_ret
     exact ⟨by first|rfl|(simp;done)|(simp [*];done),by repeat (first|exact Drawn0.refl _|apply Drawn0.step)⟩
 ·rw [if_neg c3] at H
  have c3b0:((l0.length:Int) == (l1.length:Int))=false:=beq_eq_false_iff_ne.mpr c3
  have c3b1:((l0.length:Int) != (l1.length:Int))=true:=bne_iff_ne.mpr c3
  have c3b2:(l0.length == l1.length)=false:=by first|simpa using c3|(simp at c3 ⊢;omega)
  obtain rfl:=Option.some.inj H
  go_enter Try.func55,Try.ntmps55
  go_wp2
  repeat (go_quiet (fail);try go_wp2)
  go_ret
  exact ⟨by first|rfl|(simp;done)|(simp [*];done),by repeat (first|exact Drawn0.refl _|apply Drawn0.step)⟩
end Go.Proofs.Ytomfjhpiemipkaa.PFnOre
end
section
namespace Go.Proofs.Ytomfjhpiemipkaa.PFnOre
open Go.RowKit Go.Proofs.YtomfjhpiemipkaaW.PrintWords Go.Proofs.YtomfjhpiemipkaaW.PrintLast Go.Proofs.YtomfjhpiemipkaaW.PrintMore
attribute [local go_sem] max2_int min2_int max_two min_two max_three min_three max_four min_four   -- for this text's walks alone
set_option linter.unusedVariables false
set_option linter.unusedSimpArgs false
def laws_qHas.l0:Nat→Int→List Int→Int→Int→Option (Bool)
 | 0,_,_,_,_=>none
 | k + 1,x1,x7,x8,x9=>if x9 < x8 then (if 0≤x9 then (if x9 < (x7.length:Int) then (if (rd x7 x9)=x1 then (some true) else (laws_qHas.l0 k x1 x7 x8 (wrap64 (x9 + 1)))) else (none)) else (none)) else (some false)
def laws_qHas.f (k:Nat) (l0:List Int) (a1:Int):Option (Bool):=laws_qHas.l0 k a1 l0 (l0.length:Int) 0
set_option maxHeartbeats 8000000 in
set_option maxRecDepth 100000 in
theorem laws_qHas.calls (k:Nat) (A0:Option Addr) (c0:Nat) (l0:List Int) (a1:Int) (r:Bool) (w:World) (hr0:Kd.C (Kd.int .i64) w A0 l0.length l0) (hc0:l0.length≤c0) (h:laws_qHas.f k l0 a1=some r) :
  Calls Try.prog 58 #[.slice A0 l0.length c0,.int .i64 a1] w fun e w'=>e=.returned (.bool r)∧Drawn0 w w':=by
 have HR0:=Aside0.mk hr0
 have HC0:=Aside0.mk hc0
 clear hr0 hc0
 have H:(laws_qHas.l0 k a1 l0 (l0.length:Int) 0)=some r:=h
 clear h
 have H':=Aside0.mk H
 clear H
 go_enter Try.func58,Try.ntmps58
 go_wp2
 go_loopg [9] k (fun kq v9 w'=>∃ (x9_1:Int),v9=.int .i64 x9_1∧Aside0 (laws_qHas.l0 kq a1 l0 (l0.length:Int) x9_1=some r)∧Aside0 (kq≤k)∧Drawn0 w w')
 case atStart=>exact ⟨(0),(by first|rfl|(simp;done)|(simp [*];done)),H',⟨Nat.le_refl _⟩,by repeat (first|exact Drawn0.refl _|apply Drawn0.step)⟩
 case round =>
  clear H'
  try clear p2
  obtain ⟨x9_1,rfl,HA,HK1,⟨m1,rfl⟩⟩:=hrel
  cases gk with
  | zero=>exact absurd HA.out (by simp [laws_qHas.l0])
  | succ k1 =>
   have H:=HA.out
   clear HA
   simp only [laws_qHas.l0] at H
   by_cases c3:x9_1 < (l0.length:Int)
   ·rw [if_pos c3] at H
    have c3b0:decide (x9_1 < (l0.length:Int))=true:=decide_eq_true c3
    clear c3
    by_cases c4:0≤x9_1
    ·rw [if_pos c4] at H
     have c4b0:decide (0≤x9_1)=true:=decide_eq_true c4
     clear c4
     by_cases c5:x9_1 < (l0.length:Int)
     ·rw [if_pos c5] at H
      have c5b0:decide (x9_1 < (l0.length:Int))=true:=decide_eq_true c5
      clear c5
      by_cases c6:(rd l0 x9_1)=a1
      ·rw [if_pos c6] at H
       have c6b0:((rd l0 x9_1) == a1)=true:=beq_iff_eq.mpr c6
       have c6b1:((rd l0 x9_1) != a1)=false:=bne_eq_false_iff_eq.mpr c6
       clear c6
       obtain rfl:=Option.some.inj H
       have p459:0≤(x9_1:Int):=of_decide_eq_true (by first|(with_reducible assumption)|assumption)
       have q459:x9_1 < (l0.length:Int):=of_decide_eq_true (by first|(with_reducible assumption)|assumption)
       obtain ⟨ad459,e459,hx459_0⟩:=Kd.at_int HR0.out x9_1 p459 q459
       cases e459
       replace p459:=eq_true p459
       replace q459:=eq_true q459
       go_wp2
       go_ret
       exact ⟨by first|rfl|(simp;done)|(simp [*];done),by repeat (first|exact Drawn0.refl _|apply Drawn0.step)⟩
      ·rw [if_neg c6] at H
       have c6b0:((rd l0 x9_1) == a1)=false:=beq_eq_false_iff_ne.mpr c6
       have c6b1:((rd l0 x9_1) != a1)=true:=bne_iff_ne.mpr c6
       have H':=Aside0.mk H
       clear H
       have p459:0≤(x9_1:Int):=of_decide_eq_true (by first|(with_reducible assumption)|assumption)
       have q459:x9_1 < (l0.length:Int):=of_decide_eq_true (by first|(with_reducible assumption)|assumption)
       obtain ⟨ad459,e459,hx459_0⟩:=Kd.at_int HR0.out x9_1 p459 q459
       cases e459
       replace p459:=eq_true p459
       replace q459:=eq_true q459
       go_wp2
       go_roundg k1
       case measure=>have:=HK1.out;omega
       case rel=>exact ⟨(wrap64 (x9_1 + 1)),(by first|rfl|(simp;done)|(simp [*];done)),H',⟨by have:=HK1.out;omega⟩,by repeat (first|exact Drawn0.refl _|apply Drawn0.step)⟩
     ·rw [if_neg c5] at H
      exact absurd H (by simp)
    ·rw [if_neg c4] at H
     exact absurd H (by simp)
   ·rw [if_neg c3] at H
    have c3b0:decide (x9_1 < (l0.length:Int))=false:=decide_eq_false c3
    clear c3
    obtain rfl:=Option.some.inj H
    go_wp2
    go_ret
    exact ⟨by first|rfl|(simp;done)|(simp [*];done),by repeat (first|exact Drawn0.refl _|apply Drawn0.step)⟩
end Go.Proofs.Ytomfjhpiemipkaa.PFnOre
end
section
namespace Go.Proofs.Ytomfjhpiemipkaa.PFnOre
open Go.RowKit Go.Proofs.YtomfjhpiemipkaaW.PrintWords Go.Proofs.YtomfjhpiemipkaaW.PrintLast Go.Proofs.YtomfjhpiemipkaaW.PrintMore
attribute [local go_sem] max2_int min2_int max_two min_two max_three min_three max_four min_four   -- for this text's walks alone
set_option linter.unusedVariables false
set_option linter.unusedSimpArgs false
mutual
def impl_goodValues.j0:Nat→List Int→Bool→Option (Bool)
 | 0,_,_=>none
 | k + 1,x0,x12=>if x12=true then (some false) else (impl_goodValues.l0 k x0 (x0.length:Int) 0)
def impl_goodValues.l0:Nat→List Int→Int→Int→Option (Bool)
 | 0,_,_,_=>none
 | k + 1,x13,x14,x15=>if x15 < x14 then (if 0≤x15 then (if x15 < (x13.length:Int) then (if (rd x13 x15) < (-1000000) then (some false) else (if (rd x13 x15) > 1000000 then (some false) else (impl_goodValues.l0 k x13 x14 (wrap64 (x15 + 1))))) else (none)) else (none)) else (some true)
end
def impl_goodValues.f (k:Nat) (l0:List Int):Option (Bool):=if (l0.length:Int) < 1 then (impl_goodValues.j0 k l0 true) else (impl_goodValues.j0 k l0 (decide ((l0.length:Int) > 120)))
set_option maxHeartbeats 8000000 in
set_option maxRecDepth 100000 in
theorem impl_goodValues.calls (k:Nat) (A0:Option Addr) (c0:Nat) (l0:List Int) (r:Bool) (w:World) (hr0:Kd.C (Kd.int .i64) w A0 l0.length l0) (hc0:l0.length≤c0) (h:impl_goodValues.f k l0=some r) :
  Calls Try.prog 102 #[.slice A0 l0.length c0] w fun e w'=>e=.returned (.bool r)∧Drawn0 w w':=by
 have HR0:=Aside0.mk hr0
 have HC0:=Aside0.mk hc0
 clear hr0 hc0
 have H:(if (l0.length:Int) < 1 then (impl_goodValues.j0 k l0 true) else (impl_goodValues.j0 k l0 (decide ((l0.length:Int) > 120))))=some r:=h
 clear h
 have HC2:=Aside0.mk H
 clear H
 go_enter Try.func102,Try.ntmps102
 go_upto_region 1 with (fail)
 go_cut [12] (fun v12 wc=>∃ (kq:Nat) (x12_1:Bool),v12=.bool x12_1∧Aside0 (impl_goodValues.j0 kq l0 x12_1=some r)∧Aside0 (kq≤k)∧Drawn0 w wc)
 case first =>
  have H:=HC2.out
  clear HC2
  by_cases c3:(l0.length:Int) < 1
  ·rw [if_pos c3] at H
   have c3b0:decide ((l0.length:Int) < 1)=true:=decide_eq_true c3
   have c3b1:decide (l0.length < 1)=true:=decide_eq_true (by omega)
   clear c3
   (first|rw [c3b0]|(simp only [i64_w,i32_w];rw [c3b0])|skip)
   have H':=Aside0.mk H
   clear H
   go_wp2
   go_meet
   case rel=>exact ⟨_,(true),(by first|rfl|(simp;done)|(simp [*];done)),H',⟨by first|omega|exact Nat.le_refl _⟩,by repeat (first|exact Drawn0.refl _|apply Drawn0.step)⟩
  ·rw [if_neg c3] at H
   have c3b0:decide ((l0.length:Int) < 1)=false:=decide_eq_false c3
   have c3b1:decide (l0.length < 1)=false:=decide_eq_false (by omega)
   clear c3
   (first|rw [c3b0]|(simp only [i64_w,i32_w];rw [c3b0])|skip)
   have H':=Aside0.mk H
   clear H
   go_wp2
   go_meet
   case rel=>exact ⟨_,(decide ((l0.length:Int) > 120)),(by first|rfl|(simp;done)|(simp [*];done)),H',⟨by first|omega|exact Nat.le_refl _⟩,by repeat (first|exact Drawn0.refl _|apply Drawn0.step)⟩
 case rest =>
  clear HC2
  try clear c1
  try clear p2
  try clear c3
  try clear c3b0
  try clear c3b1
  obtain ⟨kq,x12_1,rfl,HA,HJ1,⟨mc1,rfl⟩⟩:=hcut
  cases kq with
  | zero=>exact absurd HA.out (by simp [impl_goodValues.j0])
  | succ kj1 =>
   have H:=HA.out
   clear HA
   simp only [impl_goodValues.j0] at H
   by_cases c4:x12_1=true
   ·subst c4
    have H1:(some false)=some r:=by rw [if_pos rfl] at H;exact H
    clear H
    have H:=H1
    clear H1
    obtain rfl:=Option.some.inj H
    go_wp2
    go_ret
    exact ⟨by first|rfl|(simp;done)|(simp [*];done),by repeat (first|exact Drawn0.refl _|apply Drawn0.step)⟩
   ·replace c4:=Bool.eq_false_iff.mpr c4
    subst c4
    have H1:(impl_goodValues.l0 kj1 l0 (l0.length:Int) 0)=some r:=by rw [if_neg (show ¬ (false=true) by decide)] at H;exact H
    clear H
    have H:=H1
    clear H1
    have H':=Aside0.mk H
    clear H
    go_wp2
    go_loopg [15] kj1 (fun kq v15 w'=>∃ (x15_2:Int),v15=.int .i64 x15_2∧Aside0 (impl_goodValues.l0 kq l0 (l0.length:Int) x15_2=some r)∧Aside0 (kq≤kj1)∧Drawn0 w w')
    case atStart=>exact ⟨(0),(by first|rfl|(simp;done)|(simp [*];done)),H',⟨Nat.le_refl _⟩,by repeat (first|exact Drawn0.refl _|apply Drawn0.step)⟩
    case round =>
     clear H'
     try clear c1
     try clear p2
     try clear c3
     try clear c3b0
     try clear c3b1
     try clear c4
     try clear p2
     obtain ⟨x15_2,rfl,HA,HK2,⟨m2,rfl⟩⟩:=hrel
     cases gk with
     | zero=>exact absurd HA.out (by simp [impl_goodValues.l0])
     | succ k2 =>
      have H:=HA.out
      clear HA
      simp only [impl_goodValues.l0] at H
      by_cases c5:x15_2 < (l0.length:Int)
      ·rw [if_pos c5] at H
       have c5b0:decide (x15_2 < (l0.length:Int))=true:=decide_eq_true c5
       clear c5
       by_cases c6:0≤x15_2
       ·rw [if_pos c6] at H
        have c6b0:decide (0≤x15_2)=true:=decide_eq_true c6
        clear c6
        by_cases c7:x15_2 < (l0.length:Int)
        ·rw [if_pos c7] at H
         have c7b0:decide (x15_2 < (l0.length:Int))=true:=decide_eq_true c7
         clear c7
         by_cases c8:(rd l0 x15_2) < (-1000000)
         ·rw [if_pos c8] at H
          have c8b0:decide ((rd l0 x15_2) < (-1000000))=true:=decide_eq_true c8
          clear c8
          obtain rfl:=Option.some.inj H
          have p143:0≤(x15_2:Int):=of_decide_eq_true (by first|(with_reducible assumption)|assumption)
          have q143:x15_2 < (l0.length:Int):=of_decide_eq_true (by first|(with_reducible assumption)|assumption)
          obtain ⟨ad143,e143,hx143_0⟩:=Kd.at_int HR0.out x15_2 p143 q143
          cases e143
          replace p143:=eq_true p143
          replace q143:=eq_true q143
          go_wp2
          go_ret
          exact ⟨by first|rfl|(simp;done)|(simp [*];done),by repeat (first|exact Drawn0.refl _|apply Drawn0.step)⟩
         ·rw [if_neg c8] at H
          have c8b0:decide ((rd l0 x15_2) < (-1000000))=false:=decide_eq_false c8
          clear c8
          by_cases c9:(rd l0 x15_2) > 1000000
          ·rw [if_pos c9] at H
           have c9b0:decide (1000000 < (rd l0 x15_2))=true:=decide_eq_true c9
           clear c9
           obtain rfl:=Option.some.inj H
           have p143:0≤(x15_2:Int):=of_decide_eq_true (by first|(with_reducible assumption)|assumption)
           have q143:x15_2 < (l0.length:Int):=of_decide_eq_true (by first|(with_reducible assumption)|assumption)
           obtain ⟨ad143,e143,hx143_0⟩:=Kd.at_int HR0.out x15_2 p143 q143
           cases e143
           replace p143:=eq_true p143
           replace q143:=eq_true q143
           go_wp2
           go_ret
           exact ⟨by first|rfl|(simp;done)|(simp [*];done),by repeat (first|exact Drawn0.refl _|apply Drawn0.step)⟩
          ·rw [if_neg c9] at H
           have c9b0:decide (1000000 < (rd l0 x15_2))=false:=decide_eq_false c9
           clear c9
           have H':=Aside0.mk H
           clear H
           have p143:0≤(x15_2:Int):=of_decide_eq_true (by first|(with_reducible assumption)|assumption)
           have q143:x15_2 < (l0.length:Int):=of_decide_eq_true (by first|(with_reducible assumption)|assumption)
           obtain ⟨ad143,e143,hx143_0⟩:=Kd.at_int HR0.out x15_2 p143 q143
           cases e143
           replace p143:=eq_true p143
           replace q143:=eq_true q143
           go_wp2
           go_roundg k2
           case measure=>have:=HJ1.out;have:=HK2.out;omega
           case rel=>exact ⟨(wrap64 (x15_2 + 1)),(by first|rfl|(simp;done)|(simp [*];done)),H',⟨by have:=HJ1.out;have:=HK2.out;omega⟩,by repeat (first|exact Drawn0.refl _|apply Drawn0.step)⟩
        ·rw [if_neg c7] at H
         exact absurd H (by simp)
       ·rw [if_neg c6] at H
        exact absurd H (by simp)
      ·rw [if_neg c5] at H
       have c5b0:decide (x15_2 < (l0.length:Int))=false:=decide_eq_false c5
       clear c5
       obtain rfl:=Option.some.inj H
       go_wp2
       go_ret
       exact ⟨by first|rfl|(simp;done)|(simp [*];done),by repeat (first|exact Drawn0.refl _|apply Drawn0.step)⟩
end Go.Proofs.Ytomfjhpiemipkaa.PFnOre
end
section
namespace Go.Proofs.Ytomfjhpiemipkaa.PFnOre
open Go.RowKit Go.Proofs.YtomfjhpiemipkaaW.PrintWords Go.Proofs.YtomfjhpiemipkaaW.PrintLast Go.Proofs.YtomfjhpiemipkaaW.PrintMore
attribute [local go_sem] max2_int min2_int max_two min_two max_three min_three max_four min_four   -- for this text's walks alone
set_option linter.unusedVariables false
set_option linter.unusedSimpArgs false
def impl_areBlocks.l0:Nat→List Int→Int→List Int→Int→Int→Option (Bool)
 | 0,_,_,_,_,_=>none
 | k + 1,x0,x1,x7,x8,x9=>if x9 < x8 then (if 0≤x9 then (if x9 < (x7.length:Int) then (if (rd x7 x9) < 0 then (some false) else (if (rd x7 x9) ≥ x1 then (some false) else (if x9 > 0 then (if 0≤(wrap64 (x9 - 1)) then (if (wrap64 (x9 - 1)) < (x0.length:Int) then (if (rd x7 x9)≤(rd x0 (wrap64 (x9 - 1))) then (some false) else (impl_areBlocks.l0 k x0 x1 x7 x8 (wrap64 (x9 + 1)))) else (none)) else (none)) else (impl_areBlocks.l0 k x0 x1 x7 x8 (wrap64 (x9 + 1)))))) else (none)) else (none)) else (some true)
def impl_areBlocks.f (k:Nat) (l0:List Int) (a1:Int):Option (Bool):=impl_areBlocks.l0 k l0 a1 l0 (l0.length:Int) 0
set_option maxHeartbeats 8000000 in
set_option maxRecDepth 100000 in
theorem impl_areBlocks.calls (k:Nat) (A0:Option Addr) (c0:Nat) (l0:List Int) (a1:Int) (r:Bool) (w:World) (hr0:Kd.C (Kd.int .i64) w A0 l0.length l0) (hc0:l0.length≤c0) (h:impl_areBlocks.f k l0 a1=some r) :
  Calls Try.prog 103 #[.slice A0 l0.length c0,.int .i64 a1] w fun e w'=>e=.returned (.bool r)∧Drawn0 w w':=by
 have HR0:=Aside0.mk hr0
 have HC0:=Aside0.mk hc0
 clear hr0 hc0
 have H:(impl_areBlocks.l0 k l0 a1 l0 (l0.length:Int) 0)=some r:=h
 clear h
 have H':=Aside0.mk H
 clear H
 go_enter Try.func103,Try.ntmps103
 go_wp2
 go_loopg [9] k (fun kq v9 w'=>∃ (x9_1:Int),v9=.int .i64 x9_1∧Aside0 (impl_areBlocks.l0 kq l0 a1 l0 (l0.length:Int) x9_1=some r)∧Aside0 (kq≤k)∧Drawn0 w w')
 case atStart=>exact ⟨(0),(by first|rfl|(simp;done)|(simp [*];done)),H',⟨Nat.le_refl _⟩,by repeat (first|exact Drawn0.refl _|apply Drawn0.step)⟩
 case round =>
  clear H'
  try clear c1
  try clear p2
  obtain ⟨x9_1,rfl,HA,HK1,⟨m1,rfl⟩⟩:=hrel
  cases gk with
  | zero=>exact absurd HA.out (by simp [impl_areBlocks.l0])
  | succ k1 =>
   have H:=HA.out
   clear HA
   simp only [impl_areBlocks.l0] at H
   by_cases c3:x9_1 < (l0.length:Int)
   ·rw [if_pos c3] at H
    have c3b0:decide (x9_1 < (l0.length:Int))=true:=decide_eq_true c3
    clear c3
    by_cases c4:0≤x9_1
    ·rw [if_pos c4] at H
     have c4b0:decide (0≤x9_1)=true:=decide_eq_true c4
     clear c4
     by_cases c5:x9_1 < (l0.length:Int)
     ·rw [if_pos c5] at H
      have c5b0:decide (x9_1 < (l0.length:Int))=true:=decide_eq_true c5
      clear c5
      by_cases c6:(rd l0 x9_1) < 0
      ·rw [if_pos c6] at H
       have c6b0:decide ((rd l0 x9_1) < 0)=true:=decide_eq_true c6
       clear c6
       obtain rfl:=Option.some.inj H
       have p144:0≤(x9_1:Int):=of_decide_eq_true (by first|(with_reducible assumption)|assumption)
       have q144:x9_1 < (l0.length:Int):=of_decide_eq_true (by first|(with_reducible assumption)|assumption)
       obtain ⟨ad144,e144,hx144_0⟩:=Kd.at_int HR0.out x9_1 p144 q144
       cases e144
       replace p144:=eq_true p144
       replace q144:=eq_true q144
       go_wp2
       go_ret
       exact ⟨by first|rfl|(simp;done)|(simp [*];done),by repeat (first|exact Drawn0.refl _|apply Drawn0.step)⟩
      ·rw [if_neg c6] at H
       have c6b0:decide ((rd l0 x9_1) < 0)=false:=decide_eq_false c6
       clear c6
       by_cases c7:(rd l0 x9_1) ≥ a1
       ·rw [if_pos c7] at H
        have c7b0:decide (a1≤(rd l0 x9_1))=true:=decide_eq_true c7
        clear c7
        obtain rfl:=Option.some.inj H
        have p144:0≤(x9_1:Int):=of_decide_eq_true (by first|(with_reducible assumption)|assumption)
        have q144:x9_1 < (l0.length:Int):=of_decide_eq_true (by first|(with_reducible assumption)|assumption)
        obtain ⟨ad144,e144,hx144_0⟩:=Kd.at_int HR0.out x9_1 p144 q144
        cases e144
        replace p144:=eq_true p144
        replace q144:=eq_true q144
        go_wp2
        go_ret
        exact ⟨by first|rfl|(simp;done)|(simp [*];done),by repeat (first|exact Drawn0.refl _|apply Drawn0.step)⟩
       ·rw [if_neg c7] at H
        have c7b0:decide (a1≤(rd l0 x9_1))=false:=decide_eq_false c7
        clear c7
        by_cases c8:x9_1 > 0
        ·rw [if_pos c8] at H
         have c8b0:decide (0 < x9_1)=true:=decide_eq_true c8
         clear c8
         obtain ⟨ji9,hji9⟩:∃ j_:Int,(wrap64 (x9_1 - 1))=j_:=⟨_,rfl⟩
         replace H:(if 0≤(ji9) then (if (ji9) < (l0.length:Int) then (if (rd l0 x9_1)≤(rd l0 (ji9)) then (some false) else (impl_areBlocks.l0 k1 l0 a1 l0 (l0.length:Int) (wrap64 (x9_1 + 1)))) else (none)) else (none))=some r:=by first|(rw [hji9] at H;exact H)|(simp only [hji9] at H ⊢;exact H)
         have hji9w:(IntKind.i64.wrap (x9_1 - 1))=ji9:=(i64_w _).trans hji9
         by_cases c10:0≤(ji9)
         ·rw [if_pos c10] at H
          have c10b0:decide (0≤(ji9))=true:=decide_eq_true c10
          clear c10
          by_cases c11:(ji9) < (l0.length:Int)
          ·rw [if_pos c11] at H
           have c11b0:decide ((ji9) < (l0.length:Int))=true:=decide_eq_true c11
           clear c11
           by_cases c12:(rd l0 x9_1)≤(rd l0 (ji9))
           ·rw [if_pos c12] at H
            have c12b0:decide ((rd l0 x9_1)≤(rd l0 (ji9)))=true:=decide_eq_true c12
            clear c12
            obtain rfl:=Option.some.inj H
            have p144:0≤(x9_1:Int):=of_decide_eq_true (by first|(with_reducible assumption)|assumption)
            have q144:x9_1 < (l0.length:Int):=of_decide_eq_true (by first|(with_reducible assumption)|assumption)
            obtain ⟨ad144,e144,hx144_0⟩:=Kd.at_int HR0.out x9_1 p144 q144
            cases e144
            replace p144:=eq_true p144
            replace q144:=eq_true q144
            have p145:0≤((ji9):Int):=of_decide_eq_true (by first|(with_reducible assumption)|assumption)
            have q145:(ji9) < (l0.length:Int):=of_decide_eq_true (by first|(with_reducible assumption)|assumption)
            obtain ⟨ad145,e145,hx145_0⟩:=Kd.at_int HR0.out (ji9) p145 q145
            obtain rfl:ad144=ad145:=(by injection e145)
            replace p145:=eq_true p145
            replace q145:=eq_true q145
            go_wp2
            go_ret
            exact ⟨by first|rfl|(simp;done)|(simp only [← hji9] <;> (first|rfl|simp))|(simp [*];done),by repeat (first|exact Drawn0.refl _|apply Drawn0.step)⟩
           ·rw [if_neg c12] at H
            have c12b0:decide ((rd l0 x9_1)≤(rd l0 (ji9)))=false:=decide_eq_false c12
            clear c12
            have H':=Aside0.mk H
            clear H
            have p144:0≤(x9_1:Int):=of_decide_eq_true (by first|(with_reducible assumption)|assumption)
            have q144:x9_1 < (l0.length:Int):=of_decide_eq_true (by first|(with_reducible assumption)|assumption)
            obtain ⟨ad144,e144,hx144_0⟩:=Kd.at_int HR0.out x9_1 p144 q144
            cases e144
            replace p144:=eq_true p144
            replace q144:=eq_true q144
            have p145:0≤((ji9):Int):=of_decide_eq_true (by first|(with_reducible assumption)|assumption)
            have q145:(ji9) < (l0.length:Int):=of_decide_eq_true (by first|(with_reducible assumption)|assumption)
            obtain ⟨ad145,e145,hx145_0⟩:=Kd.at_int HR0.out (ji9) p145 q145
            obtain rfl:ad144=ad145:=(by injection e145)
            replace p145:=eq_true p145
            replace q145:=eq_true q145
            go_wp2
            go_roundg k1
            case measure=>have:=HK1.out;omega
            case rel=>exact ⟨(wrap64 (x9_1 + 1)),(by first|rfl|(simp;done)|(simp [*];done)),H',⟨by have:=HK1.out;omega⟩,by repeat (first|exact Drawn0.refl _|apply Drawn0.step)⟩
          ·rw [if_neg c11] at H
           exact absurd H (by simp)
         ·rw [if_neg c10] at H
          exact absurd H (by simp)
        ·rw [if_neg c8] at H
         have c8b0:decide (0 < x9_1)=false:=decide_eq_false c8
         clear c8
         have H':=Aside0.mk H
         clear H
         have p144:0≤(x9_1:Int):=of_decide_eq_true (by first|(with_reducible assumption)|assumption)
         have q144:x9_1 < (l0.length:Int):=of_decide_eq_true (by first|(with_reducible assumption)|assumption)
         obtain ⟨ad144,e144,hx144_0⟩:=Kd.at_int HR0.out x9_1 p144 q144
         cases e144
         replace p144:=eq_true p144
         replace q144:=eq_true q144
         go_wp2
         go_roundg k1
         case measure=>have:=HK1.out;omega
         case rel=>exact ⟨(wrap64 (x9_1 + 1)),(by first|rfl|(simp;done)|(simp [*];done)),H',⟨by have:=HK1.out;omega⟩,by repeat (first|exact Drawn0.refl _|apply Drawn0.step)⟩
     ·rw [if_neg c5] at H
      exact absurd H (by simp)
    ·rw [if_neg c4] at H
     exact absurd H (by simp)
   ·rw [if_neg c3] at H
    have c3b0:decide (x9_1 < (l0.length:Int))=false:=decide_eq_false c3
    clear c3
    obtain rfl:=Option.some.inj H
    go_wp2
    go_ret
    exact ⟨by first|rfl|(simp;done)|(simp [*];done),by repeat (first|exact Drawn0.refl _|apply Drawn0.step)⟩
end Go.Proofs.Ytomfjhpiemipkaa.PFnOre
end
section
namespace Go.Proofs.Ytomfjhpiemipkaa.PFnOre
open Go.RowKit Go.Proofs.YtomfjhpiemipkaaW.PrintWords Go.Proofs.YtomfjhpiemipkaaW.PrintLast Go.Proofs.YtomfjhpiemipkaaW.PrintMore
attribute [local go_sem] max2_int min2_int max_two min_two max_three min_three max_four min_four   -- for this text's walks alone
set_option linter.unusedVariables false
set_option linter.unusedSimpArgs false
def impl_valueSum.l0:Nat→List Int→Int→List Int→Int→Int→Option (Int)
 | 0,_,_,_,_,_=>none
 | k + 1,x0,x5,x8,x9,x10=>if x10 < x9 then (if 0≤x10 then (if x10 < (x8.length:Int) then (if 0≤(rd x8 x10) then (if (rd x8 x10) < (x0.length:Int) then (impl_valueSum.l0 k x0 (wrap64 (x5 + (rd x0 (rd x8 x10)))) x8 x9 (wrap64 (x10 + 1))) else (none)) else (none)) else (none)) else (none)) else (some x5)
def impl_valueSum.f (k:Nat) (l0:List Int) (l1:List Int):Option (Int):=impl_valueSum.l0 k l0 0 l1 (l1.length:Int) 0
set_option maxHeartbeats 8000000 in
set_option maxRecDepth 100000 in
theorem impl_valueSum.calls (k:Nat) (A0:Option Addr) (c0:Nat) (l0:List Int) (A1:Option Addr) (c1:Nat) (l1:List Int) (r:Int) (w:World) (hr0:Kd.C (Kd.int .i64) w A0 l0.length l0) (hc0:l0.length≤c0) (hr1:Kd.C (Kd.int .i64) w A1 l1.length l1) (hc1:l1.length≤c1) (h:impl_valueSum.f k l0 l1=some r) :
  Calls Try.prog 130 #[.slice A0 l0.length c0,.slice A1 l1.length c1] w fun e w'=>e=.returned (.int .i64 r)∧Drawn0 w w':=by
 have HR0:=Aside0.mk hr0
 have HC0:=Aside0.mk hc0
 clear hr0 hc0
 have HR1:=Aside0.mk hr1
 have HC1:=Aside0.mk hc1
 clear hr1 hc1
 have H:(impl_valueSum.l0 k l0 0 l1 (l1.length:Int) 0)=some r:=h
 clear h
 have H':=Aside0.mk H
 clear H
 go_enter Try.func130,Try.ntmps130
 go_wp2
 go_loopg [5,10] k (fun kq v5 v10 w'=>∃ (x5_1:Int) (x10_1:Int),v5=.int .i64 x5_1∧v10=.int .i64 x10_1∧Aside0 (impl_valueSum.l0 kq l0 x5_1 l1 (l1.length:Int) x10_1=some r)∧Aside0 (kq≤k)∧Drawn0 w w')
 case atStart=>exact ⟨(0),(0),(by first|rfl|(simp;done)|(simp [*];done)),(by first|rfl|(simp;done)|(simp [*];done)),H',⟨Nat.le_refl _⟩,by repeat (first|exact Drawn0.refl _|apply Drawn0.step)⟩
 case round =>
  clear H'
  try clear c1
  try clear p2
  obtain ⟨x5_1,x10_1,rfl,rfl,HA,HK1,⟨m1,rfl⟩⟩:=hrel
  cases gk with
  | zero=>exact absurd HA.out (by simp [impl_valueSum.l0])
  | succ k1 =>
   have H:=HA.out
   clear HA
   simp only [impl_valueSum.l0] at H
   by_cases c3:x10_1 < (l1.length:Int)
   ·rw [if_pos c3] at H
    have c3b0:decide (x10_1 < (l1.length:Int))=true:=decide_eq_true c3
    clear c3
    by_cases c4:0≤x10_1
    ·rw [if_pos c4] at H
     have c4b0:decide (0≤x10_1)=true:=decide_eq_true c4
     clear c4
     by_cases c5:x10_1 < (l1.length:Int)
     ·rw [if_pos c5] at H
      have c5b0:decide (x10_1 < (l1.length:Int))=true:=decide_eq_true c5
      clear c5
      by_cases c6:0≤(rd l1 x10_1)
      ·rw [if_pos c6] at H
       have c6b0:decide (0≤(rd l1 x10_1))=true:=decide_eq_true c6
       clear c6
       by_cases c7:(rd l1 x10_1) < (l0.length:Int)
       ·rw [if_pos c7] at H
        have c7b0:decide ((rd l1 x10_1) < (l0.length:Int))=true:=decide_eq_true c7
        clear c7
        have H':=Aside0.mk H
        clear H
        have p237:0≤(x10_1:Int):=of_decide_eq_true (by first|(with_reducible assumption)|assumption)
        have q237:x10_1 < (l1.length:Int):=of_decide_eq_true (by first|(with_reducible assumption)|assumption)
        obtain ⟨ad237,e237,hx237_0⟩:=Kd.at_int HR1.out x10_1 p237 q237
        cases e237
        replace p237:=eq_true p237
        replace q237:=eq_true q237
        have p238:0≤((rd l1 x10_1):Int):=of_decide_eq_true (by first|(with_reducible assumption)|assumption)
        have q238:(rd l1 x10_1) < (l0.length:Int):=of_decide_eq_true (by first|(with_reducible assumption)|assumption)
        obtain ⟨ad238,e238,hx238_0⟩:=Kd.at_int HR0.out (rd l1 x10_1) p238 q238
        cases e238
        replace p238:=eq_true p238
        replace q238:=eq_true q238
        go_wp2
        go_roundg k1
        case measure=>have:=HK1.out;omega
        case rel=>exact ⟨(wrap64 (x5_1 + (rd l0 (rd l1 x10_1)))),(wrap64 (x10_1 + 1)),(by first|rfl|(simp;done)|(simp [*];done)),(by first|rfl|(simp;done)|(simp [*];done)),H',⟨by have:=HK1.out;omega⟩,by repeat (first|exact Drawn0.refl _|apply Drawn0.step)⟩
       ·rw [if_neg c7] at H
        exact absurd H (by simp)
      ·rw [if_neg c6] at H
       exact absurd H (by simp)
     ·rw [if_neg c5] at H
      exact absurd H (by simp)
    ·rw [if_neg c4] at H
     exact absurd H (by simp)
   ·rw [if_neg c3] at H
    have c3b0:decide (x10_1 < (l1.length:Int))=false:=decide_eq_false c3
    clear c3
    obtain rfl:=Option.some.inj H
    go_wp2
    go_ret
    exact ⟨by first|rfl|(simp;done)|(simp [*];done),by repeat (first|exact Drawn0.refl _|apply Drawn0.step)⟩
end Go.Proofs.Ytomfjhpiemipkaa.PFnOre
end
section
namespace Go.Proofs.Ytomfjhpiemipkaa.PFnOre
open Go.RowKit Go.Proofs.YtomfjhpiemipkaaW.PrintWords Go.Proofs.YtomfjhpiemipkaaW.PrintLast Go.Proofs.YtomfjhpiemipkaaW.PrintMore
attribute [local go_sem] max2_int min2_int max_two min_two max_three min_three max_four min_four   -- for this text's walks alone
set_option linter.unusedVariables false
set_option linter.unusedSimpArgs false
def impl_SumOfValues.f (k:Nat) (l0:List Int) (l1:List Int):Option (Int × Bool):=(impl_goodValues.f k l0).bind fun t239=>(if t239=true then ((impl_areBlocks.f k l1 (l0.length:Int)).bind fun t240=>(if t240=true then ((impl_valueSum.f k l0 l1).bind fun t241=>(some (t241,true))) else (some (0,false)))) else (some (0,false)))
set_option maxHeartbeats 8000000 in
set_option maxRecDepth 100000 in
theorem impl_SumOfValues.calls (k:Nat) (A0:Option Addr) (c0:Nat) (l0:List Int) (A1:Option Addr) (c1:Nat) (l1:List Int) (r1:Int) (r2:Bool) (w:World) (hr0:Kd.C (Kd.int .i64) w A0 l0.length l0) (hc0:l0.length≤c0) (hr1:Kd.C (Kd.int .i64) w A1 l1.length l1) (hc1:l1.length≤c1) (h:impl_SumOfValues.f k l0 l1=some (r1,r2)) :
  Calls Try.prog 48 #[.slice A0 l0.length c0,.slice A1 l1.length c1] w fun e w'=>e=.returned (.tuple #[.int .i64 r1,.bool r2])∧Drawn0 w w':=by
 have HR0:=Aside0.mk hr0
 have HC0:=Aside0.mk hc0
 clear hr0 hc0
 have HR1:=Aside0.mk hr1
 have HC1:=Aside0.mk hc1
 clear hr1 hc1
 have H:((impl_goodValues.f k l0).bind fun t239=>(if t239=true then ((impl_areBlocks.f k l1 (l0.length:Int)).bind fun t240=>(if t240=true then ((impl_valueSum.f k l0 l1).bind fun t241=>(some (t241,true))) else (some (0,false)))) else (some (0,false))))=some (r1,r2):=h
 clear h
 replace H:=Option.bind_eq_some_iff.mp H
 obtain ⟨t239,A30,H⟩:=H
 replace H:(if t239=true then ((impl_areBlocks.f k l1 (l0.length:Int)).bind fun t240=>(if t240=true then ((impl_valueSum.f k l0 l1).bind fun t241=>(some (t241,true))) else (some (0,false)))) else (some (0,false)))=some (r1,r2):=H
 have A3:=Aside0.mk A30
 clear A30
 by_cases c4:t239=true
 ·subst c4
  have H1:((impl_areBlocks.f k l1 (l0.length:Int)).bind fun t240=>(if t240=true then ((impl_valueSum.f k l0 l1).bind fun t241=>(some (t241,true))) else (some (0,false))))=some (r1,r2):=by rw [if_pos rfl] at H;exact H
  clear H
  have H:=H1
  clear H1
  replace H:=Option.bind_eq_some_iff.mp H
  obtain ⟨t240,A50,H⟩:=H
  replace H:(if t240=true then ((impl_valueSum.f k l0 l1).bind fun t241=>(some (t241,true))) else (some (0,false)))=some (r1,r2):=H
  have A5:=Aside0.mk A50
  clear A50
  by_cases c6:t240=true
  ·subst c6
   have H1:((impl_valueSum.f k l0 l1).bind fun t241=>(some (t241,true)))=some (r1,r2):=by rw [if_pos rfl] at H;exact H
   clear H
   have H:=H1
   clear H1
   replace H:=Option.bind_eq_some_iff.mp H
   obtain ⟨t241,A70,H⟩:=H
   replace H:(some (t241,true))=some (r1,r2):=H
   have A7:=Aside0.mk A70
   clear A70
   simp only [Option.some.injEq,Prod.mk.injEq] at H
   obtain ⟨rfl,rfl⟩:=H
   go_enter Try.func48,Try.ntmps48
   go_wp2_with (first|((with_reducible refine gate_callee (f:=102) rfl ?_);refine goesL_ (some 7) rfl rfl Try.func102 (by kernel_rfl) rfl #[.slice A0 l0.length c0] rfl (by (try simp only [List.map_toArray,List.map_cons,List.map_nil]);first|done|rfl|(simp only [List.length_drop,List.length_take];rfl)) ?_;(with_reducible refine (impl_goodValues.calls k _ _ l0 true _ ?side1 ?side2 A3.out).mono ?_);(case side1=>repeat (first|exact HR0.out|(with_reducible refine Kd.C_alloc ?_ _)|(with_reducible refine Kd.C_drewN ?_ _)|(with_reducible refine Kd.C_drew ?_)));(case side2=>exact HC0.out);rintro e w' ⟨rfl,⟨nd,rfl⟩⟩;refine ⟨_,rfl,?_⟩)|(go_at_call 103;(with_reducible refine (impl_areBlocks.calls k _ _ l1 (l0.length:Int) true _ ?side1 ?side2 A5.out).mono ?_);(case side1=>repeat (first|exact HR1.out|(with_reducible refine Kd.C_alloc ?_ _)|(with_reducible refine Kd.C_drewN ?_ _)|(with_reducible refine Kd.C_drew ?_)));(case side2=>exact HC1.out);rintro e w' ⟨rfl,⟨nd,rfl⟩⟩)|((with_reducible refine gate_callee (f:=130) rfl ?_);refine goesL_ (some 18) rfl rfl Try.func130 (by kernel_rfl) rfl #[.slice A0 l0.length c0,.slice A1 l1.length c1] rfl (by (try simp only [List.map_toArray,List.map_cons,List.map_nil]);first|done|rfl|(simp only [List.length_drop,List.length_take];rfl)) ?_;(with_reducible refine (impl_valueSum.calls k _ _ l0 _ _ l1 t241 _ ?side1 ?side2 ?side3 ?side4 A7.out).mono ?_);(case side1=>repeat (first|exact HR0.out|(with_reducible refine Kd.C_alloc ?_ _)|(with_reducible refine Kd.C_drewN ?_ _)|(with_reducible refine Kd.C_drew ?_)));(case side2=>exact HC0.out);(case side3=>repeat (first|exact HR1.out|(with_reducible refine Kd.C_alloc ?_ _)|(with_reducible refine Kd.C_drewN ?_ _)|(with_reducible refine Kd.C_drew ?_)));(case side4=>exact HC1.out);rintro e w' ⟨rfl,⟨nd,rfl⟩⟩;refine ⟨_,rfl,?_⟩))
   go_ret2
   exact ⟨by first|rfl|(simp;done)|(simp [*];done),by repeat (first|exact Drawn0.refl _|apply Drawn0.step)⟩
  ·replace c6:=Bool.eq_false_iff.mpr c6
   subst c6
   have H1:(some (0,false))=some (r1,r2):=by rw [if_neg (show ¬ (false=true) by decide)] at H;exact H
   clear H
   have H:=H1
   clear H1
   simp only [Option.some.injEq,Prod.mk.injEq] at H
   obtain ⟨rfl,rfl⟩:=H
   go_enter Try.func48,Try.ntmps48
   go_wp2_with (first|((with_reducible refine gate_callee (f:=102) rfl ?_);refine goesL_ (some 7) rfl rfl Try.func102 (by kernel_rfl) rfl #[.slice A0 l0.length c0] rfl (by (try simp only [List.map_toArray,List.map_cons,List.map_nil]);first|done|rfl|(simp only [List.length_drop,List.length_take];rfl)) ?_;(with_reducible refine (impl_goodValues.calls k _ _ l0 true _ ?side1 ?side2 A3.out).mono ?_);(case side1=>repeat (first|exact HR0.out|(with_reducible refine Kd.C_alloc ?_ _)|(with_reducible refine Kd.C_drewN ?_ _)|(with_reducible refine Kd.C_drew ?_)));(case side2=>exact HC0.out);rintro e w' ⟨rfl,⟨nd,rfl⟩⟩;refine ⟨_,rfl,?_⟩)|(go_at_call 103;(with_reducible refine (impl_areBlocks.calls k _ _ l1 (l0.length:Int) false _ ?side1 ?side2 A5.out).mono ?_);(case side1=>repeat (first|exact HR1.out|(with_reducible refine Kd.C_alloc ?_ _)|(with_reducible refine Kd.C_drewN ?_ _)|(with_reducible refine Kd.C_drew ?_)));(case side2=>exact HC1.out);rintro e w' ⟨rfl,⟨nd,rfl⟩⟩))
   go_ret2
   exact ⟨by first|rfl|(simp;done)|(simp [*];done),by repeat (first|exact Drawn0.refl _|apply Drawn0.step)⟩
 ·replace c4:=Bool.eq_false_iff.mpr c4
  subst c4
  have H1:(some (0,false))=some (r1,r2):=by rw [if_neg (show ¬ (false=true) by decide)] at H;exact H
  clear H
  have H:=H1
  clear H1
  simp only [Option.some.injEq,Prod.mk.injEq] at H
  obtain ⟨rfl,rfl⟩:=H
  go_enter Try.func48,Try.ntmps48
  go_wp2_with (first|((with_reducible refine gate_callee (f:=102) rfl ?_);refine goesL_ (some 7) rfl rfl Try.func102 (by kernel_rfl) rfl #[.slice A0 l0.length c0] rfl (by (try simp only [List.map_toArray,List.map_cons,List.map_nil]);first|done|rfl|(simp only [List.length_drop,List.length_take];rfl)) ?_;(with_reducible refine (impl_goodValues.calls k _ _ l0 false _ ?side1 ?side2 A3.out).mono ?_);(case side1=>repeat (first|exact HR0.out|(with_reducible refine Kd.C_alloc ?_ _)|(with_reducible refine Kd.C_drewN ?_ _)|(with_reducible refine Kd.C_drew ?_)));(case side2=>exact HC0.out);rintro e w' ⟨rfl,⟨nd,rfl⟩⟩;refine ⟨_,rfl,?_⟩))
  go_ret2
  exact ⟨by first|rfl|(simp;done)|(simp [*];done),by repeat (first|exact Drawn0.refl _|apply Drawn0.step)⟩
end Go.Proofs.Ytomfjhpiemipkaa.PFnOre
end
section
namespace Go.Proofs.Ytomfjhpiemipkaa.PFnOre
open Go.RowKit Go.Proofs.YtomfjhpiemipkaaW.PrintWords Go.Proofs.YtomfjhpiemipkaaW.PrintLast Go.Proofs.YtomfjhpiemipkaaW.PrintMore
attribute [local go_sem] max2_int min2_int max_two min_two max_three min_three max_four min_four   -- for this text's walks alone
set_option linter.unusedVariables false
set_option linter.unusedSimpArgs false
def spec_l1In.f (a0:Int) (a1:Int) (a2:Int):Option (Bool):=if a0 ≥ a1 then (some (decide (a0≤a2))) else (some false)
set_option maxHeartbeats 8000000 in
set_option maxRecDepth 100000 in
theorem spec_l1In.calls (a0:Int) (a1:Int) (a2:Int) (r:Bool) (w:World) (h:spec_l1In.f a0 a1 a2=some r) :
  Calls Try.prog 108 #[.int .i64 a0,.int .i64 a1,.int .i64 a2] w fun e w'=>e=.returned (.bool r)∧Drawn0 w w':=by
 have H:(if a0 ≥ a1 then (some (decide (a0≤a2))) else (some false))=some r:=h
 clear h
 by_cases c4:a0 ≥ a1
 ·rw [if_pos c4] at H
  have c4b0:decide (a1≤a0)=true:=decide_eq_true c4
  clear c4
  obtain rfl:=Option.some.inj H
  go_enter Try.func108,Try.ntmps108
  go_wp2
  go_ret
  exact ⟨by first|rfl|(simp;done)|(simp [*];done),by repeat (first|exact Drawn0.refl _|apply Drawn0.step)⟩
 ·rw [if_neg c4] at H
  have c4b0:decide (a1≤a0)=false:=decide_eq_false c4
  clear c4
  obtain rfl:=Option.some.inj H
  go_enter Try.func108,Try.ntmps108
  go_wp2
  go_ret
  exact ⟨by first|rfl|(simp;done)|(simp [*];done),by repeat (first|exact Drawn0.refl _|apply Drawn0.step)⟩
end Go.Proofs.Ytomfjhpiemipkaa.PFnOre
end
section
namespace Go.Proofs.Ytomfjhpiemipkaa.PFnOre
open Go.RowKit Go.Proofs.YtomfjhpiemipkaaW.PrintWords Go.Proofs.YtomfjhpiemipkaaW.PrintLast Go.Proofs.YtomfjhpiemipkaaW.PrintMore
attribute [local go_sem] max2_int min2_int max_two min_two max_three min_three max_four min_four   -- for this text's walks alone
set_option linter.unusedVariables false
set_option linter.unusedSimpArgs false
def spec_l1Rising.l0:Nat→List Int→Int→Int→List Int→Int→Int→Option (Bool)
 | 0,_,_,_,_,_,_=>none
 | k + 1,x0,x1,x2,x9,x10,x11=>if x11 < x10 then (if 0≤x11 then (if x11 < (x9.length:Int) then ((spec_l1In.f (rd x9 x11) x1 x2).bind fun t115=>(if t115=true then (if x11 > 0 then (if 0≤(wrap64 (x11 - 1)) then (if (wrap64 (x11 - 1)) < (x0.length:Int) then (if (rd x0 (wrap64 (x11 - 1))) ≥ (rd x9 x11) then (some false) else (spec_l1Rising.l0 k x0 x1 x2 x9 x10 (wrap64 (x11 + 1)))) else (none)) else (none)) else (spec_l1Rising.l0 k x0 x1 x2 x9 x10 (wrap64 (x11 + 1)))) else (some false))) else (none)) else (none)) else (some true)
def spec_l1Rising.f (k:Nat) (l0:List Int) (a1:Int) (a2:Int):Option (Bool):=spec_l1Rising.l0 k l0 a1 a2 l0 (l0.length:Int) 0
set_option maxHeartbeats 8000000 in
set_option maxRecDepth 100000 in
theorem spec_l1Rising.calls (k:Nat) (A0:Option Addr) (c0:Nat) (l0:List Int) (a1:Int) (a2:Int) (r:Bool) (w:World) (hr0:Kd.C (Kd.int .i64) w A0 l0.length l0) (hc0:l0.length≤c0) (h:spec_l1Rising.f k l0 a1 a2=some r) :
  Calls Try.prog 131 #[.slice A0 l0.length c0,.int .i64 a1,.int .i64 a2] w fun e w'=>e=.returned (.bool r)∧Drawn0 w w':=by
 have HR0:=Aside0.mk hr0
 have HC0:=Aside0.mk hc0
 clear hr0 hc0
 have H:(spec_l1Rising.l0 k l0 a1 a2 l0 (l0.length:Int) 0)=some r:=h
 clear h
 have H':=Aside0.mk H
 clear H
 go_enter Try.func131,Try.ntmps131
 go_wp2
 go_loopg [11] k (fun kq v11 w'=>∃ (x11_1:Int),v11=.int .i64 x11_1∧Aside0 (spec_l1Rising.l0 kq l0 a1 a2 l0 (l0.length:Int) x11_1=some r)∧Aside0 (kq≤k)∧Drawn0 w w')
 case atStart=>exact ⟨(0),(by first|rfl|(simp;done)|(simp [*];done)),H',⟨Nat.le_refl _⟩,by repeat (first|exact Drawn0.refl _|apply Drawn0.step)⟩
 case round =>
  clear H'
  try clear c1
  try clear p2
  obtain ⟨x11_1,rfl,HA,HK1,⟨m1,rfl⟩⟩:=hrel
  cases gk with
  | zero=>exact absurd HA.out (by simp [spec_l1Rising.l0])
  | succ k1 =>
   have H:=HA.out
   clear HA
   simp only [spec_l1Rising.l0] at H
   by_cases c4:x11_1 < (l0.length:Int)
   ·rw [if_pos c4] at H
    have c4b0:decide (x11_1 < (l0.length:Int))=true:=decide_eq_true c4
    clear c4
    by_cases c5:0≤x11_1
    ·rw [if_pos c5] at H
     have c5b0:decide (0≤x11_1)=true:=decide_eq_true c5
     clear c5
     by_cases c6:x11_1 < (l0.length:Int)
     ·rw [if_pos c6] at H
      have c6b0:decide (x11_1 < (l0.length:Int))=true:=decide_eq_true c6
      clear c6
      replace H:=Option.bind_eq_some_iff.mp H
      obtain ⟨t115,A70,H⟩:=H
      replace H:(if t115=true then (if x11_1 > 0 then (if 0≤(wrap64 (x11_1 - 1)) then (if (wrap64 (x11_1 - 1)) < (l0.length:Int) then (if (rd l0 (wrap64 (x11_1 - 1))) ≥ (rd l0 x11_1) then (some false) else (spec_l1Rising.l0 k1 l0 a1 a2 l0 (l0.length:Int) (wrap64 (x11_1 + 1)))) else (none)) else (none)) else (spec_l1Rising.l0 k1 l0 a1 a2 l0 (l0.length:Int) (wrap64 (x11_1 + 1)))) else (some false))=some r:=H
      have A7:=Aside0.mk A70
      clear A70
      by_cases c8:t115=true
      ·subst c8
       have H1:(if x11_1 > 0 then (if 0≤(wrap64 (x11_1 - 1)) then (if (wrap64 (x11_1 - 1)) < (l0.length:Int) then (if (rd l0 (wrap64 (x11_1 - 1))) ≥ (rd l0 x11_1) then (some false) else (spec_l1Rising.l0 k1 l0 a1 a2 l0 (l0.length:Int) (wrap64 (x11_1 + 1)))) else (none)) else (none)) else (spec_l1Rising.l0 k1 l0 a1 a2 l0 (l0.length:Int) (wrap64 (x11_1 + 1))))=some r:=by rw [if_pos rfl] at H;exact H
       clear H
       have H:=H1
       clear H1
       by_cases c9:x11_1 > 0
       ·rw [if_pos c9] at H
        have c9b0:decide (0 < x11_1)=true:=decide_eq_true c9
        clear c9
        obtain ⟨ji10,hji10⟩:∃ j_:Int,(wrap64 (x11_1 - 1))=j_:=⟨_,rfl⟩
        replace H:(if 0≤(ji10) then (if (ji10) < (l0.length:Int) then (if (rd l0 (ji10)) ≥ (rd l0 x11_1) then (some false) else (spec_l1Rising.l0 k1 l0 a1 a2 l0 (l0.length:Int) (wrap64 (x11_1 + 1)))) else (none)) else (none))=some r:=by first|(rw [hji10] at H;exact H)|(simp only [hji10] at H ⊢;exact H)
        (try rw [hji10] at A7)
        have hji10w:(IntKind.i64.wrap (x11_1 - 1))=ji10:=(i64_w _).trans hji10
        by_cases c11:0≤(ji10)
        ·rw [if_pos c11] at H
         have c11b0:decide (0≤(ji10))=true:=decide_eq_true c11
         clear c11
         by_cases c12:(ji10) < (l0.length:Int)
         ·rw [if_pos c12] at H
          have c12b0:decide ((ji10) < (l0.length:Int))=true:=decide_eq_true c12
          clear c12
          by_cases c13:(rd l0 (ji10)) ≥ (rd l0 x11_1)
          ·rw [if_pos c13] at H
           have c13b0:decide ((rd l0 x11_1)≤(rd l0 (ji10)))=true:=decide_eq_true c13
           clear c13
           obtain rfl:=Option.some.inj H
           have p114:0≤(x11_1:Int):=of_decide_eq_true (by first|(with_reducible assumption)|assumption)
           have q114:x11_1 < (l0.length:Int):=of_decide_eq_true (by first|(with_reducible assumption)|assumption)
           obtain ⟨ad114,e114,hx114_0⟩:=Kd.at_int HR0.out x11_1 p114 q114
           cases e114
           replace p114:=eq_true p114
           replace q114:=eq_true q114
           go_wp2_with (first|((with_reducible refine gate_callee (f:=108) rfl ?_);refine goesL_ (some 19) rfl rfl Try.func108 (by kernel_rfl) rfl #[.int .i64 (rd l0 x11_1),.int .i64 a1,.int .i64 a2] rfl (by (try simp only [List.map_toArray,List.map_cons,List.map_nil]);first|done|rfl|(simp only [List.length_drop,List.length_take];rfl)) ?_;(with_reducible refine (spec_l1In.calls (rd l0 x11_1) a1 a2 true _ A7.out).mono ?_);rintro e w' ⟨rfl,⟨nd,rfl⟩⟩;refine ⟨_,rfl,?_⟩;have p116:0≤((ji10):Int):=of_decide_eq_true (by first|(with_reducible assumption)|assumption);have q116:(ji10) < (l0.length:Int):=of_decide_eq_true (by first|(with_reducible assumption)|assumption);obtain ⟨ad116,e116,hx116_0⟩:=Kd.at_int HR0.out (ji10) p116 q116;obtain rfl:ad114=ad116:=(by injection e116);replace p116:=eq_true p116;replace q116:=eq_true q116))
           go_ret
           exact ⟨by first|rfl|(simp;done)|(simp only [← hji10] <;> (first|rfl|simp))|(simp [*];done),by repeat (first|exact Drawn0.refl _|apply Drawn0.step)⟩
          ·rw [if_neg c13] at H
           have c13b0:decide ((rd l0 x11_1)≤(rd l0 (ji10)))=false:=decide_eq_false c13
           clear c13
           have H':=Aside0.mk H
           clear H
           have p114:0≤(x11_1:Int):=of_decide_eq_true (by first|(with_reducible assumption)|assumption)
           have q114:x11_1 < (l0.length:Int):=of_decide_eq_true (by first|(with_reducible assumption)|assumption)
           obtain ⟨ad114,e114,hx114_0⟩:=Kd.at_int HR0.out x11_1 p114 q114
           cases e114
           replace p114:=eq_true p114
           replace q114:=eq_true q114
           go_wp2_with (first|((with_reducible refine gate_callee (f:=108) rfl ?_);refine goesL_ (some 19) rfl rfl Try.func108 (by kernel_rfl) rfl #[.int .i64 (rd l0 x11_1),.int .i64 a1,.int .i64 a2] rfl (by (try simp only [List.map_toArray,List.map_cons,List.map_nil]);first|done|rfl|(simp only [List.length_drop,List.length_take];rfl)) ?_;(with_reducible refine (spec_l1In.calls (rd l0 x11_1) a1 a2 true _ A7.out).mono ?_);rintro e w' ⟨rfl,⟨nd,rfl⟩⟩;refine ⟨_,rfl,?_⟩;have p116:0≤((ji10):Int):=of_decide_eq_true (by first|(with_reducible assumption)|assumption);have q116:(ji10) < (l0.length:Int):=of_decide_eq_true (by first|(with_reducible assumption)|assumption);obtain ⟨ad116,e116,hx116_0⟩:=Kd.at_int HR0.out (ji10) p116 q116;obtain rfl:ad114=ad116:=(by injection e116);replace p116:=eq_true p116;replace q116:=eq_true q116))
           go_roundg k1
           case measure=>have:=HK1.out;omega
           case rel=>exact ⟨(wrap64 (x11_1 + 1)),(by first|rfl|(simp;done)|(simp [*];done)),H',⟨by have:=HK1.out;omega⟩,by repeat (first|exact Drawn0.refl _|apply Drawn0.step)⟩
         ·rw [if_neg c12] at H
          exact absurd H (by simp)
        ·rw [if_neg c11] at H
         exact absurd H (by simp)
       ·rw [if_neg c9] at H
        have c9b0:decide (0 < x11_1)=false:=decide_eq_false c9
        clear c9
        have H':=Aside0.mk H
        clear H
        have p114:0≤(x11_1:Int):=of_decide_eq_true (by first|(with_reducible assumption)|assumption)
        have q114:x11_1 < (l0.length:Int):=of_decide_eq_true (by first|(with_reducible assumption)|assumption)
        obtain ⟨ad114,e114,hx114_0⟩:=Kd.at_int HR0.out x11_1 p114 q114
        cases e114
        replace p114:=eq_true p114
        replace q114:=eq_true q114
        go_wp2_with (first|((with_reducible refine gate_callee (f:=108) rfl ?_);refine goesL_ (some 19) rfl rfl Try.func108 (by kernel_rfl) rfl #[.int .i64 (rd l0 x11_1),.int .i64 a1,.int .i64 a2] rfl (by (try simp only [List.map_toArray,List.map_cons,List.map_nil]);first|done|rfl|(simp only [List.length_drop,List.length_take];rfl)) ?_;(with_reducible refine (spec_l1In.calls (rd l0 x11_1) a1 a2 true _ A7.out).mono ?_);rintro e w' ⟨rfl,⟨nd,rfl⟩⟩;refine ⟨_,rfl,?_⟩))
        go_roundg k1
        case measure=>have:=HK1.out;omega
        case rel=>exact ⟨(wrap64 (x11_1 + 1)),(by first|rfl|(simp;done)|(simp [*];done)),H',⟨by have:=HK1.out;omega⟩,by repeat (first|exact Drawn0.refl _|apply Drawn0.step)⟩
      ·replace c8:=Bool.eq_false_iff.mpr c8
       subst c8
       have H1:(some false)=some r:=by rw [if_neg (show ¬ (false=true) by decide)] at H;exact H
       clear H
       have H:=H1
       clear H1
       obtain rfl:=Option.some.inj H
       have p114:0≤(x11_1:Int):=of_decide_eq_true (by first|(with_reducible assumption)|assumption)
       have q114:x11_1 < (l0.length:Int):=of_decide_eq_true (by first|(with_reducible assumption)|assumption)
       obtain ⟨ad114,e114,hx114_0⟩:=Kd.at_int HR0.out x11_1 p114 q114
       cases e114
       replace p114:=eq_true p114
       replace q114:=eq_true q114
       go_wp2_with (first|((with_reducible refine gate_callee (f:=108) rfl ?_);refine goesL_ (some 19) rfl rfl Try.func108 (by kernel_rfl) rfl #[.int .i64 (rd l0 x11_1),.int .i64 a1,.int .i64 a2] rfl (by (try simp only [List.map_toArray,List.map_cons,List.map_nil]);first|done|rfl|(simp only [List.length_drop,List.length_take];rfl)) ?_;(with_reducible refine (spec_l1In.calls (rd l0 x11_1) a1 a2 false _ A7.out).mono ?_);rintro e w' ⟨rfl,⟨nd,rfl⟩⟩;refine ⟨_,rfl,?_⟩))
       go_ret
       exact ⟨by first|rfl|(simp;done)|(simp [*];done),by repeat (first|exact Drawn0.refl _|apply Drawn0.step)⟩
     ·rw [if_neg c6] at H
      exact absurd H (by simp)
    ·rw [if_neg c5] at H
     exact absurd H (by simp)
   ·rw [if_neg c4] at H
    have c4b0:decide (x11_1 < (l0.length:Int))=false:=decide_eq_false c4
    clear c4
    obtain rfl:=Option.some.inj H
    go_wp2
    go_ret
    exact ⟨by first|rfl|(simp;done)|(simp [*];done),by repeat (first|exact Drawn0.refl _|apply Drawn0.step)⟩
end Go.Proofs.Ytomfjhpiemipkaa.PFnOre
end
section
namespace Go.Proofs.Ytomfjhpiemipkaa.PFnOre
open Go.RowKit Go.Proofs.YtomfjhpiemipkaaW.PrintWords Go.Proofs.YtomfjhpiemipkaaW.PrintLast Go.Proofs.YtomfjhpiemipkaaW.PrintMore
attribute [local go_sem] max2_int min2_int max_two min_two max_three min_three max_four min_four   -- for this text's walks alone
set_option linter.unusedVariables false
set_option linter.unusedSimpArgs false
def spec_l1All.l0:Nat→Int→Int→List Int→Int→Int→Option (Bool)
 | 0,_,_,_,_,_=>none
 | k + 1,x1,x2,x9,x10,x11=>if x11 < x10 then (if 0≤x11 then (if x11 < (x9.length:Int) then ((spec_l1In.f (rd x9 x11) x1 x2).bind fun t107=>(if t107=true then (spec_l1All.l0 k x1 x2 x9 x10 (wrap64 (x11 + 1))) else (some false))) else (none)) else (none)) else (some true)
def spec_l1All.f (k:Nat) (l0:List Int) (a1:Int) (a2:Int):Option (Bool):=spec_l1All.l0 k a1 a2 l0 (l0.length:Int) 0
set_option maxHeartbeats 8000000 in
set_option maxRecDepth 100000 in
theorem spec_l1All.calls (k:Nat) (A0:Option Addr) (c0:Nat) (l0:List Int) (a1:Int) (a2:Int) (r:Bool) (w:World) (hr0:Kd.C (Kd.int .i64) w A0 l0.length l0) (hc0:l0.length≤c0) (h:spec_l1All.f k l0 a1 a2=some r) :
  Calls Try.prog 161 #[.slice A0 l0.length c0,.int .i64 a1,.int .i64 a2] w fun e w'=>e=.returned (.bool r)∧Drawn0 w w':=by
 have HR0:=Aside0.mk hr0
 have HC0:=Aside0.mk hc0
 clear hr0 hc0
 have H:(spec_l1All.l0 k a1 a2 l0 (l0.length:Int) 0)=some r:=h
 clear h
 have H':=Aside0.mk H
 clear H
 go_enter Try.func161,Try.ntmps161
 go_wp2
 go_loopg [11] k (fun kq v11 w'=>∃ (x11_1:Int),v11=.int .i64 x11_1∧Aside0 (spec_l1All.l0 kq a1 a2 l0 (l0.length:Int) x11_1=some r)∧Aside0 (kq≤k)∧Drawn0 w w')
 case atStart=>exact ⟨(0),(by first|rfl|(simp;done)|(simp [*];done)),H',⟨Nat.le_refl _⟩,by repeat (first|exact Drawn0.refl _|apply Drawn0.step)⟩
 case round =>
  clear H'
  try clear c1
  try clear p2
  obtain ⟨x11_1,rfl,HA,HK1,⟨m1,rfl⟩⟩:=hrel
  cases gk with
  | zero=>exact absurd HA.out (by simp [spec_l1All.l0])
  | succ k1 =>
   have H:=HA.out
   clear HA
   simp only [spec_l1All.l0] at H
   by_cases c4:x11_1 < (l0.length:Int)
   ·rw [if_pos c4] at H
    have c4b0:decide (x11_1 < (l0.length:Int))=true:=decide_eq_true c4
    clear c4
    by_cases c5:0≤x11_1
    ·rw [if_pos c5] at H
     have c5b0:decide (0≤x11_1)=true:=decide_eq_true c5
     clear c5
     by_cases c6:x11_1 < (l0.length:Int)
     ·rw [if_pos c6] at H
      have c6b0:decide (x11_1 < (l0.length:Int))=true:=decide_eq_true c6
      clear c6
      replace H:=Option.bind_eq_some_iff.mp H
      obtain ⟨t107,A70,H⟩:=H
      replace H:(if t107=true then (spec_l1All.l0 k1 a1 a2 l0 (l0.length:Int) (wrap64 (x11_1 + 1))) else (some false))=some r:=H
      have A7:=Aside0.mk A70
      clear A70
      by_cases c8:t107=true
      ·subst c8
       have H1:(spec_l1All.l0 k1 a1 a2 l0 (l0.length:Int) (wrap64 (x11_1 + 1)))=some r:=by rw [if_pos rfl] at H;exact H
       clear H
       have H:=H1
       clear H1
       have H':=Aside0.mk H
       clear H
       have p106:0≤(x11_1:Int):=of_decide_eq_true (by first|(with_reducible assumption)|assumption)
       have q106:x11_1 < (l0.length:Int):=of_decide_eq_true (by first|(with_reducible assumption)|assumption)
       obtain ⟨ad106,e106,hx106_0⟩:=Kd.at_int HR0.out x11_1 p106 q106
       cases e106
       replace p106:=eq_true p106
       replace q106:=eq_true q106
       go_wp2_with (first|((with_reducible refine gate_callee (f:=108) rfl ?_);refine goesL_ (some 18) rfl rfl Try.func108 (by kernel_rfl) rfl #[.int .i64 (rd l0 x11_1),.int .i64 a1,.int .i64 a2] rfl (by (try simp only [List.map_toArray,List.map_cons,List.map_nil]);first|done|rfl|(simp only [List.length_drop,List.length_take];rfl)) ?_;(with_reducible refine (spec_l1In.calls (rd l0 x11_1) a1 a2 true _ A7.out).mono ?_);rintro e w' ⟨rfl,⟨nd,rfl⟩⟩;refine ⟨_,rfl,?_⟩))
       go_roundg k1
       case measure=>have:=HK1.out;omega
       case rel=>exact ⟨(wrap64 (x11_1 + 1)),(by first|rfl|(simp;done)|(simp [*];done)),H',⟨by have:=HK1.out;omega⟩,by repeat (first|exact Drawn0.refl _|apply Drawn0.step)⟩
      ·replace c8:=Bool.eq_false_iff.mpr c8
       subst c8
       have H1:(some false)=some r:=by rw [if_neg (show ¬ (false=true) by decide)] at H;exact H
       clear H
       have H:=H1
       clear H1
       obtain rfl:=Option.some.inj H
       have p106:0≤(x11_1:Int):=of_decide_eq_true (by first|(with_reducible assumption)|assumption)
       have q106:x11_1 < (l0.length:Int):=of_decide_eq_true (by first|(with_reducible assumption)|assumption)
       obtain ⟨ad106,e106,hx106_0⟩:=Kd.at_int HR0.out x11_1 p106 q106
       cases e106
       replace p106:=eq_true p106
       replace q106:=eq_true q106
       go_wp2_with (first|((with_reducible refine gate_callee (f:=108) rfl ?_);refine goesL_ (some 18) rfl rfl Try.func108 (by kernel_rfl) rfl #[.int .i64 (rd l0 x11_1),.int .i64 a1,.int .i64 a2] rfl (by (try simp only [List.map_toArray,List.map_cons,List.map_nil]);first|done|rfl|(simp only [List.length_drop,List.length_take];rfl)) ?_;(with_reducible refine (spec_l1In.calls (rd l0 x11_1) a1 a2 false _ A7.out).mono ?_);rintro e w' ⟨rfl,⟨nd,rfl⟩⟩;refine ⟨_,rfl,?_⟩))
       go_ret
       exact ⟨by first|rfl|(simp;done)|(simp [*];done),by repeat (first|exact Drawn0.refl _|apply Drawn0.step)⟩
     ·rw [if_neg c6] at H
      exact absurd H (by simp)
    ·rw [if_neg c5] at H
     exact absurd H (by simp)
   ·rw [if_neg c4] at H
    have c4b0:decide (x11_1 < (l0.length:Int))=false:=decide_eq_false c4
    clear c4
    obtain rfl:=Option.some.inj H
    go_wp2
    go_ret
    exact ⟨by first|rfl|(simp;done)|(simp [*];done),by repeat (first|exact Drawn0.refl _|apply Drawn0.step)⟩
end Go.Proofs.Ytomfjhpiemipkaa.PFnOre
end
section
namespace Go.Proofs.Ytomfjhpiemipkaa.PFnOre
open Go.RowKit Go.Proofs.YtomfjhpiemipkaaW.PrintWords Go.Proofs.YtomfjhpiemipkaaW.PrintLast Go.Proofs.YtomfjhpiemipkaaW.PrintMore
attribute [local go_sem] max2_int min2_int max_two min_two max_three min_three max_four min_four   -- for this text's walks alone
set_option linter.unusedVariables false
set_option linter.unusedSimpArgs false
def spec_vaGood.f (k:Nat) (l0:List Int) (a1:Int):Option (Bool):=if (l0.length:Int)=a1 then ((spec_l1In.f a1 1 120).bind fun t121=>(if t121=true then ((spec_l1All.f k l0 (-1000000) 1000000).bind fun t122=>(some t122)) else (some false))) else (some false)
set_option maxHeartbeats 8000000 in
set_option maxRecDepth 100000 in
theorem spec_vaGood.calls (k:Nat) (A0:Option Addr) (c0:Nat) (l0:List Int) (a1:Int) (r:Bool) (w:World) (hr0:Kd.C (Kd.int .i64) w A0 l0.length l0) (hc0:l0.length≤c0) (h:spec_vaGood.f k l0 a1=some r) :
  Calls Try.prog 100 #[.slice A0 l0.length c0,.int .i64 a1] w fun e w'=>e=.returned (.bool r)∧Drawn0 w w':=by
 have HR0:=Aside0.mk hr0
 have HC0:=Aside0.mk hc0
 clear hr0 hc0
 have H:(if (l0.length:Int)=a1 then ((spec_l1In.f a1 1 120).bind fun t121=>(if t121=true then ((spec_l1All.f k l0 (-1000000) 1000000).bind fun t122=>(some t122)) else (some false))) else (some false))=some r:=h
 clear h
 by_cases c3:(l0.length:Int)=a1
 ·rw [if_pos c3] at H
  have c3b0:((l0.length:Int) == a1)=true:=beq_iff_eq.mpr c3
  have c3b1:((l0.length:Int) != a1)=false:=bne_eq_false_iff_eq.mpr c3
  clear c3
  replace H:=Option.bind_eq_some_iff.mp H
  obtain ⟨t121,A40,H⟩:=H
  replace H:(if t121=true then ((spec_l1All.f k l0 (-1000000) 1000000).bind fun t122=>(some t122)) else (some false))=some r:=H
  have A4:=Aside0.mk A40
  clear A40
  by_cases c5:t121=true
  ·subst c5
   have H1:((spec_l1All.f k l0 (-1000000) 1000000).bind fun t122=>(some t122))=some r:=by rw [if_pos rfl] at H;exact H
   clear H
   have H:=H1
   clear H1
   replace H:=Option.bind_eq_some_iff.mp H
   obtain ⟨t122,A60,H⟩:=H
   replace H:(some t122)=some r:=H
   have A6:=Aside0.mk A60
   clear A60
   obtain rfl:=Option.some.inj H
   go_enter Try.func100,Try.ntmps100
   go_wp2_with (first|(go_at_call 108;(with_reducible refine (spec_l1In.calls a1 1 120 true _ A4.out).mono ?_);rintro e w' ⟨rfl,⟨nd,rfl⟩⟩)|(go_at_call 161;(with_reducible refine (spec_l1All.calls k _ _ l0 (-1000000) 1000000 t122 _ ?side1 ?side2 A6.out).mono ?_);(case side1=>repeat (first|exact HR0.out|(with_reducible refine Kd.C_alloc ?_ _)|(with_reducible refine Kd.C_drewN ?_ _)|(with_reducible refine Kd.C_drew ?_)));(case side2=>exact HC0.out);rintro e w' ⟨rfl,⟨nd,rfl⟩⟩))
   go_ret
   exact ⟨by first|rfl|(simp;done)|(simp [*];done),by repeat (first|exact Drawn0.refl _|apply Drawn0.step)⟩
  ·replace c5:=Bool.eq_false_iff.mpr c5
   subst c5
   have H1:(some false)=some r:=by rw [if_neg (show ¬ (false=true) by decide)] at H;exact H
   clear H
   have H:=H1
   clear H1
   obtain rfl:=Option.some.inj H
   go_enter Try.func100,Try.ntmps100
   go_wp2_with (first|(go_at_call 108;(with_reducible refine (spec_l1In.calls a1 1 120 false _ A4.out).mono ?_);rintro e w' ⟨rfl,⟨nd,rfl⟩⟩))
   go_ret
   exact ⟨by first|rfl|(simp;done)|(simp [*];done),by repeat (first|exact Drawn0.refl _|apply Drawn0.step)⟩
 ·rw [if_neg c3] at H
  have c3b0:((l0.length:Int) == a1)=false:=beq_eq_false_iff_ne.mpr c3
  have c3b1:((l0.length:Int) != a1)=true:=bne_iff_ne.mpr c3
  obtain rfl:=Option.some.inj H
  go_enter Try.func100,Try.ntmps100
  go_wp2
  go_ret
  exact ⟨by first|rfl|(simp;done)|(simp [*];done),by repeat (first|exact Drawn0.refl _|apply Drawn0.step)⟩
end Go.Proofs.Ytomfjhpiemipkaa.PFnOre
end
section
namespace Go.Proofs.Ytomfjhpiemipkaa.PFnOre
open Go.RowKit Go.Proofs.YtomfjhpiemipkaaW.PrintWords Go.Proofs.YtomfjhpiemipkaaW.PrintLast Go.Proofs.YtomfjhpiemipkaaW.PrintMore
attribute [local go_sem] max2_int min2_int max_two min_two max_three min_three max_four min_four   -- for this text's walks alone
set_option linter.unusedVariables false
set_option linter.unusedSimpArgs false
def spec_vaSum.l0:Nat→List Int→Int→List Int→Int→Int→Option (Int)
 | 0,_,_,_,_,_=>none
 | k + 1,x0,x5,x8,x9,x10=>if x10 < x9 then (if 0≤x10 then (if x10 < (x8.length:Int) then (if 0≤(rd x8 x10) then (if (rd x8 x10) < (x0.length:Int) then (spec_vaSum.l0 k x0 (wrap64 (x5 + (rd x0 (rd x8 x10)))) x8 x9 (wrap64 (x10 + 1))) else (none)) else (none)) else (none)) else (none)) else (some x5)
def spec_vaSum.f (k:Nat) (l0:List Int) (l1:List Int):Option (Int):=spec_vaSum.l0 k l0 0 l1 (l1.length:Int) 0
set_option maxHeartbeats 8000000 in
set_option maxRecDepth 100000 in
theorem spec_vaSum.calls (k:Nat) (A0:Option Addr) (c0:Nat) (l0:List Int) (A1:Option Addr) (c1:Nat) (l1:List Int) (r:Int) (w:World) (hr0:Kd.C (Kd.int .i64) w A0 l0.length l0) (hc0:l0.length≤c0) (hr1:Kd.C (Kd.int .i64) w A1 l1.length l1) (hc1:l1.length≤c1) (h:spec_vaSum.f k l0 l1=some r) :
  Calls Try.prog 132 #[.slice A0 l0.length c0,.slice A1 l1.length c1] w fun e w'=>e=.returned (.int .i64 r)∧Drawn0 w w':=by
 have HR0:=Aside0.mk hr0
 have HC0:=Aside0.mk hc0
 clear hr0 hc0
 have HR1:=Aside0.mk hr1
 have HC1:=Aside0.mk hc1
 clear hr1 hc1
 have H:(spec_vaSum.l0 k l0 0 l1 (l1.length:Int) 0)=some r:=h
 clear h
 have H':=Aside0.mk H
 clear H
 go_enter Try.func132,Try.ntmps132
 go_wp2
 go_loopg [5,10] k (fun kq v5 v10 w'=>∃ (x5_1:Int) (x10_1:Int),v5=.int .i64 x5_1∧v10=.int .i64 x10_1∧Aside0 (spec_vaSum.l0 kq l0 x5_1 l1 (l1.length:Int) x10_1=some r)∧Aside0 (kq≤k)∧Drawn0 w w')
 case atStart=>exact ⟨(0),(0),(by first|rfl|(simp;done)|(simp [*];done)),(by first|rfl|(simp;done)|(simp [*];done)),H',⟨Nat.le_refl _⟩,by repeat (first|exact Drawn0.refl _|apply Drawn0.step)⟩
 case round =>
  clear H'
  try clear c1
  try clear p2
  obtain ⟨x5_1,x10_1,rfl,rfl,HA,HK1,⟨m1,rfl⟩⟩:=hrel
  cases gk with
  | zero=>exact absurd HA.out (by simp [spec_vaSum.l0])
  | succ k1 =>
   have H:=HA.out
   clear HA
   simp only [spec_vaSum.l0] at H
   by_cases c3:x10_1 < (l1.length:Int)
   ·rw [if_pos c3] at H
    have c3b0:decide (x10_1 < (l1.length:Int))=true:=decide_eq_true c3
    clear c3
    by_cases c4:0≤x10_1
    ·rw [if_pos c4] at H
     have c4b0:decide (0≤x10_1)=true:=decide_eq_true c4
     clear c4
     by_cases c5:x10_1 < (l1.length:Int)
     ·rw [if_pos c5] at H
      have c5b0:decide (x10_1 < (l1.length:Int))=true:=decide_eq_true c5
      clear c5
      by_cases c6:0≤(rd l1 x10_1)
      ·rw [if_pos c6] at H
       have c6b0:decide (0≤(rd l1 x10_1))=true:=decide_eq_true c6
       clear c6
       by_cases c7:(rd l1 x10_1) < (l0.length:Int)
       ·rw [if_pos c7] at H
        have c7b0:decide ((rd l1 x10_1) < (l0.length:Int))=true:=decide_eq_true c7
        clear c7
        have H':=Aside0.mk H
        clear H
        have p242:0≤(x10_1:Int):=of_decide_eq_true (by first|(with_reducible assumption)|assumption)
        have q242:x10_1 < (l1.length:Int):=of_decide_eq_true (by first|(with_reducible assumption)|assumption)
        obtain ⟨ad242,e242,hx242_0⟩:=Kd.at_int HR1.out x10_1 p242 q242
        cases e242
        replace p242:=eq_true p242
        replace q242:=eq_true q242
        have p243:0≤((rd l1 x10_1):Int):=of_decide_eq_true (by first|(with_reducible assumption)|assumption)
        have q243:(rd l1 x10_1) < (l0.length:Int):=of_decide_eq_true (by first|(with_reducible assumption)|assumption)
        obtain ⟨ad243,e243,hx243_0⟩:=Kd.at_int HR0.out (rd l1 x10_1) p243 q243
        cases e243
        replace p243:=eq_true p243
        replace q243:=eq_true q243
        go_wp2
        go_roundg k1
        case measure=>have:=HK1.out;omega
        case rel=>exact ⟨(wrap64 (x5_1 + (rd l0 (rd l1 x10_1)))),(wrap64 (x10_1 + 1)),(by first|rfl|(simp;done)|(simp [*];done)),(by first|rfl|(simp;done)|(simp [*];done)),H',⟨by have:=HK1.out;omega⟩,by repeat (first|exact Drawn0.refl _|apply Drawn0.step)⟩
       ·rw [if_neg c7] at H
        exact absurd H (by simp)
      ·rw [if_neg c6] at H
       exact absurd H (by simp)
     ·rw [if_neg c5] at H
      exact absurd H (by simp)
    ·rw [if_neg c4] at H
     exact absurd H (by simp)
   ·rw [if_neg c3] at H
    have c3b0:decide (x10_1 < (l1.length:Int))=false:=decide_eq_false c3
    clear c3
    obtain rfl:=Option.some.inj H
    go_wp2
    go_ret
    exact ⟨by first|rfl|(simp;done)|(simp [*];done),by repeat (first|exact Drawn0.refl _|apply Drawn0.step)⟩
end Go.Proofs.Ytomfjhpiemipkaa.PFnOre
end
section
namespace Go.Proofs.Ytomfjhpiemipkaa.PFnOre
open Go.RowKit Go.Proofs.YtomfjhpiemipkaaW.PrintWords Go.Proofs.YtomfjhpiemipkaaW.PrintLast Go.Proofs.YtomfjhpiemipkaaW.PrintMore
attribute [local go_sem] max2_int min2_int max_two min_two max_three min_three max_four min_four   -- for this text's walks alone
set_option linter.unusedVariables false
set_option linter.unusedSimpArgs false
def spec_SumOfValues.f (k:Nat) (l0:List Int) (l1:List Int):Option (Int × Bool):=(spec_vaGood.f k l0 (l0.length:Int)).bind fun t244=>(if t244=true then ((spec_l1Rising.f k l1 0 (wrap64 ((l0.length:Int) - 1))).bind fun t245=>(if t245=true then ((spec_vaSum.f k l0 l1).bind fun t246=>(some (t246,true))) else (some (0,false)))) else (some (0,false)))
set_option maxHeartbeats 8000000 in
set_option maxRecDepth 100000 in
theorem spec_SumOfValues.calls (k:Nat) (A0:Option Addr) (c0:Nat) (l0:List Int) (A1:Option Addr) (c1:Nat) (l1:List Int) (r1:Int) (r2:Bool) (w:World) (hr0:Kd.C (Kd.int .i64) w A0 l0.length l0) (hc0:l0.length≤c0) (hr1:Kd.C (Kd.int .i64) w A1 l1.length l1) (hc1:l1.length≤c1) (h:spec_SumOfValues.f k l0 l1=some (r1,r2)) :
  Calls Try.prog 49 #[.slice A0 l0.length c0,.slice A1 l1.length c1] w fun e w'=>e=.returned (.tuple #[.int .i64 r1,.bool r2])∧Drawn0 w w':=by
 have HR0:=Aside0.mk hr0
 have HC0:=Aside0.mk hc0
 clear hr0 hc0
 have HR1:=Aside0.mk hr1
 have HC1:=Aside0.mk hc1
 clear hr1 hc1
 have H:((spec_vaGood.f k l0 (l0.length:Int)).bind fun t244=>(if t244=true then ((spec_l1Rising.f k l1 0 (wrap64 ((l0.length:Int) - 1))).bind fun t245=>(if t245=true then ((spec_vaSum.f k l0 l1).bind fun t246=>(some (t246,true))) else (some (0,false)))) else (some (0,false))))=some (r1,r2):=h
 clear h
 replace H:=Option.bind_eq_some_iff.mp H
 obtain ⟨t244,A30,H⟩:=H
 replace H:(if t244=true then ((spec_l1Rising.f k l1 0 (wrap64 ((l0.length:Int) - 1))).bind fun t245=>(if t245=true then ((spec_vaSum.f k l0 l1).bind fun t246=>(some (t246,true))) else (some (0,false)))) else (some (0,false)))=some (r1,r2):=H
 have A3:=Aside0.mk A30
 clear A30
 by_cases c4:t244=true
 ·subst c4
  have H1:((spec_l1Rising.f k l1 0 (wrap64 ((l0.length:Int) - 1))).bind fun t245=>(if t245=true then ((spec_vaSum.f k l0 l1).bind fun t246=>(some (t246,true))) else (some (0,false))))=some (r1,r2):=by rw [if_pos rfl] at H;exact H
  clear H
  have H:=H1
  clear H1
  replace H:=Option.bind_eq_some_iff.mp H
  obtain ⟨t245,A50,H⟩:=H
  replace H:(if t245=true then ((spec_vaSum.f k l0 l1).bind fun t246=>(some (t246,true))) else (some (0,false)))=some (r1,r2):=H
  have A5:=Aside0.mk A50
  clear A50
  by_cases c6:t245=true
  ·subst c6
   have H1:((spec_vaSum.f k l0 l1).bind fun t246=>(some (t246,true)))=some (r1,r2):=by rw [if_pos rfl] at H;exact H
   clear H
   have H:=H1
   clear H1
   replace H:=Option.bind_eq_some_iff.mp H
   obtain ⟨t246,A70,H⟩:=H
   replace H:(some (t246,true))=some (r1,r2):=H
   have A7:=Aside0.mk A70
   clear A70
   simp only [Option.some.injEq,Prod.mk.injEq] at H
   obtain ⟨rfl,rfl⟩:=H
   go_enter Try.func49,Try.ntmps49
   go_wp2_with (first|((with_reducible refine gate_callee (f:=100) rfl ?_);refine goesL_ (some 9) rfl rfl Try.func100 (by kernel_rfl) rfl #[.slice A0 l0.length c0,.int .i64 (l0.length:Int)] rfl (by (try simp only [List.map_toArray,List.map_cons,List.map_nil]);first|done|rfl|(simp only [List.length_drop,List.length_take];rfl)) ?_;(with_reducible refine (spec_vaGood.calls k _ _ l0 (l0.length:Int) true _ ?side1 ?side2 A3.out).mono ?_);(case side1=>repeat (first|exact HR0.out|(with_reducible refine Kd.C_alloc ?_ _)|(with_reducible refine Kd.C_drewN ?_ _)|(with_reducible refine Kd.C_drew ?_)));(case side2=>exact HC0.out);rintro e w' ⟨rfl,⟨nd,rfl⟩⟩;refine ⟨_,rfl,?_⟩)|(go_at_call 131;(with_reducible refine (spec_l1Rising.calls k _ _ l1 0 (wrap64 ((l0.length:Int) - 1)) true _ ?side1 ?side2 A5.out).mono ?_);(case side1=>repeat (first|exact HR1.out|(with_reducible refine Kd.C_alloc ?_ _)|(with_reducible refine Kd.C_drewN ?_ _)|(with_reducible refine Kd.C_drew ?_)));(case side2=>exact HC1.out);rintro e w' ⟨rfl,⟨nd,rfl⟩⟩)|((with_reducible refine gate_callee (f:=132) rfl ?_);refine goesL_ (some 21) rfl rfl Try.func132 (by kernel_rfl) rfl #[.slice A0 l0.length c0,.slice A1 l1.length c1] rfl (by (try simp only [List.map_toArray,List.map_cons,List.map_nil]);first|done|rfl|(simp only [List.length_drop,List.length_take];rfl)) ?_;(with_reducible refine (spec_vaSum.calls k _ _ l0 _ _ l1 t246 _ ?side1 ?side2 ?side3 ?side4 A7.out).mono ?_);(case side1=>repeat (first|exact HR0.out|(with_reducible refine Kd.C_alloc ?_ _)|(with_reducible refine Kd.C_drewN ?_ _)|(with_reducible refine Kd.C_drew ?_)));(case side2=>exact HC0.out);(case side3=>repeat (first|exact HR1.out|(with_reducible refine Kd.C_alloc ?_ _)|(with_reducible refine Kd.C_drewN ?_ _)|(with_reducible refine Kd.C_drew ?_)));(case side4=>exact HC1.out);rintro e w' ⟨rfl,⟨nd,rfl⟩⟩;refine ⟨_,rfl,?_⟩))
   go_ret2
   exact ⟨by first|rfl|(simp;done)|(simp [*];done),by repeat (first|exact Drawn0.refl _|apply Drawn0.step)⟩
  ·replace c6:=Bool.eq_false_iff.mpr c6
   subst c6
   have H1:(some (0,false))=some (r1,r2):=by rw [if_neg (show ¬ (false=true) by decide)] at H;exact H
   clear H
   have H:=H1
   clear H1
   simp only [Option.some.injEq,Prod.mk.injEq] at H
   obtain ⟨rfl,rfl⟩:=H
   go_enter Try.func49,Try.ntmps49
   go_wp2_with (first|((with_reducible refine gate_callee (f:=100) rfl ?_);refine goesL_ (some 9) rfl rfl Try.func100 (by kernel_rfl) rfl #[.slice A0 l0.length c0,.int .i64 (l0.length:Int)] rfl (by (try simp only [List.map_toArray,List.map_cons,List.map_nil]);first|done|rfl|(simp only [List.length_drop,List.length_take];rfl)) ?_;(with_reducible refine (spec_vaGood.calls k _ _ l0 (l0.length:Int) true _ ?side1 ?side2 A3.out).mono ?_);(case side1=>repeat (first|exact HR0.out|(with_reducible refine Kd.C_alloc ?_ _)|(with_reducible refine Kd.C_drewN ?_ _)|(with_reducible refine Kd.C_drew ?_)));(case side2=>exact HC0.out);rintro e w' ⟨rfl,⟨nd,rfl⟩⟩;refine ⟨_,rfl,?_⟩)|(go_at_call 131;(with_reducible refine (spec_l1Rising.calls k _ _ l1 0 (wrap64 ((l0.length:Int) - 1)) false _ ?side1 ?side2 A5.out).mono ?_);(case side1=>repeat (first|exact HR1.out|(with_reducible refine Kd.C_alloc ?_ _)|(with_reducible refine Kd.C_drewN ?_ _)|(with_reducible refine Kd.C_drew ?_)));(case side2=>exact HC1.out);rintro e w' ⟨rfl,⟨nd,rfl⟩⟩))
   go_ret2
   exact ⟨by first|rfl|(simp;done)|(simp [*];done),by repeat (first|exact Drawn0.refl _|apply Drawn0.step)⟩
 ·replace c4:=Bool.eq_false_iff.mpr c4
  subst c4
  have H1:(some (0,false))=some (r1,r2):=by rw [if_neg (show ¬ (false=true) by decide)] at H;exact H
  clear H
  have H:=H1
  clear H1
  simp only [Option.some.injEq,Prod.mk.injEq] at H
  obtain ⟨rfl,rfl⟩:=H
  go_enter Try.func49,Try.ntmps49
  go_wp2_with (first|((with_reducible refine gate_callee (f:=100) rfl ?_);refine goesL_ (some 9) rfl rfl Try.func100 (by kernel_rfl) rfl #[.slice A0 l0.length c0,.int .i64 (l0.length:Int)] rfl (by (try simp only [List.map_toArray,List.map_cons,List.map_nil]);first|done|rfl|(simp only [List.length_drop,List.length_take];rfl)) ?_;(with_reducible refine (spec_vaGood.calls k _ _ l0 (l0.length:Int) false _ ?side1 ?side2 A3.out).mono ?_);(case side1=>repeat (first|exact HR0.out|(with_reducible refine Kd.C_alloc ?_ _)|(with_reducible refine Kd.C_drewN ?_ _)|(with_reducible refine Kd.C_drew ?_)));(case side2=>exact HC0.out);rintro e w' ⟨rfl,⟨nd,rfl⟩⟩;refine ⟨_,rfl,?_⟩))
  go_ret2
  exact ⟨by first|rfl|(simp;done)|(simp [*];done),by repeat (first|exact Drawn0.refl _|apply Drawn0.step)⟩
end Go.Proofs.Ytomfjhpiemipkaa.PFnOre
end
section
namespace Go.Proofs.Ytomfjhpiemipkaa.PFnOre
open Go.RowKit Go.Proofs.YtomfjhpiemipkaaW.PrintWords Go.Proofs.YtomfjhpiemipkaaW.PrintLast Go.Proofs.YtomfjhpiemipkaaW.PrintMore
attribute [local go_sem] max2_int min2_int max_two min_two max_three min_three max_four min_four   -- for this text's walks alone
set_option linter.unusedVariables false
set_option linter.unusedSimpArgs false
def impl_OreBlocks.l0:Nat→List Int→List Int→Int→Int→Option (List Int × Bool)
 | 0,_,_,_,_=>none
 | k + 1,x4,x11,x12,x13=>if x13 < x12 then (if 0≤x13 then (if x13 < (x11.length:Int) then (if (rd x11 x13) > 0 then (if x4.length < 17592186044416 then (impl_OreBlocks.l0 k (x4 ++ [x13]) x11 x12 (wrap64 (x13 + 1))) else (none)) else (impl_OreBlocks.l0 k x4 x11 x12 (wrap64 (x13 + 1)))) else (none)) else (none)) else (some (x4,true))
def impl_OreBlocks.f (k:Nat) (l0:List Int):Option (List Int × Bool):=(impl_goodValues.f k l0).bind fun t262=>(if t262=true then (impl_OreBlocks.l0 k (([]:List Int)) l0 (l0.length:Int) 0) else (some (([]:List Int),false)))
set_option maxHeartbeats 8000000 in
set_option maxRecDepth 100000 in
theorem impl_OreBlocks.calls (k:Nat) (A0:Option Addr) (c0:Nat) (l0:List Int) (r1:List Int) (r2:Bool) (w:World) (hr0:Kd.C (Kd.int .i64) w A0 l0.length l0) (hc0:l0.length≤c0) (h:impl_OreBlocks.f k l0=some (r1,r2)) :
  Calls Try.prog 51 #[.slice A0 l0.length c0] w fun e w'=>∃ v0_:Value,e=.returned (.tuple #[v0_,.bool r2])∧Kd.R (Kd.int .i64) 3 w' w.heap.size (fun _=>True) v0_ r1∧Below w.heap.size w w':=by
 have HR0:=Aside0.mk hr0
 have HC0:=Aside0.mk hc0
 clear hr0 hc0
 have HB:=Aside0.mk (Below.refl w.heap.size w)
 have H:((impl_goodValues.f k l0).bind fun t262=>(if t262=true then (impl_OreBlocks.l0 k (([]:List Int)) l0 (l0.length:Int) 0) else (some (([]:List Int),false))))=some (r1,r2):=h
 clear h
 replace H:=Option.bind_eq_some_iff.mp H
 obtain ⟨t262,A20,H⟩:=H
 replace H:(if t262=true then (impl_OreBlocks.l0 k (([]:List Int)) l0 (l0.length:Int) 0) else (some (([]:List Int),false)))=some (r1,r2):=H
 have A2:=Aside0.mk A20
 clear A20
 by_cases c3:t262=true
 ·subst c3
  have H1:(impl_OreBlocks.l0 k (([]:List Int)) l0 (l0.length:Int) 0)=some (r1,r2):=by rw [if_pos rfl] at H;exact H
  clear H
  have H:=H1
  clear H1
  obtain ⟨y263,hy263⟩:∃ y_:List Int,y_=(([]:List Int)):=⟨_,rfl⟩
  replace H:(impl_OreBlocks.l0 k y263 l0 (l0.length:Int) 0)=some (r1,r2):=by first|(rw [hy263];with_reducible exact H)|(have H2_:=(Option.bind_some _ _).symm.trans H;rw [hy263];with_reducible exact H2_)|(have H2_:=(Option.bind_some _ _).symm.trans H;with_reducible exact H2_)|with_reducible exact H|(rw [hy263];exact H)|exact H
  have Ny263:=Aside0.mk hy263
  clear hy263
  have H':=Aside0.mk H
  clear H
  go_enter Try.func51,Try.ntmps51
  go_wp2_with (first|((with_reducible refine gate_callee (f:=102) rfl ?_);refine goesL_ (some 8) rfl rfl Try.func102 (by kernel_rfl) rfl #[.slice A0 l0.length c0] rfl (by (try simp only [List.map_toArray,List.map_cons,List.map_nil]);first|done|rfl|(simp only [List.length_drop,List.length_take];rfl)) ?_;(with_reducible refine (impl_goodValues.calls k _ _ l0 true _ ?side1 ?side2 A2.out).mono ?_);(case side1=>repeat (first|exact HR0.out|(with_reducible refine Kd.C_alloc ?_ _)|(with_reducible refine Kd.C_drewN ?_ _)|(with_reducible refine Kd.C_drew ?_)));(case side2=>exact HC0.out);rintro e w' ⟨rfl,⟨nd,rfl⟩⟩;refine ⟨_,rfl,?_⟩)|((with_reducible refine gate_dst (N:=10) rfl ?_);refine Kd.R_lit (Kd.int .i64) _ 3 ?hg (N:=10) ?hd (xs:=([]:List Int)) (inner:=[]) (ok:=fun _=>True) (okp:=fun _=>True) ?hr ?hp (fun _ hk=>hk) trivial (Below.refl _ _) (Nat.le_refl _) (by simp) ?_;(case hd=>rfl);(case hg=>rfl);(case hr=>first|(go_simp;done)|(go_simp;rfl));(case hp=>exact (Reps.none _ _));intro v264 w4 ho5 hb hg_ hnew_;clear hg_ hnew_;(first|rw [← Ny263.out] at ho5|(simp only [Int.reduceToNat] at ho5;rw [← Ny263.out] at ho5));have n0_:=Aside0.mk (Kd.R_lower ho5 (below_size (by repeat (first|(with_reducible first|exact HB.out|apply below_alloc|apply pw_below_drewN|apply below_drew1)|exact HB.out))));have n1_:=Aside0.mk (below_step (by repeat (first|(with_reducible first|exact HB.out|apply below_alloc|apply pw_below_drewN|apply below_drew1)|exact HB.out)) hb);clear HB;have HO265:=n0_;have HB:=n1_;clear n0_ n1_;clear hb ho5))
  go_loopg [4,13] k (fun kq v4 v13 w'=>∃ (x4_1:List Int) (x13_1:Int),v13=.int .i64 x13_1∧Aside0 (impl_OreBlocks.l0 kq x4_1 l0 (l0.length:Int) x13_1=some (r1,r2))∧Aside0 (kq≤k)∧Aside0 (Kd.R (Kd.int .i64) 3 w' w.heap.size (fun _=>True) v4 x4_1)∧Aside0 (Below w.heap.size w w'))
  case atStart=>exact ⟨(y263),(0),(by first|rfl|(simp;done)|(simp [*];done)),H',⟨Nat.le_refl _⟩,⟨by (with_reducible repeat (first|apply Kd.R_alloc|apply Kd.R_drewN|apply Kd.R_drew));exact HO265.out⟩,⟨by repeat (first|(with_reducible first|exact HB.out|apply below_alloc|apply pw_below_drewN|apply below_drew1)|exact HB.out)⟩⟩
  case round =>
   clear H'
   try clear c1
   try clear p2
   try clear c3
   try clear c5
   obtain ⟨x4_1,x13_1,rfl,HA,HK1,HO_4,HB⟩:=hrel
   cases gk with
   | zero=>exact absurd HA.out (by simp [impl_OreBlocks.l0])
   | succ k1 =>
    have H:=HA.out
    clear HA
    simp only [impl_OreBlocks.l0] at H
    by_cases c6:x13_1 < (l0.length:Int)
    ·rw [if_pos c6] at H
     have c6b0:decide (x13_1 < (l0.length:Int))=true:=decide_eq_true c6
     clear c6
     by_cases c7:0≤x13_1
     ·rw [if_pos c7] at H
      have c7b0:decide (0≤x13_1)=true:=decide_eq_true c7
      clear c7
      by_cases c8:x13_1 < (l0.length:Int)
      ·rw [if_pos c8] at H
       have c8b0:decide (x13_1 < (l0.length:Int))=true:=decide_eq_true c8
       clear c8
       by_cases c9:(rd l0 x13_1) > 0
       ·rw [if_pos c9] at H
        have c9b0:decide (0 < (rd l0 x13_1))=true:=decide_eq_true c9
        clear c9
        by_cases c10:x4_1.length < 17592186044416
        ·rw [if_pos c10] at H
         have LMc10:=Aside0.mk c10
         clear c10
         obtain ⟨y267,hy267⟩:∃ y_:List Int,y_=(x4_1 ++ [x13_1]):=⟨_,rfl⟩
         replace H:(impl_OreBlocks.l0 k1 y267 l0 (l0.length:Int) (wrap64 (x13_1 + 1)))=some (r1,r2):=by first|(rw [hy267];with_reducible exact H)|(have H2_:=(Option.bind_some _ _).symm.trans H;rw [hy267];with_reducible exact H2_)|(have H2_:=(Option.bind_some _ _).symm.trans H;with_reducible exact H2_)|with_reducible exact H|(rw [hy267];exact H)|exact H
         have Ny267:=Aside0.mk hy267
         clear hy267
         have H':=Aside0.mk H
         clear H
         have p266:0≤(x13_1:Int):=of_decide_eq_true (by first|(with_reducible assumption)|assumption)
         have q266:x13_1 < (l0.length:Int):=of_decide_eq_true (by first|(with_reducible assumption)|assumption)
         obtain ⟨ad266,e266,hx266_0⟩:=Kd.at_int HR0.out x13_1 p266 q266
         cases e266
         replace hx266_0:=(HB.out.cell (World.block_lt_of_cell? w _ hx266_0)).trans hx266_0
         replace p266:=eq_true p266
         replace q266:=eq_true q266
         go_wp2_with (first|((with_reducible refine gate_builtin (b:=.append) (xs:=#[.tmp 20,.tmp 22]) rfl ?_);at_builtin;refine Kd.R_append (Kd.int .i64) (w0:=w) w.heap.size rfl (.tmp 20) (.tmp 22) 24 3 (.int .i64 0) 8 rfl Try.underlying24 info3 rfl (by decide) (by omega) u4 x4_1 x13_1 [.int .i64 x13_1] (fun _=>True) (fun _=>False) rfl rfl ?aP (fun _ hk=>hk.elim) ?aF ?aO ?aB ?aS ?aL ?_;(case aP=>exact rfl);(case aB=>exact (by repeat (first|(with_reducible first|exact HB.out|apply below_alloc|apply pw_below_drewN|apply below_drew1)|exact HB.out)));(case aF=>exact (fun _ _=>trivial));(case aO=>exact (by (with_reducible repeat (first|apply Kd.R_alloc|apply Kd.R_drewN|apply Kd.R_drew));exact HO_4.out));(case aS=>exact (below_size (by repeat (first|(with_reducible first|exact HB.out|apply below_alloc|apply pw_below_drewN|apply below_drew1)|exact HB.out))));(case aL=>have:=LMc10.out;omega);intro v268 w11 ho hb hg hat;rw [← Ny267.out] at ho;have n0_:=Aside0.mk (hb);have n1_:=Aside0.mk (ho);clear HB;clear HO_4;have HB:=n0_;have HO269:=n1_;clear n0_ n1_;clear ho hb hg hat))
         go_roundg k1
         case measure=>have:=HK1.out;omega
         case rel=>exact ⟨(y267),(wrap64 (x13_1 + 1)),(by first|rfl|(simp;done)|(simp [*];done)),H',⟨by have:=HK1.out;omega⟩,⟨by (with_reducible repeat (first|apply Kd.R_alloc|apply Kd.R_drewN|apply Kd.R_drew));exact HO269.out⟩,⟨by repeat (first|(with_reducible first|exact HB.out|apply below_alloc|apply pw_below_drewN|apply below_drew1)|exact HB.out)⟩⟩
        ·rw [if_neg c10] at H
         exact absurd H (by simp)
       ·rw [if_neg c9] at H
        have c9b0:decide (0 < (rd l0 x13_1))=false:=decide_eq_false c9
        clear c9
        have H':=Aside0.mk H
        clear H
        have p266:0≤(x13_1:Int):=of_decide_eq_true (by first|(with_reducible assumption)|assumption)
        have q266:x13_1 < (l0.length:Int):=of_decide_eq_true (by first|(with_reducible assumption)|assumption)
        obtain ⟨ad266,e266,hx266_0⟩:=Kd.at_int HR0.out x13_1 p266 q266
        cases e266
        replace hx266_0:=(HB.out.cell (World.block_lt_of_cell? w _ hx266_0)).trans hx266_0
        replace p266:=eq_true p266
        replace q266:=eq_true q266
        go_wp2
        go_roundg k1
        case measure=>have:=HK1.out;omega
        case rel=>exact ⟨(x4_1),(wrap64 (x13_1 + 1)),(by first|rfl|(simp;done)|(simp [*];done)),H',⟨by have:=HK1.out;omega⟩,⟨by (with_reducible repeat (first|apply Kd.R_alloc|apply Kd.R_drewN|apply Kd.R_drew));exact HO_4.out⟩,⟨by repeat (first|(with_reducible first|exact HB.out|apply below_alloc|apply pw_below_drewN|apply below_drew1)|exact HB.out)⟩⟩
      ·rw [if_neg c8] at H
       exact absurd H (by simp)
     ·rw [if_neg c7] at H
      exact absurd H (by simp)
    ·rw [if_neg c6] at H
     have c6b0:decide (x13_1 < (l0.length:Int))=false:=decide_eq_false c6
     clear c6
     simp only [Option.some.injEq,Prod.mk.injEq] at H
     obtain ⟨rfl,rfl⟩:=H
     go_wp2
     go_ret2
     exact ⟨_,by first|rfl|(simp [errW_none,errW_some] <;> rfl)|(simp [*,errW_none,errW_some] <;> rfl),by (with_reducible repeat (first|apply Kd.R_alloc|apply Kd.R_drewN|apply Kd.R_drew));exact HO_4.out,by repeat (first|(with_reducible first|exact HB.out|apply below_alloc|apply pw_below_drewN|apply below_drew1)|exact HB.out)⟩
 ·replace c3:=Bool.eq_false_iff.mpr c3
  subst c3
  have H1:(some (([]:List Int),false))=some (r1,r2):=by rw [if_neg (show ¬ (false=true) by decide)] at H;exact H
  clear H
  have H:=H1
  clear H1
  simp only [Option.some.injEq,Prod.mk.injEq] at H
  obtain ⟨rfl,rfl⟩:=H
  go_enter Try.func51,Try.ntmps51
  go_wp2_with (first|((with_reducible refine gate_callee (f:=102) rfl ?_);refine goesL_ (some 8) rfl rfl Try.func102 (by kernel_rfl) rfl #[.slice A0 l0.length c0] rfl (by (try simp only [List.map_toArray,List.map_cons,List.map_nil]);first|done|rfl|(simp only [List.length_drop,List.length_take];rfl)) ?_;(with_reducible refine (impl_goodValues.calls k _ _ l0 false _ ?side1 ?side2 A2.out).mono ?_);(case side1=>repeat (first|exact HR0.out|(with_reducible refine Kd.C_alloc ?_ _)|(with_reducible refine Kd.C_drewN ?_ _)|(with_reducible refine Kd.C_drew ?_)));(case side2=>exact HC0.out);rintro e w' ⟨rfl,⟨nd,rfl⟩⟩;refine ⟨_,rfl,?_⟩))
  go_ret2
  exact ⟨_,by first|rfl|(simp [errW_none,errW_some] <;> rfl)|(simp [*,errW_none,errW_some] <;> rfl),by first|exact Kd.R_nil _ _ _ _ _|exact Kd.N_nil _ _ _ _ _|exact Kd.V_nil _ _ _ _ _|exact Kd.Q_nil _ _ _ _ _|exact Kd.S_nil _ _ _ _ _,by repeat (first|(with_reducible first|exact HB.out|apply below_alloc|apply pw_below_drewN|apply below_drew1)|exact HB.out)⟩
end Go.Proofs.Ytomfjhpiemipkaa.PFnOre
end
section
namespace Go.Proofs.Ytomfjhpiemipkaa.PFnOre
open Go.RowKit Go.Proofs.YtomfjhpiemipkaaW.PrintWords Go.Proofs.YtomfjhpiemipkaaW.PrintLast Go.Proofs.YtomfjhpiemipkaaW.PrintMore
attribute [local go_sem] max2_int min2_int max_two min_two max_three min_three max_four min_four   -- for this text's walks alone
set_option linter.unusedVariables false
set_option linter.unusedSimpArgs false
def spec_vaOre.l0:Nat→List Int→List Int→Int→Int→Option (List Int)
 | 0,_,_,_,_=>none
 | k + 1,x3,x6,x7,x8=>if x8 < x7 then (if 0≤x8 then (if x8 < (x6.length:Int) then (if (rd x6 x8) > 0 then (if x3.length < 17592186044416 then (spec_vaOre.l0 k (x3 ++ [x8]) x6 x7 (wrap64 (x8 + 1))) else (none)) else (spec_vaOre.l0 k x3 x6 x7 (wrap64 (x8 + 1)))) else (none)) else (none)) else (some x3)
def spec_vaOre.f (k:Nat) (l0:List Int):Option (List Int):=spec_vaOre.l0 k ([]:List Int) l0 (l0.length:Int) 0
set_option maxHeartbeats 8000000 in
set_option maxRecDepth 100000 in
theorem spec_vaOre.calls (k:Nat) (A0:Option Addr) (c0:Nat) (l0:List Int) (r:List Int) (w:World) (hr0:Kd.C (Kd.int .i64) w A0 l0.length l0) (hc0:l0.length≤c0) (h:spec_vaOre.f k l0=some r) :
  Calls Try.prog 133 #[.slice A0 l0.length c0] w fun e w'=>∃ v0_:Value,e=.returned (v0_)∧Kd.R (Kd.int .i64) 3 w' w.heap.size (fun _=>True) v0_ r∧Below w.heap.size w w':=by
 have HR0:=Aside0.mk hr0
 have HC0:=Aside0.mk hc0
 clear hr0 hc0
 have HB:=Aside0.mk (Below.refl w.heap.size w)
 have H:(spec_vaOre.l0 k ([]:List Int) l0 (l0.length:Int) 0)=some r:=h
 clear h
 have H':=Aside0.mk H
 clear H
 go_enter Try.func133,Try.ntmps133
 go_wp2
 go_loopg [3,8] k (fun kq v3 v8 w'=>∃ (x3_1:List Int) (x8_1:Int),v8=.int .i64 x8_1∧Aside0 (spec_vaOre.l0 kq x3_1 l0 (l0.length:Int) x8_1=some r)∧Aside0 (kq≤k)∧Aside0 (Kd.R (Kd.int .i64) 3 w' w.heap.size (fun _=>True) v3 x3_1)∧Aside0 (Below w.heap.size w w'))
 case atStart=>exact ⟨(([]:List Int)),(0),(by first|rfl|(simp;done)|(simp [*];done)),H',⟨Nat.le_refl _⟩,⟨by first|exact Kd.R_nil _ _ _ _ _|exact Kd.N_nil _ _ _ _ _|exact Kd.V_nil _ _ _ _ _|exact Kd.Q_nil _ _ _ _ _|exact Kd.S_nil _ _ _ _ _⟩,⟨by repeat (first|(with_reducible first|exact HB.out|apply below_alloc|apply pw_below_drewN|apply below_drew1)|exact HB.out)⟩⟩
 case round =>
  clear H'
  try clear c1
  obtain ⟨x3_1,x8_1,rfl,HA,HK1,HO_3,HB⟩:=hrel
  cases gk with
  | zero=>exact absurd HA.out (by simp [spec_vaOre.l0])
  | succ k1 =>
   have H:=HA.out
   clear HA
   simp only [spec_vaOre.l0] at H
   by_cases c2:x8_1 < (l0.length:Int)
   ·rw [if_pos c2] at H
    have c2b0:decide (x8_1 < (l0.length:Int))=true:=decide_eq_true c2
    clear c2
    by_cases c3:0≤x8_1
    ·rw [if_pos c3] at H
     have c3b0:decide (0≤x8_1)=true:=decide_eq_true c3
     clear c3
     by_cases c4:x8_1 < (l0.length:Int)
     ·rw [if_pos c4] at H
      have c4b0:decide (x8_1 < (l0.length:Int))=true:=decide_eq_true c4
      clear c4
      by_cases c5:(rd l0 x8_1) > 0
      ·rw [if_pos c5] at H
       have c5b0:decide (0 < (rd l0 x8_1))=true:=decide_eq_true c5
       clear c5
       by_cases c6:x3_1.length < 17592186044416
       ·rw [if_pos c6] at H
        have LMc6:=Aside0.mk c6
        clear c6
        obtain ⟨y271,hy271⟩:∃ y_:List Int,y_=(x3_1 ++ [x8_1]):=⟨_,rfl⟩
        replace H:(spec_vaOre.l0 k1 y271 l0 (l0.length:Int) (wrap64 (x8_1 + 1)))=some r:=by first|(rw [hy271];with_reducible exact H)|(have H2_:=(Option.bind_some _ _).symm.trans H;rw [hy271];with_reducible exact H2_)|(have H2_:=(Option.bind_some _ _).symm.trans H;with_reducible exact H2_)|with_reducible exact H|(rw [hy271];exact H)|exact H
        have Ny271:=Aside0.mk hy271
        clear hy271
        have H':=Aside0.mk H
        clear H
        have p270:0≤(x8_1:Int):=of_decide_eq_true (by first|(with_reducible assumption)|assumption)
        have q270:x8_1 < (l0.length:Int):=of_decide_eq_true (by first|(with_reducible assumption)|assumption)
        obtain ⟨ad270,e270,hx270_0⟩:=Kd.at_int HR0.out x8_1 p270 q270
        cases e270
        replace hx270_0:=(HB.out.cell (World.block_lt_of_cell? w _ hx270_0)).trans hx270_0
        replace p270:=eq_true p270
        replace q270:=eq_true q270
        go_wp2_with (first|((with_reducible refine gate_builtin (b:=.append) (xs:=#[.tmp 15,.tmp 17]) rfl ?_);at_builtin;refine Kd.R_append (Kd.int .i64) (w0:=w) w.heap.size rfl (.tmp 15) (.tmp 17) 24 3 (.int .i64 0) 8 rfl Try.underlying24 info3 rfl (by decide) (by omega) u3 x3_1 x8_1 [.int .i64 x8_1] (fun _=>True) (fun _=>False) rfl rfl ?aP (fun _ hk=>hk.elim) ?aF ?aO ?aB ?aS ?aL ?_;(case aP=>exact rfl);(case aB=>exact (by repeat (first|(with_reducible first|exact HB.out|apply below_alloc|apply pw_below_drewN|apply below_drew1)|exact HB.out)));(case aF=>exact (fun _ _=>trivial));(case aO=>exact (by (with_reducible repeat (first|apply Kd.R_alloc|apply Kd.R_drewN|apply Kd.R_drew));exact HO_3.out));(case aS=>exact (below_size (by repeat (first|(with_reducible first|exact HB.out|apply below_alloc|apply pw_below_drewN|apply below_drew1)|exact HB.out))));(case aL=>have:=LMc6.out;omega);intro v272 w7 ho hb hg hat;rw [← Ny271.out] at ho;have n0_:=Aside0.mk (hb);have n1_:=Aside0.mk (ho);clear HB;clear HO_3;have HB:=n0_;have HO273:=n1_;clear n0_ n1_;clear ho hb hg hat))
        go_roundg k1
        case measure=>have:=HK1.out;omega
        case rel=>exact ⟨(y271),(wrap64 (x8_1 + 1)),(by first|rfl|(simp;done)|(simp [*];done)),H',⟨by have:=HK1.out;omega⟩,⟨by (with_reducible repeat (first|apply Kd.R_alloc|apply Kd.R_drewN|apply Kd.R_drew));exact HO273.out⟩,⟨by repeat (first|(with_reducible first|exact HB.out|apply below_alloc|apply pw_below_drewN|apply below_drew1)|exact HB.out)⟩⟩
       ·rw [if_neg c6] at H
        exact absurd H (by simp)
      ·rw [if_neg c5] at H
       have c5b0:decide (0 < (rd l0 x8_1))=false:=decide_eq_false c5
       clear c5
       have H':=Aside0.mk H
       clear H
       have p270:0≤(x8_1:Int):=of_decide_eq_true (by first|(with_reducible assumption)|assumption)
       have q270:x8_1 < (l0.length:Int):=of_decide_eq_true (by first|(with_reducible assumption)|assumption)
       obtain ⟨ad270,e270,hx270_0⟩:=Kd.at_int HR0.out x8_1 p270 q270
       cases e270
       replace hx270_0:=(HB.out.cell (World.block_lt_of_cell? w _ hx270_0)).trans hx270_0
       replace p270:=eq_true p270
       replace q270:=eq_true q270
       go_wp2
       go_roundg k1
       case measure=>have:=HK1.out;omega
       case rel=>exact ⟨(x3_1),(wrap64 (x8_1 + 1)),(by first|rfl|(simp;done)|(simp [*];done)),H',⟨by have:=HK1.out;omega⟩,⟨by (with_reducible repeat (first|apply Kd.R_alloc|apply Kd.R_drewN|apply Kd.R_drew));exact HO_3.out⟩,⟨by repeat (first|(with_reducible first|exact HB.out|apply below_alloc|apply pw_below_drewN|apply below_drew1)|exact HB.out)⟩⟩
     ·rw [if_neg c4] at H
      exact absurd H (by simp)
    ·rw [if_neg c3] at H
     exact absurd H (by simp)
   ·rw [if_neg c2] at H
    have c2b0:decide (x8_1 < (l0.length:Int))=false:=decide_eq_false c2
    clear c2
    obtain rfl:=Option.some.inj H
    go_wp2
    go_ret
    exact ⟨_,by first|rfl|(simp [errW_none,errW_some] <;> rfl)|(simp [*,errW_none,errW_some] <;> rfl),by (with_reducible repeat (first|apply Kd.R_alloc|apply Kd.R_drewN|apply Kd.R_drew));exact HO_3.out,by repeat (first|(with_reducible first|exact HB.out|apply below_alloc|apply pw_below_drewN|apply below_drew1)|exact HB.out)⟩
end Go.Proofs.Ytomfjhpiemipkaa.PFnOre
end
section
namespace Go.Proofs.Ytomfjhpiemipkaa.PFnOre
open Go.RowKit Go.Proofs.YtomfjhpiemipkaaW.PrintWords Go.Proofs.YtomfjhpiemipkaaW.PrintLast Go.Proofs.YtomfjhpiemipkaaW.PrintMore
attribute [local go_sem] max2_int min2_int max_two min_two max_three min_three max_four min_four   -- for this text's walks alone
set_option linter.unusedVariables false
set_option linter.unusedSimpArgs false
def spec_OreBlocks.f (k:Nat) (l0:List Int):Option (List Int × Bool):=(spec_vaGood.f k l0 (l0.length:Int)).bind fun t274=>(if t274=true then ((spec_vaOre.f k l0).bind fun t275=>(some (t275,true))) else (some (([]:List Int),false)))
set_option maxHeartbeats 8000000 in
set_option maxRecDepth 100000 in
theorem spec_OreBlocks.calls (k:Nat) (A0:Option Addr) (c0:Nat) (l0:List Int) (r1:List Int) (r2:Bool) (w:World) (hr0:Kd.C (Kd.int .i64) w A0 l0.length l0) (hc0:l0.length≤c0) (h:spec_OreBlocks.f k l0=some (r1,r2)) :
  Calls Try.prog 52 #[.slice A0 l0.length c0] w fun e w'=>∃ v0_:Value,e=.returned (.tuple #[v0_,.bool r2])∧Kd.R (Kd.int .i64) 3 w' w.heap.size (fun _=>True) v0_ r1∧Below w.heap.size w w':=by
 have HR0:=Aside0.mk hr0
 have HC0:=Aside0.mk hc0
 clear hr0 hc0
 have HB:=Aside0.mk (Below.refl w.heap.size w)
 have H:((spec_vaGood.f k l0 (l0.length:Int)).bind fun t274=>(if t274=true then ((spec_vaOre.f k l0).bind fun t275=>(some (t275,true))) else (some (([]:List Int),false))))=some (r1,r2):=h
 clear h
 replace H:=Option.bind_eq_some_iff.mp H
 obtain ⟨t274,A20,H⟩:=H
 replace H:(if t274=true then ((spec_vaOre.f k l0).bind fun t275=>(some (t275,true))) else (some (([]:List Int),false)))=some (r1,r2):=H
 have A2:=Aside0.mk A20
 clear A20
 by_cases c3:t274=true
 ·subst c3
  have H1:((spec_vaOre.f k l0).bind fun t275=>(some (t275,true)))=some (r1,r2):=by rw [if_pos rfl] at H;exact H
  clear H
  have H:=H1
  clear H1
  replace H:=Option.bind_eq_some_iff.mp H
  obtain ⟨t275,A40,H⟩:=H
  replace H:(some (t275,true))=some (r1,r2):=H
  have A4:=Aside0.mk A40
  clear A40
  simp only [Option.some.injEq,Prod.mk.injEq] at H
  obtain ⟨rfl,rfl⟩:=H
  go_enter Try.func52,Try.ntmps52
  go_wp2_with (first|((with_reducible refine gate_callee (f:=100) rfl ?_);refine goesL_ (some 7) rfl rfl Try.func100 (by kernel_rfl) rfl #[.slice A0 l0.length c0,.int .i64 (l0.length:Int)] rfl (by (try simp only [List.map_toArray,List.map_cons,List.map_nil]);first|done|rfl|(simp only [List.length_drop,List.length_take];rfl)) ?_;(with_reducible refine (spec_vaGood.calls k _ _ l0 (l0.length:Int) true _ ?side1 ?side2 A2.out).mono ?_);(case side1=>repeat (first|exact HR0.out|(with_reducible refine Kd.C_alloc ?_ _)|(with_reducible refine Kd.C_drewN ?_ _)|(with_reducible refine Kd.C_drew ?_)));(case side2=>exact HC0.out);rintro e w' ⟨rfl,⟨nd,rfl⟩⟩;refine ⟨_,rfl,?_⟩)|((with_reducible refine gate_callee (f:=133) rfl ?_);refine goesL_ (some 10) rfl rfl Try.func133 (by kernel_rfl) rfl #[.slice A0 l0.length c0] rfl (by (try simp only [List.map_toArray,List.map_cons,List.map_nil]);first|done|rfl|(simp only [List.length_drop,List.length_take];rfl)) ?_;(with_reducible refine (spec_vaOre.calls k _ _ l0 t275 _ ?side1 ?side2 A4.out).mono ?_);(case side1=>repeat (first|exact HR0.out|(with_reducible refine Kd.C_alloc ?_ _)|(with_reducible refine Kd.C_drewN ?_ _)|(with_reducible refine Kd.C_drew ?_)));(case side2=>exact HC0.out);rintro e w5 ⟨v276,rfl,ho0,hb⟩;refine ⟨_,rfl,?_⟩;have n0_:=Aside0.mk (Kd.R_lower ho0 (below_size (by repeat (first|(with_reducible first|exact HB.out|apply below_alloc|apply pw_below_drewN|apply below_drew1)|exact HB.out))));have n1_:=Aside0.mk (below_step (by repeat (first|(with_reducible first|exact HB.out|apply below_alloc|apply pw_below_drewN|apply below_drew1)|exact HB.out)) hb);clear HB;have HO277:=n0_;have HB:=n1_;clear n0_ n1_;(try clear hb);(try clear hb2);(try clear hk);(try clear hi);(try clear ho0)))
  go_ret2
  exact ⟨_,by first|rfl|(simp [errW_none,errW_some] <;> rfl)|(simp [*,errW_none,errW_some] <;> rfl),by (with_reducible repeat (first|apply Kd.R_alloc|apply Kd.R_drewN|apply Kd.R_drew));exact HO277.out,by repeat (first|(with_reducible first|exact HB.out|apply below_alloc|apply pw_below_drewN|apply below_drew1)|exact HB.out)⟩
 ·replace c3:=Bool.eq_false_iff.mpr c3
  subst c3
  have H1:(some (([]:List Int),false))=some (r1,r2):=by rw [if_neg (show ¬ (false=true) by decide)] at H;exact H
  clear H
  have H:=H1
  clear H1
  simp only [Option.some.injEq,Prod.mk.injEq] at H
  obtain ⟨rfl,rfl⟩:=H
  go_enter Try.func52,Try.ntmps52
  go_wp2_with (first|((with_reducible refine gate_callee (f:=100) rfl ?_);refine goesL_ (some 7) rfl rfl Try.func100 (by kernel_rfl) rfl #[.slice A0 l0.length c0,.int .i64 (l0.length:Int)] rfl (by (try simp only [List.map_toArray,List.map_cons,List.map_nil]);first|done|rfl|(simp only [List.length_drop,List.length_take];rfl)) ?_;(with_reducible refine (spec_vaGood.calls k _ _ l0 (l0.length:Int) false _ ?side1 ?side2 A2.out).mono ?_);(case side1=>repeat (first|exact HR0.out|(with_reducible refine Kd.C_alloc ?_ _)|(with_reducible refine Kd.C_drewN ?_ _)|(with_reducible refine Kd.C_drew ?_)));(case side2=>exact HC0.out);rintro e w' ⟨rfl,⟨nd,rfl⟩⟩;refine ⟨_,rfl,?_⟩))
  go_ret2
  exact ⟨_,by first|rfl|(simp [errW_none,errW_some] <;> rfl)|(simp [*,errW_none,errW_some] <;> rfl),by first|exact Kd.R_nil _ _ _ _ _|exact Kd.N_nil _ _ _ _ _|exact Kd.V_nil _ _ _ _ _|exact Kd.Q_nil _ _ _ _ _|exact Kd.S_nil _ _ _ _ _,by repeat (first|(with_reducible first|exact HB.out|apply below_alloc|apply pw_below_drewN|apply below_drew1)|exact HB.out)⟩
end Go.Proofs.Ytomfjhpiemipkaa.PFnOre
end
section
namespace Go.Proofs.Ytomfjhpiemipkaa.PFnOre
open Go.RowKit Go.Proofs.YtomfjhpiemipkaaW.PrintWords Go.Proofs.YtomfjhpiemipkaaW.PrintLast Go.Proofs.YtomfjhpiemipkaaW.PrintMore
attribute [local go_sem] max2_int min2_int max_two min_two max_three min_three max_four min_four   -- for this text's walks alone
set_option linter.unusedVariables false
set_option linter.unusedSimpArgs false
def impl_IsGrid.f (a0_0:Int) (a0_1:Int) (a0_2:Int):Option (Bool):=if a0_0 ≥ 1 then (if a0_0≤8 then (if a0_1 ≥ 1 then (if a0_1≤6 then (if a0_2 ≥ 1 then (if a0_2≤5 then (some (decide ((wrap64 ((wrap64 (a0_0 * a0_1)) * a0_2))≤120))) else (some false)) else (some false)) else (some false)) else (some false)) else (some false)) else (some false)
set_option maxHeartbeats 8000000 in
set_option maxRecDepth 100000 in
theorem impl_IsGrid.calls (a0_0:Int) (a0_1:Int) (a0_2:Int) (r:Bool) (w:World) (h:impl_IsGrid.f a0_0 a0_1 a0_2=some r) :
  Calls Try.prog 112 #[.agg #[.int .i64 a0_0,.int .i64 a0_1,.int .i64 a0_2]] w fun e w'=>e=.returned (.bool r)∧Below w.heap.size w w':=by
 have hu32:=Try.underlying32
 have HB:=Aside0.mk (Below.refl w.heap.size w)
 have H:(if a0_0 ≥ 1 then (if a0_0≤8 then (if a0_1 ≥ 1 then (if a0_1≤6 then (if a0_2 ≥ 1 then (if a0_2≤5 then (some (decide ((wrap64 ((wrap64 (a0_0 * a0_1)) * a0_2))≤120))) else (some false)) else (some false)) else (some false)) else (some false)) else (some false)) else (some false))=some r:=h
 clear h
 by_cases c2:a0_0 ≥ 1
 ·rw [if_pos c2] at H
  have c2b0:decide (1≤a0_0)=true:=decide_eq_true c2
  clear c2
  by_cases c3:a0_0≤8
  ·rw [if_pos c3] at H
   have c3b0:decide (a0_0≤8)=true:=decide_eq_true c3
   clear c3
   by_cases c4:a0_1 ≥ 1
   ·rw [if_pos c4] at H
    have c4b0:decide (1≤a0_1)=true:=decide_eq_true c4
    clear c4
    by_cases c5:a0_1≤6
    ·rw [if_pos c5] at H
     have c5b0:decide (a0_1≤6)=true:=decide_eq_true c5
     clear c5
     by_cases c6:a0_2 ≥ 1
     ·rw [if_pos c6] at H
      have c6b0:decide (1≤a0_2)=true:=decide_eq_true c6
      clear c6
      by_cases c7:a0_2≤5
      ·rw [if_pos c7] at H
       have c7b0:decide (a0_2≤5)=true:=decide_eq_true c7
       clear c7
       obtain rfl:=Option.some.inj H
       go_enter Try.func112,Try.ntmps112
       go_wp2_with (first|((with_reducible refine gate_dst (N:=1) rfl ?_);refine box_event ?hg (N:=1) ?hd (cs:=#[.int .i64 a0_0,.int .i64 a0_1,.int .i64 a0_2]) (t:=32) ?hr ?_;(case hd=>rfl);(case hg=>rfl);(case hr=>first|(go_simp;done)|(go_simp;rfl));intro gb132 hg w8 hbox hb;have n0_:=Aside0.mk (below_step (by repeat (first|(with_reducible first|exact HB.out|apply below_alloc|apply pw_below_drewN|apply below_drew1)|exact HB.out)) hb);have n1_:=Aside0.mk (hbox);have n2_:=Aside0.mk ((by rw [hg];exact (below_size (by repeat (first|(with_reducible first|exact HB.out|apply below_alloc|apply pw_below_drewN|apply below_drew1)|exact HB.out))):w.heap.size≤gb132));have n3_:=Aside0.mk ((by rw [hg];exact (below_size (by repeat (first|(with_reducible first|exact HB.out|apply below_alloc|apply pw_below_drewN|apply below_drew1)|exact HB.out))):w.heap.size≤gb132));clear HB;have HB:=n0_;have BK132:=n1_;have GW132:=n2_;have GE132:=n3_;clear n0_ n1_ n2_ n3_;clear hb hbox hg;have hcz9_0:w8.cell? ⟨gb132,0,none⟩=some (.int .i64 a0_0):=(blk_cell BK132.out 0).trans rfl;have hcz9_1:w8.cell? ⟨gb132,1,none⟩=some (.int .i64 a0_1):=(blk_cell BK132.out 1).trans rfl;have hcz9_2:w8.cell? ⟨gb132,2,none⟩=some (.int .i64 a0_2):=(blk_cell BK132.out 2).trans rfl;have hfz9_0:=blk_frozen BK132.out 0;have hfz9_1:=blk_frozen BK132.out 1;have hfz9_2:=blk_frozen BK132.out 2))
       go_ret
       exact ⟨by first|rfl|(simp [errW_none,errW_some] <;> rfl)|(simp [*,errW_none,errW_some] <;> rfl),by repeat (first|(with_reducible first|exact HB.out|apply below_alloc|apply pw_below_drewN|apply below_drew1|refine below_set ?_ GE132.out)|exact HB.out)⟩
      ·rw [if_neg c7] at H
       have c7b0:decide (a0_2≤5)=false:=decide_eq_false c7
       clear c7
       obtain rfl:=Option.some.inj H
       go_enter Try.func112,Try.ntmps112
       go_wp2_with (first|((with_reducible refine gate_dst (N:=1) rfl ?_);refine box_event ?hg (N:=1) ?hd (cs:=#[.int .i64 a0_0,.int .i64 a0_1,.int .i64 a0_2]) (t:=32) ?hr ?_;(case hd=>rfl);(case hg=>rfl);(case hr=>first|(go_simp;done)|(go_simp;rfl));intro gb132 hg w10 hbox hb;have n0_:=Aside0.mk (below_step (by repeat (first|(with_reducible first|exact HB.out|apply below_alloc|apply pw_below_drewN|apply below_drew1)|exact HB.out)) hb);have n1_:=Aside0.mk (hbox);have n2_:=Aside0.mk ((by rw [hg];exact (below_size (by repeat (first|(with_reducible first|exact HB.out|apply below_alloc|apply pw_below_drewN|apply below_drew1)|exact HB.out))):w.heap.size≤gb132));have n3_:=Aside0.mk ((by rw [hg];exact (below_size (by repeat (first|(with_reducible first|exact HB.out|apply below_alloc|apply pw_below_drewN|apply below_drew1)|exact HB.out))):w.heap.size≤gb132));clear HB;have HB:=n0_;have BK132:=n1_;have GW132:=n2_;have GE132:=n3_;clear n0_ n1_ n2_ n3_;clear hb hbox hg;have hcz11_0:w10.cell? ⟨gb132,0,none⟩=some (.int .i64 a0_0):=(blk_cell BK132.out 0).trans rfl;have hcz11_1:w10.cell? ⟨gb132,1,none⟩=some (.int .i64 a0_1):=(blk_cell BK132.out 1).trans rfl;have hcz11_2:w10.cell? ⟨gb132,2,none⟩=some (.int .i64 a0_2):=(blk_cell BK132.out 2).trans rfl;have hfz11_0:=blk_frozen BK132.out 0;have hfz11_1:=blk_frozen BK132.out 1;have hfz11_2:=blk_frozen BK132.out 2))
       go_ret
       exact ⟨by first|rfl|(simp [errW_none,errW_some] <;> rfl)|(simp [*,errW_none,errW_some] <;> rfl),by repeat (first|(with_reducible first|exact HB.out|apply below_alloc|apply pw_below_drewN|apply below_drew1|refine below_set ?_ GE132.out)|exact HB.out)⟩
     ·rw [if_neg c6] at H
      have c6b0:decide (1≤a0_2)=false:=decide_eq_false c6
      clear c6
      obtain rfl:=Option.some.inj H
      go_enter Try.func112,Try.ntmps112
      go_wp2_with (first|((with_reducible refine gate_dst (N:=1) rfl ?_);refine box_event ?hg (N:=1) ?hd (cs:=#[.int .i64 a0_0,.int .i64 a0_1,.int .i64 a0_2]) (t:=32) ?hr ?_;(case hd=>rfl);(case hg=>rfl);(case hr=>first|(go_simp;done)|(go_simp;rfl));intro gb132 hg w12 hbox hb;have n0_:=Aside0.mk (below_step (by repeat (first|(with_reducible first|exact HB.out|apply below_alloc|apply pw_below_drewN|apply below_drew1)|exact HB.out)) hb);have n1_:=Aside0.mk (hbox);have n2_:=Aside0.mk ((by rw [hg];exact (below_size (by repeat (first|(with_reducible first|exact HB.out|apply below_alloc|apply pw_below_drewN|apply below_drew1)|exact HB.out))):w.heap.size≤gb132));have n3_:=Aside0.mk ((by rw [hg];exact (below_size (by repeat (first|(with_reducible first|exact HB.out|apply below_alloc|apply pw_below_drewN|apply below_drew1)|exact HB.out))):w.heap.size≤gb132));clear HB;have HB:=n0_;have BK132:=n1_;have GW132:=n2_;have GE132:=n3_;clear n0_ n1_ n2_ n3_;clear hb hbox hg;have hcz13_0:w12.cell? ⟨gb132,0,none⟩=some (.int .i64 a0_0):=(blk_cell BK132.out 0).trans rfl;have hcz13_1:w12.cell? ⟨gb132,1,none⟩=some (.int .i64 a0_1):=(blk_cell BK132.out 1).trans rfl;have hcz13_2:w12.cell? ⟨gb132,2,none⟩=some (.int .i64 a0_2):=(blk_cell BK132.out 2).trans rfl;have hfz13_0:=blk_frozen BK132.out 0;have hfz13_1:=blk_frozen BK132.out 1;have hfz13_2:=blk_frozen BK132.out 2))
      go_ret
      exact ⟨by first|rfl|(simp [errW_none,errW_some] <;> rfl)|(simp [*,errW_none,errW_some] <;> rfl),by repeat (first|(with_reducible first|exact HB.out|apply below_alloc|apply pw_below_drewN|apply below_drew1|refine below_set ?_ GE132.out)|exact HB.out)⟩
    ·rw [if_neg c5] at H
     have c5b0:decide (a0_1≤6)=false:=decide_eq_false c5
     clear c5
     obtain rfl:=Option.some.inj H
     go_enter Try.func112,Try.ntmps112
     go_wp2_with (first|((with_reducible refine gate_dst (N:=1) rfl ?_);refine box_event ?hg (N:=1) ?hd (cs:=#[.int .i64 a0_0,.int .i64 a0_1,.int .i64 a0_2]) (t:=32) ?hr ?_;(case hd=>rfl);(case hg=>rfl);(case hr=>first|(go_simp;done)|(go_simp;rfl));intro gb132 hg w14 hbox hb;have n0_:=Aside0.mk (below_step (by repeat (first|(with_reducible first|exact HB.out|apply below_alloc|apply pw_below_drewN|apply below_drew1)|exact HB.out)) hb);have n1_:=Aside0.mk (hbox);have n2_:=Aside0.mk ((by rw [hg];exact (below_size (by repeat (first|(with_reducible first|exact HB.out|apply below_alloc|apply pw_below_drewN|apply below_drew1)|exact HB.out))):w.heap.size≤gb132));have n3_:=Aside0.mk ((by rw [hg];exact (below_size (by repeat (first|(with_reducible first|exact HB.out|apply below_alloc|apply pw_below_drewN|apply below_drew1)|exact HB.out))):w.heap.size≤gb132));clear HB;have HB:=n0_;have BK132:=n1_;have GW132:=n2_;have GE132:=n3_;clear n0_ n1_ n2_ n3_;clear hb hbox hg;have hcz15_0:w14.cell? ⟨gb132,0,none⟩=some (.int .i64 a0_0):=(blk_cell BK132.out 0).trans rfl;have hcz15_1:w14.cell? ⟨gb132,1,none⟩=some (.int .i64 a0_1):=(blk_cell BK132.out 1).trans rfl;have hcz15_2:w14.cell? ⟨gb132,2,none⟩=some (.int .i64 a0_2):=(blk_cell BK132.out 2).trans rfl;have hfz15_0:=blk_frozen BK132.out 0;have hfz15_1:=blk_frozen BK132.out 1;have hfz15_2:=blk_frozen BK132.out 2))
     go_ret
     exact ⟨by first|rfl|(simp [errW_none,errW_some] <;> rfl)|(simp [*,errW_none,errW_some] <;> rfl),by repeat (first|(with_reducible first|exact HB.out|apply below_alloc|apply pw_below_drewN|apply below_drew1|refine below_set ?_ GE132.out)|exact HB.out)⟩
   ·rw [if_neg c4] at H
    have c4b0:decide (1≤a0_1)=false:=decide_eq_false c4
    clear c4
    obtain rfl:=Option.some.inj H
    go_enter Try.func112,Try.ntmps112
    go_wp2_with (first|((with_reducible refine gate_dst (N:=1) rfl ?_);refine box_event ?hg (N:=1) ?hd (cs:=#[.int .i64 a0_0,.int .i64 a0_1,.int .i64 a0_2]) (t:=32) ?hr ?_;(case hd=>rfl);(case hg=>rfl);(case hr=>first|(go_simp;done)|(go_simp;rfl));intro gb132 hg w16 hbox hb;have n0_:=Aside0.mk (below_step (by repeat (first|(with_reducible first|exact HB.out|apply below_alloc|apply pw_below_drewN|apply below_drew1)|exact HB.out)) hb);have n1_:=Aside0.mk (hbox);have n2_:=Aside0.mk ((by rw [hg];exact (below_size (by repeat (first|(with_reducible first|exact HB.out|apply below_alloc|apply pw_below_drewN|apply below_drew1)|exact HB.out))):w.heap.size≤gb132));have n3_:=Aside0.mk ((by rw [hg];exact (below_size (by repeat (first|(with_reducible first|exact HB.out|apply below_alloc|apply pw_below_drewN|apply below_drew1)|exact HB.out))):w.heap.size≤gb132));clear HB;have HB:=n0_;have BK132:=n1_;have GW132:=n2_;have GE132:=n3_;clear n0_ n1_ n2_ n3_;clear hb hbox hg;have hcz17_0:w16.cell? ⟨gb132,0,none⟩=some (.int .i64 a0_0):=(blk_cell BK132.out 0).trans rfl;have hcz17_1:w16.cell? ⟨gb132,1,none⟩=some (.int .i64 a0_1):=(blk_cell BK132.out 1).trans rfl;have hcz17_2:w16.cell? ⟨gb132,2,none⟩=some (.int .i64 a0_2):=(blk_cell BK132.out 2).trans rfl;have hfz17_0:=blk_frozen BK132.out 0;have hfz17_1:=blk_frozen BK132.out 1;have hfz17_2:=blk_frozen BK132.out 2))
    go_ret
    exact ⟨by first|rfl|(simp [errW_none,errW_some] <;> rfl)|(simp [*,errW_none,errW_some] <;> rfl),by repeat (first|(with_reducible first|exact HB.out|apply below_alloc|apply pw_below_drewN|apply below_drew1|refine below_set ?_ GE132.out)|exact HB.out)⟩
  ·rw [if_neg c3] at H
   have c3b0:decide (a0_0≤8)=false:=decide_eq_false c3
   clear c3
   obtain rfl:=Option.some.inj H
   go_enter Try.func112,Try.ntmps112
   go_wp2_with (first|((with_reducible refine gate_dst (N:=1) rfl ?_);refine box_event ?hg (N:=1) ?hd (cs:=#[.int .i64 a0_0,.int .i64 a0_1,.int .i64 a0_2]) (t:=32) ?hr ?_;(case hd=>rfl);(case hg=>rfl);(case hr=>first|(go_simp;done)|(go_simp;rfl));intro gb132 hg w18 hbox hb;have n0_:=Aside0.mk (below_step (by repeat (first|(with_reducible first|exact HB.out|apply below_alloc|apply pw_below_drewN|apply below_drew1)|exact HB.out)) hb);have n1_:=Aside0.mk (hbox);have n2_:=Aside0.mk ((by rw [hg];exact (below_size (by repeat (first|(with_reducible first|exact HB.out|apply below_alloc|apply pw_below_drewN|apply below_drew1)|exact HB.out))):w.heap.size≤gb132));have n3_:=Aside0.mk ((by rw [hg];exact (below_size (by repeat (first|(with_reducible first|exact HB.out|apply below_alloc|apply pw_below_drewN|apply below_drew1)|exact HB.out))):w.heap.size≤gb132));clear HB;have HB:=n0_;have BK132:=n1_;have GW132:=n2_;have GE132:=n3_;clear n0_ n1_ n2_ n3_;clear hb hbox hg;have hcz19_0:w18.cell? ⟨gb132,0,none⟩=some (.int .i64 a0_0):=(blk_cell BK132.out 0).trans rfl;have hcz19_1:w18.cell? ⟨gb132,1,none⟩=some (.int .i64 a0_1):=(blk_cell BK132.out 1).trans rfl;have hcz19_2:w18.cell? ⟨gb132,2,none⟩=some (.int .i64 a0_2):=(blk_cell BK132.out 2).trans rfl;have hfz19_0:=blk_frozen BK132.out 0;have hfz19_1:=blk_frozen BK132.out 1;have hfz19_2:=blk_frozen BK132.out 2))
   go_ret
   exact ⟨by first|rfl|(simp [errW_none,errW_some] <;> rfl)|(simp [*,errW_none,errW_some] <;> rfl),by repeat (first|(with_reducible first|exact HB.out|apply below_alloc|apply pw_below_drewN|apply below_drew1|refine below_set ?_ GE132.out)|exact HB.out)⟩
 ·rw [if_neg c2] at H
  have c2b0:decide (1≤a0_0)=false:=decide_eq_false c2
  clear c2
  obtain rfl:=Option.some.inj H
  go_enter Try.func112,Try.ntmps112
  go_wp2_with (first|((with_reducible refine gate_dst (N:=1) rfl ?_);refine box_event ?hg (N:=1) ?hd (cs:=#[.int .i64 a0_0,.int .i64 a0_1,.int .i64 a0_2]) (t:=32) ?hr ?_;(case hd=>rfl);(case hg=>rfl);(case hr=>first|(go_simp;done)|(go_simp;rfl));intro gb132 hg w20 hbox hb;have n0_:=Aside0.mk (below_step (by repeat (first|(with_reducible first|exact HB.out|apply below_alloc|apply pw_below_drewN|apply below_drew1)|exact HB.out)) hb);have n1_:=Aside0.mk (hbox);have n2_:=Aside0.mk ((by rw [hg];exact (below_size (by repeat (first|(with_reducible first|exact HB.out|apply below_alloc|apply pw_below_drewN|apply below_drew1)|exact HB.out))):w.heap.size≤gb132));have n3_:=Aside0.mk ((by rw [hg];exact (below_size (by repeat (first|(with_reducible first|exact HB.out|apply below_alloc|apply pw_below_drewN|apply below_drew1)|exact HB.out))):w.heap.size≤gb132));clear HB;have HB:=n0_;have BK132:=n1_;have GW132:=n2_;have GE132:=n3_;clear n0_ n1_ n2_ n3_;clear hb hbox hg;have hcz21_0:w20.cell? ⟨gb132,0,none⟩=some (.int .i64 a0_0):=(blk_cell BK132.out 0).trans rfl;have hcz21_1:w20.cell? ⟨gb132,1,none⟩=some (.int .i64 a0_1):=(blk_cell BK132.out 1).trans rfl;have hcz21_2:w20.cell? ⟨gb132,2,none⟩=some (.int .i64 a0_2):=(blk_cell BK132.out 2).trans rfl;have hfz21_0:=blk_frozen BK132.out 0;have hfz21_1:=blk_frozen BK132.out 1;have hfz21_2:=blk_frozen BK132.out 2))
  go_ret
  exact ⟨by first|rfl|(simp [errW_none,errW_some] <;> rfl)|(simp [*,errW_none,errW_some] <;> rfl),by repeat (first|(with_reducible first|exact HB.out|apply below_alloc|apply pw_below_drewN|apply below_drew1|refine below_set ?_ GE132.out)|exact HB.out)⟩
end Go.Proofs.Ytomfjhpiemipkaa.PFnOre
end
section
namespace Go.Proofs.Ytomfjhpiemipkaa.PFnOre
open Go.RowKit Go.Proofs.YtomfjhpiemipkaaW.PrintWords Go.Proofs.YtomfjhpiemipkaaW.PrintLast Go.Proofs.YtomfjhpiemipkaaW.PrintMore
attribute [local go_sem] max2_int min2_int max_two min_two max_three min_three max_four min_four   -- for this text's walks alone
set_option linter.unusedVariables false
set_option linter.unusedSimpArgs false
def impl_blocksOf.f (a0_0:Int) (a0_1:Int) (a0_2:Int):Option (Int):=some (wrap64 ((wrap64 (a0_0 * a0_1)) * a0_2))
set_option maxHeartbeats 8000000 in
set_option maxRecDepth 100000 in
theorem impl_blocksOf.calls (a0_0:Int) (a0_1:Int) (a0_2:Int) (r:Int) (w:World) (h:impl_blocksOf.f a0_0 a0_1 a0_2=some r) :
  Calls Try.prog 165 #[.agg #[.int .i64 a0_0,.int .i64 a0_1,.int .i64 a0_2]] w fun e w'=>e=.returned (.int .i64 r)∧Below w.heap.size w w':=by
 have hu32:=Try.underlying32
 have HB:=Aside0.mk (Below.refl w.heap.size w)
 have H:(some (wrap64 ((wrap64 (a0_0 * a0_1)) * a0_2)))=some r:=h
 clear h
 obtain rfl:=Option.some.inj H
 go_enter Try.func165,Try.ntmps165
 go_wp2_with (first|((with_reducible refine gate_dst (N:=1) rfl ?_);refine box_event ?hg (N:=1) ?hd (cs:=#[.int .i64 a0_0,.int .i64 a0_1,.int .i64 a0_2]) (t:=32) ?hr ?_;(case hd=>rfl);(case hg=>rfl);(case hr=>first|(go_simp;done)|(go_simp;rfl));intro gb133 hg w2 hbox hb;have n0_:=Aside0.mk (below_step (by repeat (first|(with_reducible first|exact HB.out|apply below_alloc|apply pw_below_drewN|apply below_drew1)|exact HB.out)) hb);have n1_:=Aside0.mk (hbox);have n2_:=Aside0.mk ((by rw [hg];exact (below_size (by repeat (first|(with_reducible first|exact HB.out|apply below_alloc|apply pw_below_drewN|apply below_drew1)|exact HB.out))):w.heap.size≤gb133));have n3_:=Aside0.mk ((by rw [hg];exact (below_size (by repeat (first|(with_reducible first|exact HB.out|apply below_alloc|apply pw_below_drewN|apply below_drew1)|exact HB.out))):w.heap.size≤gb133));clear HB;have HB:=n0_;have BK133:=n1_;have GW133:=n2_;have GE133:=n3_;clear n0_ n1_ n2_ n3_;clear hb hbox hg;have hcz3_0:w2.cell? ⟨gb133,0,none⟩=some (.int .i64 a0_0):=(blk_cell BK133.out 0).trans rfl;have hcz3_1:w2.cell? ⟨gb133,1,none⟩=some (.int .i64 a0_1):=(blk_cell BK133.out 1).trans rfl;have hcz3_2:w2.cell? ⟨gb133,2,none⟩=some (.int .i64 a0_2):=(blk_cell BK133.out 2).trans rfl;have hfz3_0:=blk_frozen BK133.out 0;have hfz3_1:=blk_frozen BK133.out 1;have hfz3_2:=blk_frozen BK133.out 2))
 go_ret
 exact ⟨by first|rfl|(simp [errW_none,errW_some] <;> rfl)|(simp [*,errW_none,errW_some] <;> rfl),by repeat (first|(with_reducible first|exact HB.out|apply below_alloc|apply pw_below_drewN|apply below_drew1|refine below_set ?_ GE133.out)|exact HB.out)⟩
end Go.Proofs.Ytomfjhpiemipkaa.PFnOre
end
section
namespace Go.Proofs.Ytomfjhpiemipkaa.PFnOre
open Go.RowKit Go.Proofs.YtomfjhpiemipkaaW.PrintWords Go.Proofs.YtomfjhpiemipkaaW.PrintLast Go.Proofs.YtomfjhpiemipkaaW.PrintMore
attribute [local go_sem] max2_int min2_int max_two min_two max_three min_three max_four min_four   -- for this text's walks alone
set_option linter.unusedVariables false
set_option linter.unusedSimpArgs false
mutual
def impl_IsModel.j0:Nat→Int→Bool→Int→Int→Int→List Int→List Int→List Int→Option (Bool)
 | 0,_,_,_,_,_,_,_,_=>none
 | k + 1,x3,x30,x135000,x135001,x135002,x135003,x135004,x135005=>if x30=true then (some false) else (impl_IsModel.l0 k x3 0 x135000 x135001 x135002 x135003 x135004 x135005)
def impl_IsModel.l0:Nat→Int→Int→Int→Int→Int→List Int→List Int→List Int→Option (Bool)
 | 0,_,_,_,_,_,_,_,_=>none
 | k + 1,x31,x32,x135000,x135001,x135002,x135003,x135004,x135005=>if x32 < x31 then (if 0≤x32 then (if x32 < (x135003.length:Int) then (if (rd x135003 x32) < 0 then (some false) else (if (rd x135003 x32) > 10000 then (some false) else (if x32 < (x135004.length:Int) then (if (rd x135004 x32) < 0 then (some false) else (if (rd x135004 x32) > 1000 then (some false) else (if x32 < (x135005.length:Int) then (if (rd x135005 x32) < 0 then (some false) else (if (rd x135005 x32) > 4 then (some false) else (impl_IsModel.l0 k x31 (wrap64 (x32 + 1)) x135000 x135001 x135002 x135003 x135004 x135005))) else (none)))) else (none)))) else (none)) else (none)) else (some true)
end
def impl_IsModel.f (k:Nat) (a0_0:Int) (a0_1:Int) (a0_2:Int) (l0_3:List Int) (l0_4:List Int) (l0_5:List Int):Option (Bool):=(impl_IsGrid.f a0_0 a0_1 a0_2).bind fun t135=>(if t135=true then ((impl_blocksOf.f a0_0 a0_1 a0_2).bind fun t136=>(if (l0_3.length:Int)=t136 then (if (l0_4.length:Int)=t136 then (impl_IsModel.j0 k t136 ((l0_5.length:Int) != t136) a0_0 a0_1 a0_2 l0_3 l0_4 l0_5) else (impl_IsModel.j0 k t136 true a0_0 a0_1 a0_2 l0_3 l0_4 l0_5)) else (impl_IsModel.j0 k t136 true a0_0 a0_1 a0_2 l0_3 l0_4 l0_5))) else (some false))
set_option maxHeartbeats 8000000 in
set_option maxRecDepth 100000 in
theorem impl_IsModel.calls (k:Nat) (a0_0:Int) (a0_1:Int) (a0_2:Int) (A0_3:Option Addr) (c0_3:Nat) (l0_3:List Int) (A0_4:Option Addr) (c0_4:Nat) (l0_4:List Int) (A0_5:Option Addr) (c0_5:Nat) (l0_5:List Int) (r:Bool) (w:World) (hr0_3:Kd.C (Kd.int .i64) w A0_3 l0_3.length l0_3) (hc0_3:l0_3.length≤c0_3) (hr0_4:Kd.C (Kd.int .i64) w A0_4 l0_4.length l0_4) (hc0_4:l0_4.length≤c0_4) (hr0_5:Kd.C (Kd.int .i64) w A0_5 l0_5.length l0_5) (hc0_5:l0_5.length≤c0_5) (h:impl_IsModel.f k a0_0 a0_1 a0_2 l0_3 l0_4 l0_5=some r) :
  Calls Try.prog 96 #[.agg #[.int .i64 a0_0,.int .i64 a0_1,.int .i64 a0_2,.slice A0_3 l0_3.length c0_3,.slice A0_4 l0_4.length c0_4,.slice A0_5 l0_5.length c0_5]] w fun e w'=>e=.returned (.bool r)∧Below w.heap.size w w':=by
 have hu34:=Try.underlying34
 have hu32:=Try.underlying32
 have HR0_3:=Aside0.mk hr0_3
 have HC0_3:=Aside0.mk hc0_3
 clear hr0_3 hc0_3
 have HR0_4:=Aside0.mk hr0_4
 have HC0_4:=Aside0.mk hc0_4
 clear hr0_4 hc0_4
 have HR0_5:=Aside0.mk hr0_5
 have HC0_5:=Aside0.mk hc0_5
 clear hr0_5 hc0_5
 have HB:=Aside0.mk (Below.refl w.heap.size w)
 have H:((impl_IsGrid.f a0_0 a0_1 a0_2).bind fun t135=>(if t135=true then ((impl_blocksOf.f a0_0 a0_1 a0_2).bind fun t136=>(if (l0_3.length:Int)=t136 then (if (l0_4.length:Int)=t136 then (impl_IsModel.j0 k t136 ((l0_5.length:Int) != t136) a0_0 a0_1 a0_2 l0_3 l0_4 l0_5) else (impl_IsModel.j0 k t136 true a0_0 a0_1 a0_2 l0_3 l0_4 l0_5)) else (impl_IsModel.j0 k t136 true a0_0 a0_1 a0_2 l0_3 l0_4 l0_5))) else (some false)))=some r:=h
 clear h
 replace H:=Option.bind_eq_some_iff.mp H
 obtain ⟨t135,A20,H⟩:=H
 replace H:(if t135=true then ((impl_blocksOf.f a0_0 a0_1 a0_2).bind fun t136=>(if (l0_3.length:Int)=t136 then (if (l0_4.length:Int)=t136 then (impl_IsModel.j0 k t136 ((l0_5.length:Int) != t136) a0_0 a0_1 a0_2 l0_3 l0_4 l0_5) else (impl_IsModel.j0 k t136 true a0_0 a0_1 a0_2 l0_3 l0_4 l0_5)) else (impl_IsModel.j0 k t136 true a0_0 a0_1 a0_2 l0_3 l0_4 l0_5))) else (some false))=some r:=H
 have A2:=Aside0.mk A20
 clear A20
 by_cases c3:t135=true
 ·subst c3
  have H1:((impl_blocksOf.f a0_0 a0_1 a0_2).bind fun t136=>(if (l0_3.length:Int)=t136 then (if (l0_4.length:Int)=t136 then (impl_IsModel.j0 k t136 ((l0_5.length:Int) != t136) a0_0 a0_1 a0_2 l0_3 l0_4 l0_5) else (impl_IsModel.j0 k t136 true a0_0 a0_1 a0_2 l0_3 l0_4 l0_5)) else (impl_IsModel.j0 k t136 true a0_0 a0_1 a0_2 l0_3 l0_4 l0_5)))=some r:=by rw [if_pos rfl] at H;exact H
  clear H
  have H:=H1
  clear H1
  replace H:=Option.bind_eq_some_iff.mp H
  obtain ⟨t136,A40,H⟩:=H
  replace H:(if (l0_3.length:Int)=t136 then (if (l0_4.length:Int)=t136 then (impl_IsModel.j0 k t136 ((l0_5.length:Int) != t136) a0_0 a0_1 a0_2 l0_3 l0_4 l0_5) else (impl_IsModel.j0 k t136 true a0_0 a0_1 a0_2 l0_3 l0_4 l0_5)) else (impl_IsModel.j0 k t136 true a0_0 a0_1 a0_2 l0_3 l0_4 l0_5))=some r:=H
  have A4:=Aside0.mk A40
  clear A40
  have HC5:=Aside0.mk H
  clear H
  go_enter Try.func96,Try.ntmps96
  go_upto_region 4 with (first|((with_reducible refine gate_dst (N:=1) rfl ?_);(try (refine gate_guard (by rfl) ?_;dsimp only));refine box_event ?hg (N:=1) ?hd (cs:=#[.int .i64 a0_0,.int .i64 a0_1,.int .i64 a0_2,.slice A0_3 l0_3.length c0_3,.slice A0_4 l0_4.length c0_4,.slice A0_5 l0_5.length c0_5]) (t:=34) ?hr ?_;(case hd=>rfl);(case hg=>rfl);(case hr=>first|(go_simp;done)|(go_simp;rfl));intro gb134 hg w6 hbox hb;have n0_:=Aside0.mk (below_step (by repeat (first|(with_reducible first|exact HB.out|apply below_alloc|apply pw_below_drewN|apply below_drew1)|exact HB.out)) hb);have n1_:=Aside0.mk (hbox);have n2_:=Aside0.mk ((by rw [hg];exact (below_size (by repeat (first|(with_reducible first|exact HB.out|apply below_alloc|apply pw_below_drewN|apply below_drew1)|exact HB.out))):w.heap.size≤gb134));have n3_:=Aside0.mk ((by rw [hg];exact (below_size (by repeat (first|(with_reducible first|exact HB.out|apply below_alloc|apply pw_below_drewN|apply below_drew1)|exact HB.out))):w.heap.size≤gb134));clear HB;have HB:=n0_;have BK134:=n1_;have GW134:=n2_;have GE134:=n3_;clear n0_ n1_ n2_ n3_;clear hb hbox hg;have hcz7_0:w6.cell? ⟨gb134,0,none⟩=some (.int .i64 a0_0):=(blk_cell BK134.out 0).trans rfl;have hcz7_1:w6.cell? ⟨gb134,1,none⟩=some (.int .i64 a0_1):=(blk_cell BK134.out 1).trans rfl;have hcz7_2:w6.cell? ⟨gb134,2,none⟩=some (.int .i64 a0_2):=(blk_cell BK134.out 2).trans rfl;have hcz7_3:w6.cell? ⟨gb134,3,none⟩=some (.slice A0_3 l0_3.length c0_3):=(blk_cell BK134.out 3).trans rfl;have hcz7_4:w6.cell? ⟨gb134,4,none⟩=some (.slice A0_4 l0_4.length c0_4):=(blk_cell BK134.out 4).trans rfl;have hcz7_5:w6.cell? ⟨gb134,5,none⟩=some (.slice A0_5 l0_5.length c0_5):=(blk_cell BK134.out 5).trans rfl;have hfz7_0:=blk_frozen BK134.out 0;have hfz7_1:=blk_frozen BK134.out 1;have hfz7_2:=blk_frozen BK134.out 2;have hfz7_3:=blk_frozen BK134.out 3;have hfz7_4:=blk_frozen BK134.out 4;have hfz7_5:=blk_frozen BK134.out 5)|((with_reducible refine gate_callee (f:=112) rfl ?_);refine goesL_ (some 7) rfl rfl Try.func112 (by kernel_rfl) rfl #[.agg #[.int .i64 a0_0,.int .i64 a0_1,.int .i64 a0_2]] rfl (by (try simp only [List.map_toArray,List.map_cons,List.map_nil]);first|done|rfl|(simp only [List.length_drop,List.length_take];rfl)) ?_;(with_reducible refine (impl_IsGrid.calls a0_0 a0_1 a0_2 true _ A2.out).mono ?_);rintro e w8 ⟨rfl,hb⟩;refine ⟨_,rfl,?_⟩;have n0_:=Aside0.mk (blk_below (g:=gb134) (o:=.cells #[.int .i64 a0_0,.int .i64 a0_1,.int .i64 a0_2,.slice A0_3 l0_3.length c0_3,.slice A0_4 l0_4.length c0_4,.slice A0_5 l0_5.length c0_5] 34 (0,0)) (by (with_reducible repeat (first|refine blk_drewN ?_ _|refine blk_drew ?_|refine blk_alloc ?_ _));exact BK134.out) hb);have n1_:=Aside0.mk (below_step (by repeat (first|(with_reducible first|exact HB.out|apply below_alloc|apply pw_below_drewN|apply below_drew1|refine below_set ?_ GE134.out)|exact HB.out)) hb);clear BK134;clear HB;have BK134:=n0_;have HB:=n1_;clear n0_ n1_;(try clear hb);(try clear hb2);(try clear hk);(try clear hi);have hcz9_0:w8.cell? ⟨gb134,0,none⟩=some (.int .i64 a0_0):=(blk_cell BK134.out 0).trans rfl;have hcz9_1:w8.cell? ⟨gb134,1,none⟩=some (.int .i64 a0_1):=(blk_cell BK134.out 1).trans rfl;have hcz9_2:w8.cell? ⟨gb134,2,none⟩=some (.int .i64 a0_2):=(blk_cell BK134.out 2).trans rfl;have hcz9_3:w8.cell? ⟨gb134,3,none⟩=some (.slice A0_3 l0_3.length c0_3):=(blk_cell BK134.out 3).trans rfl;have hcz9_4:w8.cell? ⟨gb134,4,none⟩=some (.slice A0_4 l0_4.length c0_4):=(blk_cell BK134.out 4).trans rfl;have hcz9_5:w8.cell? ⟨gb134,5,none⟩=some (.slice A0_5 l0_5.length c0_5):=(blk_cell BK134.out 5).trans rfl;have hfz9_0:=blk_frozen BK134.out 0;have hfz9_1:=blk_frozen BK134.out 1;have hfz9_2:=blk_frozen BK134.out 2;have hfz9_3:=blk_frozen BK134.out 3;have hfz9_4:=blk_frozen BK134.out 4;have hfz9_5:=blk_frozen BK134.out 5)|((with_reducible refine gate_callee (f:=165) rfl ?_);refine goesL_ (some 11) rfl rfl Try.func165 (by kernel_rfl) rfl #[.agg #[.int .i64 a0_0,.int .i64 a0_1,.int .i64 a0_2]] rfl (by (try simp only [List.map_toArray,List.map_cons,List.map_nil]);first|done|rfl|(simp only [List.length_drop,List.length_take];rfl)) ?_;(with_reducible refine (impl_blocksOf.calls a0_0 a0_1 a0_2 t136 _ A4.out).mono ?_);rintro e w10 ⟨rfl,hb⟩;refine ⟨_,rfl,?_⟩;have n0_:=Aside0.mk (blk_below (g:=gb134) (o:=.cells #[.int .i64 a0_0,.int .i64 a0_1,.int .i64 a0_2,.slice A0_3 l0_3.length c0_3,.slice A0_4 l0_4.length c0_4,.slice A0_5 l0_5.length c0_5] 34 (0,0)) (by (with_reducible repeat (first|refine blk_drewN ?_ _|refine blk_drew ?_|refine blk_alloc ?_ _));exact BK134.out) hb);have n1_:=Aside0.mk (below_step (by repeat (first|(with_reducible first|exact HB.out|apply below_alloc|apply pw_below_drewN|apply below_drew1|refine below_set ?_ GE134.out)|exact HB.out)) hb);clear BK134;clear HB;have BK134:=n0_;have HB:=n1_;clear n0_ n1_;(try clear hb);(try clear hb2);(try clear hk);(try clear hi)))
  (try simp only [Act.put,List.setIfInBounds_toArray,List.set_cons_zero,List.set_cons_succ])
  go_cut [30] (fun v30 wc=>∃ (kq:Nat) (x30_4:Bool),v30=.bool x30_4∧Aside0 (impl_IsModel.j0 kq t136 x30_4 a0_0 a0_1 a0_2 l0_3 l0_4 l0_5=some r)∧Aside0 (kq≤k)∧Aside0 (wc.heap[gb134]?=some (.cells #[.int .i64 a0_0,.int .i64 a0_1,.int .i64 a0_2,(.slice A0_3 l0_3.length c0_3),(.slice A0_4 l0_4.length c0_4),(.slice A0_5 l0_5.length c0_5)] 34 (0,0)))∧Aside0 (Below w.heap.size w wc))
  case first =>
   have H:=HC5.out
   clear HC5
   by_cases c11:(l0_3.length:Int)=t136
   ·rw [if_pos c11] at H
    have c11b0:((l0_3.length:Int) == t136)=true:=beq_iff_eq.mpr c11
    have c11b1:((l0_3.length:Int) != t136)=false:=bne_eq_false_iff_eq.mpr c11
    clear c11
    (first|rw [c11b0]|(simp only [i64_w,i32_w];rw [c11b0])|skip)
    by_cases c12:(l0_4.length:Int)=t136
    ·rw [if_pos c12] at H
     have c12b0:((l0_4.length:Int) == t136)=true:=beq_iff_eq.mpr c12
     have c12b1:((l0_4.length:Int) != t136)=false:=bne_eq_false_iff_eq.mpr c12
     clear c12
     have H':=Aside0.mk H
     clear H
     have hcz13_0:w10.cell? ⟨gb134,0,none⟩=some (.int .i64 a0_0):=(blk_cell BK134.out 0).trans rfl
     have hcz13_1:w10.cell? ⟨gb134,1,none⟩=some (.int .i64 a0_1):=(blk_cell BK134.out 1).trans rfl
     have hcz13_2:w10.cell? ⟨gb134,2,none⟩=some (.int .i64 a0_2):=(blk_cell BK134.out 2).trans rfl
     have hcz13_3:w10.cell? ⟨gb134,3,none⟩=some (.slice A0_3 l0_3.length c0_3):=(blk_cell BK134.out 3).trans rfl
     have hcz13_4:w10.cell? ⟨gb134,4,none⟩=some (.slice A0_4 l0_4.length c0_4):=(blk_cell BK134.out 4).trans rfl
     have hcz13_5:w10.cell? ⟨gb134,5,none⟩=some (.slice A0_5 l0_5.length c0_5):=(blk_cell BK134.out 5).trans rfl
     have hfz13_0:=blk_frozen BK134.out 0
     have hfz13_1:=blk_frozen BK134.out 1
     have hfz13_2:=blk_frozen BK134.out 2
     have hfz13_3:=blk_frozen BK134.out 3
     have hfz13_4:=blk_frozen BK134.out 4
     have hfz13_5:=blk_frozen BK134.out 5
     go_wp2
     go_meet
     case rel=>exact ⟨_,(((l0_5.length:Int) != t136)),(by first|rfl|(simp;done)|(simp [*];done)),H',⟨by first|omega|exact Nat.le_refl _⟩,⟨by (with_reducible repeat (first|refine blk_drewN ?_ _|refine blk_drew ?_|refine blk_alloc ?_ _));exact BK134.out⟩,⟨by repeat (first|(with_reducible first|exact HB.out|apply below_alloc|apply pw_below_drewN|apply below_drew1|refine below_set ?_ GE134.out)|exact HB.out)⟩⟩
    ·rw [if_neg c12] at H
     have c12b0:((l0_4.length:Int) == t136)=false:=beq_eq_false_iff_ne.mpr c12
     have c12b1:((l0_4.length:Int) != t136)=true:=bne_iff_ne.mpr c12
     have H':=Aside0.mk H
     clear H
     have hcz14_0:w10.cell? ⟨gb134,0,none⟩=some (.int .i64 a0_0):=(blk_cell BK134.out 0).trans rfl
     have hcz14_1:w10.cell? ⟨gb134,1,none⟩=some (.int .i64 a0_1):=(blk_cell BK134.out 1).trans rfl
     have hcz14_2:w10.cell? ⟨gb134,2,none⟩=some (.int .i64 a0_2):=(blk_cell BK134.out 2).trans rfl
     have hcz14_3:w10.cell? ⟨gb134,3,none⟩=some (.slice A0_3 l0_3.length c0_3):=(blk_cell BK134.out 3).trans rfl
     have hcz14_4:w10.cell? ⟨gb134,4,none⟩=some (.slice A0_4 l0_4.length c0_4):=(blk_cell BK134.out 4).trans rfl
     have hcz14_5:w10.cell? ⟨gb134,5,none⟩=some (.slice A0_5 l0_5.length c0_5):=(blk_cell BK134.out 5).trans rfl
     have hfz14_0:=blk_frozen BK134.out 0
     have hfz14_1:=blk_frozen BK134.out 1
     have hfz14_2:=blk_frozen BK134.out 2
     have hfz14_3:=blk_frozen BK134.out 3
     have hfz14_4:=blk_frozen BK134.out 4
     have hfz14_5:=blk_frozen BK134.out 5
     go_wp2
     go_meet
     case rel=>exact ⟨_,(true),(by first|rfl|(simp;done)|(simp [*];done)),H',⟨by first|omega|exact Nat.le_refl _⟩,⟨by (with_reducible repeat (first|refine blk_drewN ?_ _|refine blk_drew ?_|refine blk_alloc ?_ _));exact BK134.out⟩,⟨by repeat (first|(with_reducible first|exact HB.out|apply below_alloc|apply pw_below_drewN|apply below_drew1|refine below_set ?_ GE134.out)|exact HB.out)⟩⟩
   ·rw [if_neg c11] at H
    have c11b0:((l0_3.length:Int) == t136)=false:=beq_eq_false_iff_ne.mpr c11
    have c11b1:((l0_3.length:Int) != t136)=true:=bne_iff_ne.mpr c11
    (first|rw [c11b0]|(simp only [i64_w,i32_w];rw [c11b0])|skip)
    have H':=Aside0.mk H
    clear H
    have hcz15_0:w10.cell? ⟨gb134,0,none⟩=some (.int .i64 a0_0):=(blk_cell BK134.out 0).trans rfl
    have hcz15_1:w10.cell? ⟨gb134,1,none⟩=some (.int .i64 a0_1):=(blk_cell BK134.out 1).trans rfl
    have hcz15_2:w10.cell? ⟨gb134,2,none⟩=some (.int .i64 a0_2):=(blk_cell BK134.out 2).trans rfl
    have hcz15_3:w10.cell? ⟨gb134,3,none⟩=some (.slice A0_3 l0_3.length c0_3):=(blk_cell BK134.out 3).trans rfl
    have hcz15_4:w10.cell? ⟨gb134,4,none⟩=some (.slice A0_4 l0_4.length c0_4):=(blk_cell BK134.out 4).trans rfl
    have hcz15_5:w10.cell? ⟨gb134,5,none⟩=some (.slice A0_5 l0_5.length c0_5):=(blk_cell BK134.out 5).trans rfl
    have hfz15_0:=blk_frozen BK134.out 0
    have hfz15_1:=blk_frozen BK134.out 1
    have hfz15_2:=blk_frozen BK134.out 2
    have hfz15_3:=blk_frozen BK134.out 3
    have hfz15_4:=blk_frozen BK134.out 4
    have hfz15_5:=blk_frozen BK134.out 5
    go_wp2
    go_meet
    case rel=>exact ⟨_,(true),(by first|rfl|(simp;done)|(simp [*];done)),H',⟨by first|omega|exact Nat.le_refl _⟩,⟨by (with_reducible repeat (first|refine blk_drewN ?_ _|refine blk_drew ?_|refine blk_alloc ?_ _));exact BK134.out⟩,⟨by repeat (first|(with_reducible first|exact HB.out|apply below_alloc|apply pw_below_drewN|apply below_drew1|refine below_set ?_ GE134.out)|exact HB.out)⟩⟩
  case rest =>
   clear HC5
   try clear c1
   try clear p2
   try clear c3
   try clear c9
   try clear c11
   try clear c11b0
   try clear c11b1
   try clear c12
   try clear c12b0
   try clear c12b1
   try clear hcz13_0
   try clear hcz13_1
   try clear hcz13_2
   try clear hcz13_3
   try clear hcz13_4
   try clear hcz13_5
   try clear hcz14_0
   try clear hcz14_1
   try clear hcz14_2
   try clear hcz14_3
   try clear hcz14_4
   try clear hcz14_5
   try clear hcz15_0
   try clear hcz15_1
   try clear hcz15_2
   try clear hcz15_3
   try clear hcz15_4
   try clear hcz15_5
   try clear hcz7_0
   try clear hcz7_1
   try clear hcz7_2
   try clear hcz7_3
   try clear hcz7_4
   try clear hcz7_5
   try clear hcz9_0
   try clear hcz9_1
   try clear hcz9_2
   try clear hcz9_3
   try clear hcz9_4
   try clear hcz9_5
   try clear hfz13_0
   try clear hfz13_1
   try clear hfz13_2
   try clear hfz13_3
   try clear hfz13_4
   try clear hfz13_5
   try clear hfz14_0
   try clear hfz14_1
   try clear hfz14_2
   try clear hfz14_3
   try clear hfz14_4
   try clear hfz14_5
   try clear hfz15_0
   try clear hfz15_1
   try clear hfz15_2
   try clear hfz15_3
   try clear hfz15_4
   try clear hfz15_5
   try clear hfz7_0
   try clear hfz7_1
   try clear hfz7_2
   try clear hfz7_3
   try clear hfz7_4
   try clear hfz7_5
   try clear hfz9_0
   try clear hfz9_1
   try clear hfz9_2
   try clear hfz9_3
   try clear hfz9_4
   try clear hfz9_5
   obtain ⟨kq,x30_4,rfl,HA,HJ4,BK134,HB⟩:=hcut
   cases kq with
   | zero=>exact absurd HA.out (by simp [impl_IsModel.j0])
   | succ kj4 =>
    have H:=HA.out
    clear HA
    simp only [impl_IsModel.j0] at H
    by_cases c16:x30_4=true
    ·subst c16
     have H1:(some false)=some r:=by rw [if_pos rfl] at H;exact H
     clear H
     have H:=H1
     clear H1
     obtain rfl:=Option.some.inj H
     go_wp2
     go_ret
     exact ⟨by first|rfl|(simp [errW_none,errW_some] <;> rfl)|(simp [*,errW_none,errW_some] <;> rfl),by repeat (first|(with_reducible first|exact HB.out|apply below_alloc|apply pw_below_drewN|apply below_drew1|refine below_set ?_ GE134.out)|exact HB.out)⟩
    ·replace c16:=Bool.eq_false_iff.mpr c16
     subst c16
     have H1:(impl_IsModel.l0 kj4 t136 0 a0_0 a0_1 a0_2 l0_3 l0_4 l0_5)=some r:=by rw [if_neg (show ¬ (false=true) by decide)] at H;exact H
     clear H
     have H:=H1
     clear H1
     have H':=Aside0.mk H
     clear H
     go_wp2
     go_loopg [32] kj4 (fun kq v32 w'=>∃ (x32_2:Int),v32=.int .i64 x32_2∧Aside0 (impl_IsModel.l0 kq t136 x32_2 a0_0 a0_1 a0_2 l0_3 l0_4 l0_5=some r)∧Aside0 (kq≤kj4)∧Aside0 (w'.heap[gb134]?=some (.cells #[.int .i64 a0_0,.int .i64 a0_1,.int .i64 a0_2,(.slice A0_3 l0_3.length c0_3),(.slice A0_4 l0_4.length c0_4),(.slice A0_5 l0_5.length c0_5)] 34 (0,0)))∧Aside0 (Below w.heap.size w w'))
     case atStart=>exact ⟨(0),(by first|rfl|(simp;done)|(simp [*];done)),H',⟨Nat.le_refl _⟩,⟨by (with_reducible repeat (first|refine blk_drewN ?_ _|refine blk_drew ?_|refine blk_alloc ?_ _));exact BK134.out⟩,⟨by repeat (first|(with_reducible first|exact HB.out|apply below_alloc|apply pw_below_drewN|apply below_drew1|refine below_set ?_ GE134.out)|exact HB.out)⟩⟩
     case round =>
      clear H'
      try clear c1
      try clear p2
      try clear c3
      try clear c9
      try clear c11
      try clear c11b0
      try clear c11b1
      try clear c12
      try clear c12b0
      try clear c12b1
      try clear c16
      try clear hcz13_0
      try clear hcz13_1
      try clear hcz13_2
      try clear hcz13_3
      try clear hcz13_4
      try clear hcz13_5
      try clear hcz14_0
      try clear hcz14_1
      try clear hcz14_2
      try clear hcz14_3
      try clear hcz14_4
      try clear hcz14_5
      try clear hcz15_0
      try clear hcz15_1
      try clear hcz15_2
      try clear hcz15_3
      try clear hcz15_4
      try clear hcz15_5
      try clear hcz7_0
      try clear hcz7_1
      try clear hcz7_2
      try clear hcz7_3
      try clear hcz7_4
      try clear hcz7_5
      try clear hcz9_0
      try clear hcz9_1
      try clear hcz9_2
      try clear hcz9_3
      try clear hcz9_4
      try clear hcz9_5
      try clear hfz13_0
      try clear hfz13_1
      try clear hfz13_2
      try clear hfz13_3
      try clear hfz13_4
      try clear hfz13_5
      try clear hfz14_0
      try clear hfz14_1
      try clear hfz14_2
      try clear hfz14_3
      try clear hfz14_4
      try clear hfz14_5
      try clear hfz15_0
      try clear hfz15_1
      try clear hfz15_2
      try clear hfz15_3
      try clear hfz15_4
      try clear hfz15_5
      try clear hfz7_0
      try clear hfz7_1
      try clear hfz7_2
      try clear hfz7_3
      try clear hfz7_4
      try clear hfz7_5
      try clear hfz9_0
      try clear hfz9_1
      try clear hfz9_2
      try clear hfz9_3
      try clear hfz9_4
      try clear hfz9_5
      try clear p2
      obtain ⟨x32_2,rfl,HA,HK2,BK134,HB⟩:=hrel
      cases gk with
      | zero=>exact absurd HA.out (by simp [impl_IsModel.l0])
      | succ k2 =>
       have H:=HA.out
       clear HA
       simp only [impl_IsModel.l0] at H
       by_cases c17:x32_2 < t136
       ·rw [if_pos c17] at H
        have c17b0:decide (x32_2 < t136)=true:=decide_eq_true c17
        clear c17
        by_cases c18:0≤x32_2
        ·rw [if_pos c18] at H
         have c18b0:decide (0≤x32_2)=true:=decide_eq_true c18
         clear c18
         by_cases c19:x32_2 < (l0_3.length:Int)
         ·rw [if_pos c19] at H
          have c19b0:decide (x32_2 < (l0_3.length:Int))=true:=decide_eq_true c19
          clear c19
          by_cases c20:(rd l0_3 x32_2) < 0
          ·rw [if_pos c20] at H
           have c20b0:decide ((rd l0_3 x32_2) < 0)=true:=decide_eq_true c20
           clear c20
           obtain rfl:=Option.some.inj H
           have hcz21_0:wr.cell? ⟨gb134,0,none⟩=some (.int .i64 a0_0):=(blk_cell BK134.out 0).trans rfl
           have hcz21_1:wr.cell? ⟨gb134,1,none⟩=some (.int .i64 a0_1):=(blk_cell BK134.out 1).trans rfl
           have hcz21_2:wr.cell? ⟨gb134,2,none⟩=some (.int .i64 a0_2):=(blk_cell BK134.out 2).trans rfl
           have hcz21_3:wr.cell? ⟨gb134,3,none⟩=some (.slice A0_3 l0_3.length c0_3):=(blk_cell BK134.out 3).trans rfl
           have hcz21_4:wr.cell? ⟨gb134,4,none⟩=some (.slice A0_4 l0_4.length c0_4):=(blk_cell BK134.out 4).trans rfl
           have hcz21_5:wr.cell? ⟨gb134,5,none⟩=some (.slice A0_5 l0_5.length c0_5):=(blk_cell BK134.out 5).trans rfl
           have hfz21_0:=blk_frozen BK134.out 0
           have hfz21_1:=blk_frozen BK134.out 1
           have hfz21_2:=blk_frozen BK134.out 2
           have hfz21_3:=blk_frozen BK134.out 3
           have hfz21_4:=blk_frozen BK134.out 4
           have hfz21_5:=blk_frozen BK134.out 5
           have p137:0≤(x32_2:Int):=of_decide_eq_true (by first|(with_reducible assumption)|assumption)
           have q137:x32_2 < (l0_3.length:Int):=of_decide_eq_true (by first|(with_reducible assumption)|assumption)
           obtain ⟨ad137,e137,hx137_0⟩:=Kd.at_int HR0_3.out x32_2 p137 q137
           cases e137
           replace hx137_0:=(HB.out.cell (World.block_lt_of_cell? w _ hx137_0)).trans hx137_0
           replace p137:=eq_true p137
           replace q137:=eq_true q137
           go_wp2
           go_ret
           exact ⟨by first|rfl|(simp [errW_none,errW_some] <;> rfl)|(simp [*,errW_none,errW_some] <;> rfl),by repeat (first|(with_reducible first|exact HB.out|apply below_alloc|apply pw_below_drewN|apply below_drew1|refine below_set ?_ GE134.out)|exact HB.out)⟩
          ·rw [if_neg c20] at H
           have c20b0:decide ((rd l0_3 x32_2) < 0)=false:=decide_eq_false c20
           clear c20
           by_cases c22:(rd l0_3 x32_2) > 10000
           ·rw [if_pos c22] at H
            have c22b0:decide (10000 < (rd l0_3 x32_2))=true:=decide_eq_true c22
            clear c22
            obtain rfl:=Option.some.inj H
            have hcz23_0:wr.cell? ⟨gb134,0,none⟩=some (.int .i64 a0_0):=(blk_cell BK134.out 0).trans rfl
            have hcz23_1:wr.cell? ⟨gb134,1,none⟩=some (.int .i64 a0_1):=(blk_cell BK134.out 1).trans rfl
            have hcz23_2:wr.cell? ⟨gb134,2,none⟩=some (.int .i64 a0_2):=(blk_cell BK134.out 2).trans rfl
            have hcz23_3:wr.cell? ⟨gb134,3,none⟩=some (.slice A0_3 l0_3.length c0_3):=(blk_cell BK134.out 3).trans rfl
            have hcz23_4:wr.cell? ⟨gb134,4,none⟩=some (.slice A0_4 l0_4.length c0_4):=(blk_cell BK134.out 4).trans rfl
            have hcz23_5:wr.cell? ⟨gb134,5,none⟩=some (.slice A0_5 l0_5.length c0_5):=(blk_cell BK134.out 5).trans rfl
            have hfz23_0:=blk_frozen BK134.out 0
            have hfz23_1:=blk_frozen BK134.out 1
            have hfz23_2:=blk_frozen BK134.out 2
            have hfz23_3:=blk_frozen BK134.out 3
            have hfz23_4:=blk_frozen BK134.out 4
            have hfz23_5:=blk_frozen BK134.out 5
            have p137:0≤(x32_2:Int):=of_decide_eq_true (by first|(with_reducible assumption)|assumption)
            have q137:x32_2 < (l0_3.length:Int):=of_decide_eq_true (by first|(with_reducible assumption)|assumption)
            obtain ⟨ad137,e137,hx137_0⟩:=Kd.at_int HR0_3.out x32_2 p137 q137
            cases e137
            replace hx137_0:=(HB.out.cell (World.block_lt_of_cell? w _ hx137_0)).trans hx137_0
            replace p137:=eq_true p137
            replace q137:=eq_true q137
            have p138:0≤(x32_2:Int):=of_decide_eq_true (by first|(with_reducible assumption)|assumption)
            have q138:x32_2 < (l0_3.length:Int):=of_decide_eq_true (by first|(with_reducible assumption)|assumption)
            obtain ⟨ad138,e138,hx138_0⟩:=Kd.at_int HR0_3.out x32_2 p138 q138
            obtain rfl:ad137=ad138:=(by injection e138)
            replace hx138_0:=(HB.out.cell (World.block_lt_of_cell? w _ hx138_0)).trans hx138_0
            replace p138:=eq_true p138
            replace q138:=eq_true q138
            go_wp2
            go_ret
            exact ⟨by first|rfl|(simp [errW_none,errW_some] <;> rfl)|(simp [*,errW_none,errW_some] <;> rfl),by repeat (first|(with_reducible first|exact HB.out|apply below_alloc|apply pw_below_drewN|apply below_drew1|refine below_set ?_ GE134.out)|exact HB.out)⟩
           ·rw [if_neg c22] at H
            have c22b0:decide (10000 < (rd l0_3 x32_2))=false:=decide_eq_false c22
            clear c22
            by_cases c24:x32_2 < (l0_4.length:Int)
            ·rw [if_pos c24] at H
             have c24b0:decide (x32_2 < (l0_4.length:Int))=true:=decide_eq_true c24
             clear c24
             by_cases c25:(rd l0_4 x32_2) < 0
             ·rw [if_pos c25] at H
              have c25b0:decide ((rd l0_4 x32_2) < 0)=true:=decide_eq_true c25
              clear c25
              obtain rfl:=Option.some.inj H
              have hcz26_0:wr.cell? ⟨gb134,0,none⟩=some (.int .i64 a0_0):=(blk_cell BK134.out 0).trans rfl
              have hcz26_1:wr.cell? ⟨gb134,1,none⟩=some (.int .i64 a0_1):=(blk_cell BK134.out 1).trans rfl
              have hcz26_2:wr.cell? ⟨gb134,2,none⟩=some (.int .i64 a0_2):=(blk_cell BK134.out 2).trans rfl
              have hcz26_3:wr.cell? ⟨gb134,3,none⟩=some (.slice A0_3 l0_3.length c0_3):=(blk_cell BK134.out 3).trans rfl
              have hcz26_4:wr.cell? ⟨gb134,4,none⟩=some (.slice A0_4 l0_4.length c0_4):=(blk_cell BK134.out 4).trans rfl
              have hcz26_5:wr.cell? ⟨gb134,5,none⟩=some (.slice A0_5 l0_5.length c0_5):=(blk_cell BK134.out 5).trans rfl
              have hfz26_0:=blk_frozen BK134.out 0
              have hfz26_1:=blk_frozen BK134.out 1
              have hfz26_2:=blk_frozen BK134.out 2
              have hfz26_3:=blk_frozen BK134.out 3
              have hfz26_4:=blk_frozen BK134.out 4
              have hfz26_5:=blk_frozen BK134.out 5
              have p137:0≤(x32_2:Int):=of_decide_eq_true (by first|(with_reducible assumption)|assumption)
              have q137:x32_2 < (l0_3.length:Int):=of_decide_eq_true (by first|(with_reducible assumption)|assumption)
              obtain ⟨ad137,e137,hx137_0⟩:=Kd.at_int HR0_3.out x32_2 p137 q137
              cases e137
              replace hx137_0:=(HB.out.cell (World.block_lt_of_cell? w _ hx137_0)).trans hx137_0
              replace p137:=eq_true p137
              replace q137:=eq_true q137
              have p138:0≤(x32_2:Int):=of_decide_eq_true (by first|(with_reducible assumption)|assumption)
              have q138:x32_2 < (l0_3.length:Int):=of_decide_eq_true (by first|(with_reducible assumption)|assumption)
              obtain ⟨ad138,e138,hx138_0⟩:=Kd.at_int HR0_3.out x32_2 p138 q138
              obtain rfl:ad137=ad138:=(by injection e138)
              replace hx138_0:=(HB.out.cell (World.block_lt_of_cell? w _ hx138_0)).trans hx138_0
              replace p138:=eq_true p138
              replace q138:=eq_true q138
              have p139:0≤(x32_2:Int):=of_decide_eq_true (by first|(with_reducible assumption)|assumption)
              have q139:x32_2 < (l0_4.length:Int):=of_decide_eq_true (by first|(with_reducible assumption)|assumption)
              obtain ⟨ad139,e139,hx139_0⟩:=Kd.at_int HR0_4.out x32_2 p139 q139
              cases e139
              replace hx139_0:=(HB.out.cell (World.block_lt_of_cell? w _ hx139_0)).trans hx139_0
              replace p139:=eq_true p139
              replace q139:=eq_true q139
              go_wp2
              go_ret
              exact ⟨by first|rfl|(simp [errW_none,errW_some] <;> rfl)|(simp [*,errW_none,errW_some] <;> rfl),by repeat (first|(with_reducible first|exact HB.out|apply below_alloc|apply pw_below_drewN|apply below_drew1|refine below_set ?_ GE134.out)|exact HB.out)⟩
             ·rw [if_neg c25] at H
              have c25b0:decide ((rd l0_4 x32_2) < 0)=false:=decide_eq_false c25
              clear c25
              by_cases c27:(rd l0_4 x32_2) > 1000
              ·rw [if_pos c27] at H
               have c27b0:decide (1000 < (rd l0_4 x32_2))=true:=decide_eq_true c27
               clear c27
               obtain rfl:=Option.some.inj H
               have hcz28_0:wr.cell? ⟨gb134,0,none⟩=some (.int .i64 a0_0):=(blk_cell BK134.out 0).trans rfl
               have hcz28_1:wr.cell? ⟨gb134,1,none⟩=some (.int .i64 a0_1):=(blk_cell BK134.out 1).trans rfl
               have hcz28_2:wr.cell? ⟨gb134,2,none⟩=some (.int .i64 a0_2):=(blk_cell BK134.out 2).trans rfl
               have hcz28_3:wr.cell? ⟨gb134,3,none⟩=some (.slice A0_3 l0_3.length c0_3):=(blk_cell BK134.out 3).trans rfl
               have hcz28_4:wr.cell? ⟨gb134,4,none⟩=some (.slice A0_4 l0_4.length c0_4):=(blk_cell BK134.out 4).trans rfl
               have hcz28_5:wr.cell? ⟨gb134,5,none⟩=some (.slice A0_5 l0_5.length c0_5):=(blk_cell BK134.out 5).trans rfl
               have hfz28_0:=blk_frozen BK134.out 0
               have hfz28_1:=blk_frozen BK134.out 1
               have hfz28_2:=blk_frozen BK134.out 2
               have hfz28_3:=blk_frozen BK134.out 3
               have hfz28_4:=blk_frozen BK134.out 4
               have hfz28_5:=blk_frozen BK134.out 5
               have p137:0≤(x32_2:Int):=of_decide_eq_true (by first|(with_reducible assumption)|assumption)
               have q137:x32_2 < (l0_3.length:Int):=of_decide_eq_true (by first|(with_reducible assumption)|assumption)
               obtain ⟨ad137,e137,hx137_0⟩:=Kd.at_int HR0_3.out x32_2 p137 q137
               cases e137
               replace hx137_0:=(HB.out.cell (World.block_lt_of_cell? w _ hx137_0)).trans hx137_0
               replace p137:=eq_true p137
               replace q137:=eq_true q137
               have p138:0≤(x32_2:Int):=of_decide_eq_true (by first|(with_reducible assumption)|assumption)
               have q138:x32_2 < (l0_3.length:Int):=of_decide_eq_true (by first|(with_reducible assumption)|assumption)
               obtain ⟨ad138,e138,hx138_0⟩:=Kd.at_int HR0_3.out x32_2 p138 q138
               obtain rfl:ad137=ad138:=(by injection e138)
               replace hx138_0:=(HB.out.cell (World.block_lt_of_cell? w _ hx138_0)).trans hx138_0
               replace p138:=eq_true p138
               replace q138:=eq_true q138
               have p139:0≤(x32_2:Int):=of_decide_eq_true (by first|(with_reducible assumption)|assumption)
               have q139:x32_2 < (l0_4.length:Int):=of_decide_eq_true (by first|(with_reducible assumption)|assumption)
               obtain ⟨ad139,e139,hx139_0⟩:=Kd.at_int HR0_4.out x32_2 p139 q139
               cases e139
               replace hx139_0:=(HB.out.cell (World.block_lt_of_cell? w _ hx139_0)).trans hx139_0
               replace p139:=eq_true p139
               replace q139:=eq_true q139
               have p140:0≤(x32_2:Int):=of_decide_eq_true (by first|(with_reducible assumption)|assumption)
               have q140:x32_2 < (l0_4.length:Int):=of_decide_eq_true (by first|(with_reducible assumption)|assumption)
               obtain ⟨ad140,e140,hx140_0⟩:=Kd.at_int HR0_4.out x32_2 p140 q140
               obtain rfl:ad139=ad140:=(by injection e140)
               replace hx140_0:=(HB.out.cell (World.block_lt_of_cell? w _ hx140_0)).trans hx140_0
               replace p140:=eq_true p140
               replace q140:=eq_true q140
               go_wp2
               go_ret
               exact ⟨by first|rfl|(simp [errW_none,errW_some] <;> rfl)|(simp [*,errW_none,errW_some] <;> rfl),by repeat (first|(with_reducible first|exact HB.out|apply below_alloc|apply pw_below_drewN|apply below_drew1|refine below_set ?_ GE134.out)|exact HB.out)⟩
              ·rw [if_neg c27] at H
               have c27b0:decide (1000 < (rd l0_4 x32_2))=false:=decide_eq_false c27
               clear c27
               by_cases c29:x32_2 < (l0_5.length:Int)
               ·rw [if_pos c29] at H
                have c29b0:decide (x32_2 < (l0_5.length:Int))=true:=decide_eq_true c29
                clear c29
                by_cases c30:(rd l0_5 x32_2) < 0
                ·rw [if_pos c30] at H
                 have c30b0:decide ((rd l0_5 x32_2) < 0)=true:=decide_eq_true c30
                 clear c30
                 obtain rfl:=Option.some.inj H
                 have hcz31_0:wr.cell? ⟨gb134,0,none⟩=some (.int .i64 a0_0):=(blk_cell BK134.out 0).trans rfl
                 have hcz31_1:wr.cell? ⟨gb134,1,none⟩=some (.int .i64 a0_1):=(blk_cell BK134.out 1).trans rfl
                 have hcz31_2:wr.cell? ⟨gb134,2,none⟩=some (.int .i64 a0_2):=(blk_cell BK134.out 2).trans rfl
                 have hcz31_3:wr.cell? ⟨gb134,3,none⟩=some (.slice A0_3 l0_3.length c0_3):=(blk_cell BK134.out 3).trans rfl
                 have hcz31_4:wr.cell? ⟨gb134,4,none⟩=some (.slice A0_4 l0_4.length c0_4):=(blk_cell BK134.out 4).trans rfl
                 have hcz31_5:wr.cell? ⟨gb134,5,none⟩=some (.slice A0_5 l0_5.length c0_5):=(blk_cell BK134.out 5).trans rfl
                 have hfz31_0:=blk_frozen BK134.out 0
                 have hfz31_1:=blk_frozen BK134.out 1
                 have hfz31_2:=blk_frozen BK134.out 2
                 have hfz31_3:=blk_frozen BK134.out 3
                 have hfz31_4:=blk_frozen BK134.out 4
                 have hfz31_5:=blk_frozen BK134.out 5
                 have p137:0≤(x32_2:Int):=of_decide_eq_true (by first|(with_reducible assumption)|assumption)
                 have q137:x32_2 < (l0_3.length:Int):=of_decide_eq_true (by first|(with_reducible assumption)|assumption)
                 obtain ⟨ad137,e137,hx137_0⟩:=Kd.at_int HR0_3.out x32_2 p137 q137
                 cases e137
                 replace hx137_0:=(HB.out.cell (World.block_lt_of_cell? w _ hx137_0)).trans hx137_0
                 replace p137:=eq_true p137
                 replace q137:=eq_true q137
                 have p138:0≤(x32_2:Int):=of_decide_eq_true (by first|(with_reducible assumption)|assumption)
                 have q138:x32_2 < (l0_3.length:Int):=of_decide_eq_true (by first|(with_reducible assumption)|assumption)
                 obtain ⟨ad138,e138,hx138_0⟩:=Kd.at_int HR0_3.out x32_2 p138 q138
                 obtain rfl:ad137=ad138:=(by injection e138)
                 replace hx138_0:=(HB.out.cell (World.block_lt_of_cell? w _ hx138_0)).trans hx138_0
                 replace p138:=eq_true p138
                 replace q138:=eq_true q138
                 have p139:0≤(x32_2:Int):=of_decide_eq_true (by first|(with_reducible assumption)|assumption)
                 have q139:x32_2 < (l0_4.length:Int):=of_decide_eq_true (by first|(with_reducible assumption)|assumption)
                 obtain ⟨ad139,e139,hx139_0⟩:=Kd.at_int HR0_4.out x32_2 p139 q139
                 cases e139
                 replace hx139_0:=(HB.out.cell (World.block_lt_of_cell? w _ hx139_0)).trans hx139_0
                 replace p139:=eq_true p139
                 replace q139:=eq_true q139
                 have p140:0≤(x32_2:Int):=of_decide_eq_true (by first|(with_reducible assumption)|assumption)
                 have q140:x32_2 < (l0_4.length:Int):=of_decide_eq_true (by first|(with_reducible assumption)|assumption)
                 obtain ⟨ad140,e140,hx140_0⟩:=Kd.at_int HR0_4.out x32_2 p140 q140
                 obtain rfl:ad139=ad140:=(by injection e140)
                 replace hx140_0:=(HB.out.cell (World.block_lt_of_cell? w _ hx140_0)).trans hx140_0
                 replace p140:=eq_true p140
                 replace q140:=eq_true q140
                 have p141:0≤(x32_2:Int):=of_decide_eq_true (by first|(with_reducible assumption)|assumption)
                 have q141:x32_2 < (l0_5.length:Int):=of_decide_eq_true (by first|(with_reducible assumption)|assumption)
                 obtain ⟨ad141,e141,hx141_0⟩:=Kd.at_int HR0_5.out x32_2 p141 q141
                 cases e141
                 replace hx141_0:=(HB.out.cell (World.block_lt_of_cell? w _ hx141_0)).trans hx141_0
                 replace p141:=eq_true p141
                 replace q141:=eq_true q141
                 go_wp2
                 go_ret
                 exact ⟨by first|rfl|(simp [errW_none,errW_some] <;> rfl)|(simp [*,errW_none,errW_some] <;> rfl),by repeat (first|(with_reducible first|exact HB.out|apply below_alloc|apply pw_below_drewN|apply below_drew1|refine below_set ?_ GE134.out)|exact HB.out)⟩
                ·rw [if_neg c30] at H
                 have c30b0:decide ((rd l0_5 x32_2) < 0)=false:=decide_eq_false c30
                 clear c30
                 by_cases c32:(rd l0_5 x32_2) > 4
                 ·rw [if_pos c32] at H
                  have c32b0:decide (4 < (rd l0_5 x32_2))=true:=decide_eq_true c32
                  clear c32
                  obtain rfl:=Option.some.inj H
                  have hcz33_0:wr.cell? ⟨gb134,0,none⟩=some (.int .i64 a0_0):=(blk_cell BK134.out 0).trans rfl
                  have hcz33_1:wr.cell? ⟨gb134,1,none⟩=some (.int .i64 a0_1):=(blk_cell BK134.out 1).trans rfl
                  have hcz33_2:wr.cell? ⟨gb134,2,none⟩=some (.int .i64 a0_2):=(blk_cell BK134.out 2).trans rfl
                  have hcz33_3:wr.cell? ⟨gb134,3,none⟩=some (.slice A0_3 l0_3.length c0_3):=(blk_cell BK134.out 3).trans rfl
                  have hcz33_4:wr.cell? ⟨gb134,4,none⟩=some (.slice A0_4 l0_4.length c0_4):=(blk_cell BK134.out 4).trans rfl
                  have hcz33_5:wr.cell? ⟨gb134,5,none⟩=some (.slice A0_5 l0_5.length c0_5):=(blk_cell BK134.out 5).trans rfl
                  have hfz33_0:=blk_frozen BK134.out 0
                  have hfz33_1:=blk_frozen BK134.out 1
                  have hfz33_2:=blk_frozen BK134.out 2
                  have hfz33_3:=blk_frozen BK134.out 3
                  have hfz33_4:=blk_frozen BK134.out 4
                  have hfz33_5:=blk_frozen BK134.out 5
                  have p137:0≤(x32_2:Int):=of_decide_eq_true (by first|(with_reducible assumption)|assumption)
                  have q137:x32_2 < (l0_3.length:Int):=of_decide_eq_true (by first|(with_reducible assumption)|assumption)
                  obtain ⟨ad137,e137,hx137_0⟩:=Kd.at_int HR0_3.out x32_2 p137 q137
                  cases e137
                  replace hx137_0:=(HB.out.cell (World.block_lt_of_cell? w _ hx137_0)).trans hx137_0
                  replace p137:=eq_true p137
                  replace q137:=eq_true q137
                  have p138:0≤(x32_2:Int):=of_decide_eq_true (by first|(with_reducible assumption)|assumption)
                  have q138:x32_2 < (l0_3.length:Int):=of_decide_eq_true (by first|(with_reducible assumption)|assumption)
                  obtain ⟨ad138,e138,hx138_0⟩:=Kd.at_int HR0_3.out x32_2 p138 q138
                  obtain rfl:ad137=ad138:=(by injection e138)
                  replace hx138_0:=(HB.out.cell (World.block_lt_of_cell? w _ hx138_0)).trans hx138_0
                  replace p138:=eq_true p138
                  replace q138:=eq_true q138
                  have p139:0≤(x32_2:Int):=of_decide_eq_true (by first|(with_reducible assumption)|assumption)
                  have q139:x32_2 < (l0_4.length:Int):=of_decide_eq_true (by first|(with_reducible assumption)|assumption)
                  obtain ⟨ad139,e139,hx139_0⟩:=Kd.at_int HR0_4.out x32_2 p139 q139
                  cases e139
                  replace hx139_0:=(HB.out.cell (World.block_lt_of_cell? w _ hx139_0)).trans hx139_0
                  replace p139:=eq_true p139
                  replace q139:=eq_true q139
                  have p140:0≤(x32_2:Int):=of_decide_eq_true (by first|(with_reducible assumption)|assumption)
                  have q140:x32_2 < (l0_4.length:Int):=of_decide_eq_true (by first|(with_reducible assumption)|assumption)
                  obtain ⟨ad140,e140,hx140_0⟩:=Kd.at_int HR0_4.out x32_2 p140 q140
                  obtain rfl:ad139=ad140:=(by injection e140)
                  replace hx140_0:=(HB.out.cell (World.block_lt_of_cell? w _ hx140_0)).trans hx140_0
                  replace p140:=eq_true p140
                  replace q140:=eq_true q140
                  have p141:0≤(x32_2:Int):=of_decide_eq_true (by first|(with_reducible assumption)|assumption)
                  have q141:x32_2 < (l0_5.length:Int):=of_decide_eq_true (by first|(with_reducible assumption)|assumption)
                  obtain ⟨ad141,e141,hx141_0⟩:=Kd.at_int HR0_5.out x32_2 p141 q141
                  cases e141
                  replace hx141_0:=(HB.out.cell (World.block_lt_of_cell? w _ hx141_0)).trans hx141_0
                  replace p141:=eq_true p141
                  replace q141:=eq_true q141
                  have p142:0≤(x32_2:Int):=of_decide_eq_true (by first|(with_reducible assumption)|assumption)
                  have q142:x32_2 < (l0_5.length:Int):=of_decide_eq_true (by first|(with_reducible assumption)|assumption)
                  obtain ⟨ad142,e142,hx142_0⟩:=Kd.at_int HR0_5.out x32_2 p142 q142
                  obtain rfl:ad141=ad142:=(by injection e142)
                  replace hx142_0:=(HB.out.cell (World.block_lt_of_cell? w _ hx142_0)).trans hx142_0
                  replace p142:=eq_true p142
                  replace q142:=eq_true q142
                  go_wp2
                  go_ret
                  exact ⟨by first|rfl|(simp [errW_none,errW_some] <;> rfl)|(simp [*,errW_none,errW_some] <;> rfl),by repeat (first|(with_reducible first|exact HB.out|apply below_alloc|apply pw_below_drewN|apply below_drew1|refine below_set ?_ GE134.out)|exact HB.out)⟩
                 ·rw [if_neg c32] at H
                  have c32b0:decide (4 < (rd l0_5 x32_2))=false:=decide_eq_false c32
                  clear c32
                  have H':=Aside0.mk H
                  clear H
                  have hcz34_0:wr.cell? ⟨gb134,0,none⟩=some (.int .i64 a0_0):=(blk_cell BK134.out 0).trans rfl
                  have hcz34_1:wr.cell? ⟨gb134,1,none⟩=some (.int .i64 a0_1):=(blk_cell BK134.out 1).trans rfl
                  have hcz34_2:wr.cell? ⟨gb134,2,none⟩=some (.int .i64 a0_2):=(blk_cell BK134.out 2).trans rfl
                  have hcz34_3:wr.cell? ⟨gb134,3,none⟩=some (.slice A0_3 l0_3.length c0_3):=(blk_cell BK134.out 3).trans rfl
                  have hcz34_4:wr.cell? ⟨gb134,4,none⟩=some (.slice A0_4 l0_4.length c0_4):=(blk_cell BK134.out 4).trans rfl
                  have hcz34_5:wr.cell? ⟨gb134,5,none⟩=some (.slice A0_5 l0_5.length c0_5):=(blk_cell BK134.out 5).trans rfl
                  have hfz34_0:=blk_frozen BK134.out 0
                  have hfz34_1:=blk_frozen BK134.out 1
                  have hfz34_2:=blk_frozen BK134.out 2
                  have hfz34_3:=blk_frozen BK134.out 3
                  have hfz34_4:=blk_frozen BK134.out 4
                  have hfz34_5:=blk_frozen BK134.out 5
                  have p137:0≤(x32_2:Int):=of_decide_eq_true (by first|(with_reducible assumption)|assumption)
                  have q137:x32_2 < (l0_3.length:Int):=of_decide_eq_true (by first|(with_reducible assumption)|assumption)
                  obtain ⟨ad137,e137,hx137_0⟩:=Kd.at_int HR0_3.out x32_2 p137 q137
                  cases e137
                  replace hx137_0:=(HB.out.cell (World.block_lt_of_cell? w _ hx137_0)).trans hx137_0
                  replace p137:=eq_true p137
                  replace q137:=eq_true q137
                  have p138:0≤(x32_2:Int):=of_decide_eq_true (by first|(with_reducible assumption)|assumption)
                  have q138:x32_2 < (l0_3.length:Int):=of_decide_eq_true (by first|(with_reducible assumption)|assumption)
                  obtain ⟨ad138,e138,hx138_0⟩:=Kd.at_int HR0_3.out x32_2 p138 q138
                  obtain rfl:ad137=ad138:=(by injection e138)
                  replace hx138_0:=(HB.out.cell (World.block_lt_of_cell? w _ hx138_0)).trans hx138_0
                  replace p138:=eq_true p138
                  replace q138:=eq_true q138
                  have p139:0≤(x32_2:Int):=of_decide_eq_true (by first|(with_reducible assumption)|assumption)
                  have q139:x32_2 < (l0_4.length:Int):=of_decide_eq_true (by first|(with_reducible assumption)|assumption)
                  obtain ⟨ad139,e139,hx139_0⟩:=Kd.at_int HR0_4.out x32_2 p139 q139
                  cases e139
                  replace hx139_0:=(HB.out.cell (World.block_lt_of_cell? w _ hx139_0)).trans hx139_0
                  replace p139:=eq_true p139
                  replace q139:=eq_true q139
                  have p140:0≤(x32_2:Int):=of_decide_eq_true (by first|(with_reducible assumption)|assumption)
                  have q140:x32_2 < (l0_4.length:Int):=of_decide_eq_true (by first|(with_reducible assumption)|assumption)
                  obtain ⟨ad140,e140,hx140_0⟩:=Kd.at_int HR0_4.out x32_2 p140 q140
                  obtain rfl:ad139=ad140:=(by injection e140)
                  replace hx140_0:=(HB.out.cell (World.block_lt_of_cell? w _ hx140_0)).trans hx140_0
                  replace p140:=eq_true p140
                  replace q140:=eq_true q140
                  have p141:0≤(x32_2:Int):=of_decide_eq_true (by first|(with_reducible assumption)|assumption)
                  have q141:x32_2 < (l0_5.length:Int):=of_decide_eq_true (by first|(with_reducible assumption)|assumption)
                  obtain ⟨ad141,e141,hx141_0⟩:=Kd.at_int HR0_5.out x32_2 p141 q141
                  cases e141
                  replace hx141_0:=(HB.out.cell (World.block_lt_of_cell? w _ hx141_0)).trans hx141_0
                  replace p141:=eq_true p141
                  replace q141:=eq_true q141
                  have p142:0≤(x32_2:Int):=of_decide_eq_true (by first|(with_reducible assumption)|assumption)
                  have q142:x32_2 < (l0_5.length:Int):=of_decide_eq_true (by first|(with_reducible assumption)|assumption)
                  obtain ⟨ad142,e142,hx142_0⟩:=Kd.at_int HR0_5.out x32_2 p142 q142
                  obtain rfl:ad141=ad142:=(by injection e142)
                  replace hx142_0:=(HB.out.cell (World.block_lt_of_cell? w _ hx142_0)).trans hx142_0
                  replace p142:=eq_true p142
                  replace q142:=eq_true q142
                  go_wp2
                  go_roundg k2
                  case measure=>have:=HJ4.out;have:=HK2.out;omega
                  case rel=>exact ⟨(wrap64 (x32_2 + 1)),(by first|rfl|(simp;done)|(simp [*];done)),H',⟨by have:=HJ4.out;have:=HK2.out;omega⟩,⟨by (with_reducible repeat (first|refine blk_drewN ?_ _|refine blk_drew ?_|refine blk_alloc ?_ _));exact BK134.out⟩,⟨by repeat (first|(with_reducible first|exact HB.out|apply below_alloc|apply pw_below_drewN|apply below_drew1|refine below_set ?_ GE134.out)|exact HB.out)⟩⟩
               ·rw [if_neg c29] at H
                exact absurd H (by simp)
            ·rw [if_neg c24] at H
             exact absurd H (by simp)
         ·rw [if_neg c19] at H
          exact absurd H (by simp)
        ·rw [if_neg c18] at H
         exact absurd H (by simp)
       ·rw [if_neg c17] at H
        have c17b0:decide (x32_2 < t136)=false:=decide_eq_false c17
        clear c17
        obtain rfl:=Option.some.inj H
        go_wp2
        go_ret
        exact ⟨by first|rfl|(simp [errW_none,errW_some] <;> rfl)|(simp [*,errW_none,errW_some] <;> rfl),by repeat (first|(with_reducible first|exact HB.out|apply below_alloc|apply pw_below_drewN|apply below_drew1|refine below_set ?_ GE134.out)|exact HB.out)⟩
 ·replace c3:=Bool.eq_false_iff.mpr c3
  subst c3
  have H1:(some false)=some r:=by rw [if_neg (show ¬ (false=true) by decide)] at H;exact H
  clear H
  have H:=H1
  clear H1
  obtain rfl:=Option.some.inj H
  go_enter Try.func96,Try.ntmps96
  go_wp2_with (first|((with_reducible refine gate_dst (N:=1) rfl ?_);(try (refine gate_guard (by rfl) ?_;dsimp only));refine box_event ?hg (N:=1) ?hd (cs:=#[.int .i64 a0_0,.int .i64 a0_1,.int .i64 a0_2,.slice A0_3 l0_3.length c0_3,.slice A0_4 l0_4.length c0_4,.slice A0_5 l0_5.length c0_5]) (t:=34) ?hr ?_;(case hd=>rfl);(case hg=>rfl);(case hr=>first|(go_simp;done)|(go_simp;rfl));intro gb134 hg w35 hbox hb;have n0_:=Aside0.mk (below_step (by repeat (first|(with_reducible first|exact HB.out|apply below_alloc|apply pw_below_drewN|apply below_drew1)|exact HB.out)) hb);have n1_:=Aside0.mk (hbox);have n2_:=Aside0.mk ((by rw [hg];exact (below_size (by repeat (first|(with_reducible first|exact HB.out|apply below_alloc|apply pw_below_drewN|apply below_drew1)|exact HB.out))):w.heap.size≤gb134));have n3_:=Aside0.mk ((by rw [hg];exact (below_size (by repeat (first|(with_reducible first|exact HB.out|apply below_alloc|apply pw_below_drewN|apply below_drew1)|exact HB.out))):w.heap.size≤gb134));clear HB;have HB:=n0_;have BK134:=n1_;have GW134:=n2_;have GE134:=n3_;clear n0_ n1_ n2_ n3_;clear hb hbox hg;have hcz36_0:w35.cell? ⟨gb134,0,none⟩=some (.int .i64 a0_0):=(blk_cell BK134.out 0).trans rfl;have hcz36_1:w35.cell? ⟨gb134,1,none⟩=some (.int .i64 a0_1):=(blk_cell BK134.out 1).trans rfl;have hcz36_2:w35.cell? ⟨gb134,2,none⟩=some (.int .i64 a0_2):=(blk_cell BK134.out 2).trans rfl;have hcz36_3:w35.cell? ⟨gb134,3,none⟩=some (.slice A0_3 l0_3.length c0_3):=(blk_cell BK134.out 3).trans rfl;have hcz36_4:w35.cell? ⟨gb134,4,none⟩=some (.slice A0_4 l0_4.length c0_4):=(blk_cell BK134.out 4).trans rfl;have hcz36_5:w35.cell? ⟨gb134,5,none⟩=some (.slice A0_5 l0_5.length c0_5):=(blk_cell BK134.out 5).trans rfl;have hfz36_0:=blk_frozen BK134.out 0;have hfz36_1:=blk_frozen BK134.out 1;have hfz36_2:=blk_frozen BK134.out 2;have hfz36_3:=blk_frozen BK134.out 3;have hfz36_4:=blk_frozen BK134.out 4;have hfz36_5:=blk_frozen BK134.out 5)|((with_reducible refine gate_callee (f:=112) rfl ?_);refine goesL_ (some 7) rfl rfl Try.func112 (by kernel_rfl) rfl #[.agg #[.int .i64 a0_0,.int .i64 a0_1,.int .i64 a0_2]] rfl (by (try simp only [List.map_toArray,List.map_cons,List.map_nil]);first|done|rfl|(simp only [List.length_drop,List.length_take];rfl)) ?_;(with_reducible refine (impl_IsGrid.calls a0_0 a0_1 a0_2 false _ A2.out).mono ?_);rintro e w37 ⟨rfl,hb⟩;refine ⟨_,rfl,?_⟩;have n0_:=Aside0.mk (blk_below (g:=gb134) (o:=.cells #[.int .i64 a0_0,.int .i64 a0_1,.int .i64 a0_2,.slice A0_3 l0_3.length c0_3,.slice A0_4 l0_4.length c0_4,.slice A0_5 l0_5.length c0_5] 34 (0,0)) (by (with_reducible repeat (first|refine blk_drewN ?_ _|refine blk_drew ?_|refine blk_alloc ?_ _));exact BK134.out) hb);have n1_:=Aside0.mk (below_step (by repeat (first|(with_reducible first|exact HB.out|apply below_alloc|apply pw_below_drewN|apply below_drew1|refine below_set ?_ GE134.out)|exact HB.out)) hb);clear BK134;clear HB;have BK134:=n0_;have HB:=n1_;clear n0_ n1_;(try clear hb);(try clear hb2);(try clear hk);(try clear hi)))
  go_ret
  exact ⟨by first|rfl|(simp [errW_none,errW_some] <;> rfl)|(simp [*,errW_none,errW_some] <;> rfl),by repeat (first|(with_reducible first|exact HB.out|apply below_alloc|apply pw_below_drewN|apply below_drew1|refine below_set ?_ GE134.out)|exact HB.out)⟩
end Go.Proofs.Ytomfjhpiemipkaa.PFnOre
end
section
namespace Go.Proofs.Ytomfjhpiemipkaa.PFnOre
open Go.RowKit Go.Proofs.YtomfjhpiemipkaaW.PrintWords Go.Proofs.YtomfjhpiemipkaaW.PrintLast Go.Proofs.YtomfjhpiemipkaaW.PrintMore
attribute [local go_sem] max2_int min2_int max_two min_two max_three min_three max_four min_four   -- for this text's walks alone
set_option linter.unusedVariables false
set_option linter.unusedSimpArgs false
def impl_abs.f (a0:Int):Option (Int):=some (mx a0 (wrap64 (-a0)))
set_option maxHeartbeats 8000000 in
set_option maxRecDepth 100000 in
theorem impl_abs.calls (a0:Int) (r:Int) (w:World) (h:impl_abs.f a0=some r) :
  Calls Try.prog 167 #[.int .i64 a0] w fun e w'=>e=.returned (.int .i64 r)∧Below w.heap.size w w':=by
 have HB:=Aside0.mk (Below.refl w.heap.size w)
 have H:(some (mx a0 (wrap64 (-a0))))=some r:=h
 clear h
 obtain ⟨ji2,hji2⟩:∃ j_:Int,(mx a0 (wrap64 (-a0)))=j_:=⟨_,rfl⟩
 replace H:(some ji2)=some r:=by first|(rw [hji2] at H;exact H)|(simp only [hji2] at H ⊢;exact H)
 have hji2_:(if a0 < (wrap64 (-a0)) then (wrap64 (-a0)) else a0)=ji2:=hji2
 obtain rfl:=Option.some.inj H
 go_enter Try.func167,Try.ntmps167
 go_wp2
 go_ret
 exact ⟨by first|rfl|(simp [errW_none,errW_some] <;> rfl)|(simp only [← hji2];first|rfl|(simp [errW_none,errW_some] <;> rfl))|(simp [*,errW_none,errW_some] <;> rfl),by repeat (first|(with_reducible first|exact HB.out|apply below_alloc|apply pw_below_drewN|apply below_drew1)|exact HB.out)⟩
end Go.Proofs.Ytomfjhpiemipkaa.PFnOre
end
section
namespace Go.Proofs.Ytomfjhpiemipkaa.PFnOre
open Go.RowKit Go.Proofs.YtomfjhpiemipkaaW.PrintWords Go.Proofs.YtomfjhpiemipkaaW.PrintLast Go.Proofs.YtomfjhpiemipkaaW.PrintMore
attribute [local go_sem] max2_int min2_int max_two min_two max_three min_three max_four min_four   -- for this text's walks alone
set_option linter.unusedVariables false
set_option linter.unusedSimpArgs false
def impl_lowest.l0:Nat→Int→Int→Int→Int→Option (Int × Int)
 | 0,_,_,_,_=>none
 | k + 1,x0,x1,x6,x7=>if x7=0 then (if x6=0 then (none) else (some (wrap64 (Int.tdiv x0 x6),wrap64 (Int.tdiv x1 x6)))) else (impl_lowest.l0 k x0 x1 x7 (Int.tmod x6 x7))
def impl_lowest.f (k:Nat) (a0:Int) (a1:Int):Option (Int × Int):=(impl_abs.f a0).bind fun t146=>(impl_lowest.l0 k a0 a1 t146 a1)
set_option maxHeartbeats 8000000 in
set_option maxRecDepth 100000 in
theorem impl_lowest.calls (k:Nat) (a0:Int) (a1:Int) (r1:Int) (r2:Int) (w:World) (h:impl_lowest.f k a0 a1=some (r1,r2)) :
  Calls Try.prog 104 #[.int .i64 a0,.int .i64 a1] w fun e w'=>e=.returned (.tuple #[.int .i64 r1,.int .i64 r2])∧Below w.heap.size w w':=by
 have HB:=Aside0.mk (Below.refl w.heap.size w)
 have H:((impl_abs.f a0).bind fun t146=>(impl_lowest.l0 k a0 a1 t146 a1))=some (r1,r2):=h
 clear h
 replace H:=Option.bind_eq_some_iff.mp H
 obtain ⟨t146,A30,H⟩:=H
 replace H:(impl_lowest.l0 k a0 a1 t146 a1)=some (r1,r2):=H
 have A3:=Aside0.mk A30
 clear A30
 have H':=Aside0.mk H
 clear H
 go_enter Try.func104,Try.ntmps104
 go_wp2_with (first|(go_at_call 167;(with_reducible refine (impl_abs.calls a0 t146 _ A3.out).mono ?_);rintro e w4 ⟨rfl,hb⟩;have n0_:=Aside0.mk (below_step (by repeat (first|(with_reducible first|exact HB.out|apply below_alloc|apply pw_below_drewN|apply below_drew1)|exact HB.out)) hb);clear HB;have HB:=n0_;clear n0_;(try clear hb);(try clear hb2);(try clear hk);(try clear hi)))
 repeat (go_quiet (first|(go_at_call 167;(with_reducible refine (impl_abs.calls a0 t146 _ A3.out).mono ?_);rintro e w4 ⟨rfl,hb⟩;have n0_:=Aside0.mk (below_step (by repeat (first|(with_reducible first|exact HB.out|apply below_alloc|apply pw_below_drewN|apply below_drew1)|exact HB.out)) hb);clear HB;have HB:=n0_;clear n0_;(try clear hb);(try clear hb2);(try clear hk);(try clear hi)));try go_wp2_with (first|(go_at_call 167;(with_reducible refine (impl_abs.calls a0 t146 _ A3.out).mono ?_);rintro e w4 ⟨rfl,hb⟩;have n0_:=Aside0.mk (below_step (by repeat (first|(with_reducible first|exact HB.out|apply below_alloc|apply pw_below_drewN|apply below_drew1)|exact HB.out)) hb);clear HB;have HB:=n0_;clear n0_;(try clear hb);(try clear hb2);(try clear hk);(try clear hi))))
 go_loopg [6,7] k (fun kq v6 v7 w'=>∃ (x6_1:Int) (x7_1:Int),v6=.int .i64 x6_1∧v7=.int .i64 x7_1∧Aside0 (impl_lowest.l0 kq a0 a1 x6_1 x7_1=some (r1,r2))∧Aside0 (kq≤k)∧Aside0 (Below w.heap.size w w'))
 case atStart=>exact ⟨(t146),(a1),(by first|rfl|(simp;done)|(simp [*];done)),(by first|rfl|(simp;done)|(simp [*];done)),H',⟨Nat.le_refl _⟩,⟨by repeat (first|(with_reducible first|exact HB.out|apply below_alloc|apply pw_below_drewN|apply below_drew1)|exact HB.out)⟩⟩
 case round =>
  clear H'
  try clear c1
  try clear p2
  obtain ⟨x6_1,x7_1,rfl,rfl,HA,HK1,HB⟩:=hrel
  cases gk with
  | zero=>exact absurd HA.out (by simp [impl_lowest.l0])
  | succ k1 =>
   have H:=HA.out
   clear HA
   simp only [impl_lowest.l0] at H
   by_cases c5:x7_1=0
   ·rw [if_pos c5] at H
    have c5b0:(x7_1 == 0)=true:=beq_iff_eq.mpr c5
    have c5b1:(x7_1 != 0)=false:=bne_eq_false_iff_eq.mpr c5
    clear c5
    by_cases c6:x6_1=0
    ·rw [if_pos c6] at H
     exact absurd H (by simp)
    ·rw [if_neg c6] at H
     have c6b0:(x6_1 == 0)=false:=beq_eq_false_iff_ne.mpr c6
     have c6b1:(x6_1 != 0)=true:=bne_iff_ne.mpr c6
     simp only [Option.some.injEq,Prod.mk.injEq] at H
     obtain ⟨rfl,rfl⟩:=H
     go_wp2
     repeat (go_quiet (fail);try go_wp2)
     go_ret2
     exact ⟨by first|rfl|(simp [errW_none,errW_some] <;> rfl)|(simp [*,errW_none,errW_some] <;> rfl),by repeat (first|(with_reducible first|exact HB.out|apply below_alloc|apply pw_below_drewN|apply below_drew1)|exact HB.out)⟩
   ·rw [if_neg c5] at H
    have c5b0:(x7_1 == 0)=false:=beq_eq_false_iff_ne.mpr c5
    have c5b1:(x7_1 != 0)=true:=bne_iff_ne.mpr c5
    have H':=Aside0.mk H
    clear H
    go_wp2
    repeat (go_quiet (fail);try go_wp2)
    go_roundg k1
    case measure=>have:=HK1.out;omega
    case rel=>exact ⟨(x7_1),(Int.tmod x6_1 x7_1),(by first|rfl|(simp;done)|(simp [*];done)),(by first|rfl|(simp;done)|(simp [*];done)),H',⟨by have:=HK1.out;omega⟩,⟨by repeat (first|(with_reducible first|exact HB.out|apply below_alloc|apply pw_below_drewN|apply below_drew1)|exact HB.out)⟩⟩
end Go.Proofs.Ytomfjhpiemipkaa.PFnOre
end
