/- The contract of impl.RuleValue,by hand. -/
-- OWN impl RVsays %s %s
import Derived.Test.YtahhiedlkegkgaaTStepW
import Derived.Test.YtahhiedlkegkgaaTOwnRuleP
import Derived.Test.YtahhiedlkegkgaaTMFnMoneyx2
namespace Go.Proofs.Ytahhiedlkegkgaa.OwnRuleValue
open Go.RowKit Go.Proofs.Ytahhiedlkegkgaa.PFnMoney Go.Proofs.YtahhiedlkegkgaaW.PrintWords Go.Proofs.YtahhiedlkegkgaaW.PrintLast Go.Proofs.YtahhiedlkegkgaaW.PrintMore Go.Proofs.Ytahhiedlkegkgaa.B Go.Proofs.Ytahhiedlkegkgaa.OwnRuleDepth
set_option linter.unusedVariables false
set_option linter.unusedSimpArgs false
theorem aMe:type_of% @Aside0.mk:=@Aside0.mk
theorem bSe:type_of% @below_step:=@below_step
theorem kCe:type_of% @Kd.C_below:=@Kd.C_below
theorem zlue_0 {P:Prop} (h:P:=by first|(go_simp;done)|(go_simp;rfl)):P:=h
def RVsays (x y z:Int) (T G R:List Int) (l:List S94) (i:Int) (q:Int × Bool):Prop :=
 (modelOk x y z T G R=true∧isRuleB l=true∧0≤i∧i < (T.length:Int)→∃ k,impl_ruleValue.f k x y z T G R l i=some q)∧(¬ (modelOk x y z T G R=true∧isRuleB l=true∧0≤i∧i < (T.length:Int))→q=(0,false))
set_option maxHeartbeats 16000000 in
set_option maxRecDepth 100000 in
theorem own_impl (x y z:Int) (A3:Option Addr) (c3:Nat) (T:List Int) (A4:Option Addr) (c4:Nat) (G:List Int) (A5:Option Addr) (c5:Nat) (R:List Int) (A1:Option Addr) (c1:Nat) (l:List S94) (i:Int) (g0:Int) (g1:Bool) (w:World) (h3:Kd.C (Kd.int .i64) w A3 T.length T) (e3:T.length≤c3) (h4:Kd.C (Kd.int .i64) w A4 G.length G) (e4:G.length≤c4) (h5:Kd.C (Kd.int .i64) w A5 R.length R) (e5:R.length≤c5) (h1:Kd.C k94 w A1 l.length l) (e1:l.length≤c1) (l3:T.length≤1048576) (l4:G.length≤1048576) (l5:R.length≤1048576) (l1:l.length≤1048576) (h:RVsays x y z T G R l i (g0,g1)) :
  Calls Try.prog 10 #[.agg #[.int .i64 x,.int .i64 y,.int .i64 z,.slice A3 T.length c3,.slice A4 G.length c4,.slice A5 R.length c5],.slice A1 l.length c1,.int .i64 i] w fun e w'=>e=.returned (.tuple #[.int .i64 g0,.bool g1])∧Below w.heap.size w w':=by
 have hu1:=Try.underlying27;have hu2:=Try.underlying24;have H3:=aMe h3;have H4:=aMe h4;have H5:=aMe h5;have H1:=aMe h1;have E3:=aMe e3;have E4:=aMe e4;have E5:=aMe e5;have E1:=aMe e1;have L3:=aMe l3;have L1:=aMe l1;have HB:=aMe (Below.refl w.heap.size w);have HH:=aMe h;clear h3 h4 h5 h1 e3 e4 e5 e1 l3 l4 l5 l1 h
 cases hm:modelOk x y z T G R with
 | false =>
  have HM:=aMe hm;have HN:Aside0 ((g0,g1)=(0,false)):=⟨HH.out.2 (by rw [hm];simp)⟩;clear hm;go_enter Try.func10,Try.ntmps10
  go_wp2_with (first|((with_reducible refine gate_dst (N:=3) rfl ?_);refine box_event ?hg (N:=3) ?hd (cs:=#[.int .i64 x,.int .i64 y,.int .i64 z,.slice A3 T.length c3,.slice A4 G.length c4,.slice A5 R.length c5]) (t:=27) ?hr ?_;(case hd=>rfl);(case hg=>rfl);(case hr=>exact zlue_0);intro gb hg w6 hbox hb;have n0_:=aMe (bSe HB.out hb);have K1:=aMe hbox;have G1:=aMe ((by rw [hg];exact (below_size HB.out)):w.heap.size≤gb);clear HB;have HB:=n0_;clear n0_ hb hbox hg;obtain ⟨hc0,hf0,hc1,hf1,hc2,hf2,hc3,hf3,hc4,hf4,hc5,hf5⟩:=cf6 K1.out))
  clear hc0 hf0 hc1 hf1 hc2 hf2 hc3 hf3 hc4 hf4 hc5 hf5;obtain ⟨km,hkm⟩:=(IsModel_ev x y z T G R (maxLen_val (by have:=L3.out;omega))).rounds;rw [HM.out] at hkm;refine (impl_IsModel.calls km x y z A3 c3 T A4 c4 G A5 c5 R false _ (kCe H3.out HB.out) E3.out (kCe H4.out HB.out) E4.out (kCe H5.out HB.out) E5.out hkm).mono ?_;rintro e w7 ⟨rfl,hb⟩
  try replace hb:=drawn_below' hb
  clear hkm;have n0_:=aMe (bSe HB.out hb);have n1_:=aMe (blk_below K1.out hb);clear HB K1 hb;have HB:=n0_;have K1:=n1_;clear n0_ n1_;obtain ⟨hc0,hf0,hc1,hf1,hc2,hf2,hc3,hf3,hc4,hf4,hc5,hf5⟩:=cf6 K1.out
  go_wp2_with fail
  go_ret2
  exact ⟨congrArg (fun q:Int × Bool=>Ending.returned (.tuple #[.int .i64 q.1,.bool q.2])) HN.out.symm,HB.out⟩
 | true =>
  have HM:=aMe hm
  cases hr:isRuleB l with
  | false =>
   have HR:=aMe hr;have HN:Aside0 ((g0,g1)=(0,false)):=⟨HH.out.2 (by rw [hr];simp)⟩;clear hm hr;go_enter Try.func10,Try.ntmps10
   go_wp2_with (first|((with_reducible refine gate_dst (N:=3) rfl ?_);refine box_event ?hg (N:=3) ?hd (cs:=#[.int .i64 x,.int .i64 y,.int .i64 z,.slice A3 T.length c3,.slice A4 G.length c4,.slice A5 R.length c5]) (t:=27) ?hr ?_;(case hd=>rfl);(case hg=>rfl);(case hr=>exact zlue_0);intro gb hg w6 hbox hb;have n0_:=aMe (bSe HB.out hb);have K1:=aMe hbox;have G1:=aMe ((by rw [hg];exact (below_size HB.out)):w.heap.size≤gb);clear HB;have HB:=n0_;clear n0_ hb hbox hg;obtain ⟨hc0,hf0,hc1,hf1,hc2,hf2,hc3,hf3,hc4,hf4,hc5,hf5⟩:=cf6 K1.out))
   clear hc0 hf0 hc1 hf1 hc2 hf2 hc3 hf3 hc4 hf4 hc5 hf5;obtain ⟨km,hkm⟩:=(IsModel_ev x y z T G R (maxLen_val (by have:=L3.out;omega))).rounds;rw [HM.out] at hkm;refine (impl_IsModel.calls km x y z A3 c3 T A4 c4 G A5 c5 R true _ (kCe H3.out HB.out) E3.out (kCe H4.out HB.out) E4.out (kCe H5.out HB.out) E5.out hkm).mono ?_;rintro e w7 ⟨rfl,hb⟩
   try replace hb:=drawn_below' hb
   clear hkm;have n0_:=aMe (bSe HB.out hb);have n1_:=aMe (blk_below K1.out hb);clear HB K1 hb;have HB:=n0_;have K1:=n1_;clear n0_ n1_;obtain ⟨hc0,hf0,hc1,hf1,hc2,hf2,hc3,hf3,hc4,hf4,hc5,hf5⟩:=cf6 K1.out
   go_wp2_with fail
   clear hc0 hf0 hc1 hf1 hc2 hf2 hc3 hf3 hc4 hf4 hc5 hf5;refine (isRule_calls A1 c1 l _ (kCe H1.out HB.out) E1.out (maxLen_val (by have:=L1.out;omega))).mono ?_;rintro e w8 ⟨rfl,hb⟩;rw [HR.out];have n0_:=aMe (bSe HB.out hb);have n1_:=aMe (blk_below K1.out hb);clear HB K1 hb;have HB:=n0_;have K1:=n1_;clear n0_ n1_;obtain ⟨hc0,hf0,hc1,hf1,hc2,hf2,hc3,hf3,hc4,hf4,hc5,hf5⟩:=cf6 K1.out
   go_wp2_with fail
   go_ret2
   exact ⟨congrArg (fun q:Int × Bool=>Ending.returned (.tuple #[.int .i64 q.1,.bool q.2])) HN.out.symm,HB.out⟩
  | true =>
   have HR:=aMe hr
   by_cases hi:0≤i∧i < (T.length:Int)
   ·obtain ⟨kv,hkv⟩:=HH.out.1 ⟨hm,hr,hi.1,hi.2⟩
    have HKV:=aMe hkv;have t0:decide (i < 0)=false:=decide_eq_false (by omega);have t1:decide ((T.length:Int)≤i)=false:=decide_eq_false (by omega);clear hm hr hi hkv;go_enter Try.func10,Try.ntmps10
    go_wp2_with (first|((with_reducible refine gate_dst (N:=3) rfl ?_);refine box_event ?hg (N:=3) ?hd (cs:=#[.int .i64 x,.int .i64 y,.int .i64 z,.slice A3 T.length c3,.slice A4 G.length c4,.slice A5 R.length c5]) (t:=27) ?hr ?_;(case hd=>rfl);(case hg=>rfl);(case hr=>exact zlue_0);intro gb hg w6 hbox hb;have n0_:=aMe (bSe HB.out hb);have K1:=aMe hbox;have G1:=aMe ((by rw [hg];exact (below_size HB.out)):w.heap.size≤gb);clear HB;have HB:=n0_;clear n0_ hb hbox hg;obtain ⟨hc0,hf0,hc1,hf1,hc2,hf2,hc3,hf3,hc4,hf4,hc5,hf5⟩:=cf6 K1.out))
    clear hc0 hf0 hc1 hf1 hc2 hf2 hc3 hf3 hc4 hf4 hc5 hf5;obtain ⟨km,hkm⟩:=(IsModel_ev x y z T G R (maxLen_val (by have:=L3.out;omega))).rounds;rw [HM.out] at hkm;refine (impl_IsModel.calls km x y z A3 c3 T A4 c4 G A5 c5 R true _ (kCe H3.out HB.out) E3.out (kCe H4.out HB.out) E4.out (kCe H5.out HB.out) E5.out hkm).mono ?_;rintro e w7 ⟨rfl,hb⟩
    try replace hb:=drawn_below' hb
    clear hkm;have n0_:=aMe (bSe HB.out hb);have n1_:=aMe (blk_below K1.out hb);clear HB K1 hb;have HB:=n0_;have K1:=n1_;clear n0_ n1_;obtain ⟨hc0,hf0,hc1,hf1,hc2,hf2,hc3,hf3,hc4,hf4,hc5,hf5⟩:=cf6 K1.out
    go_wp2_with fail
    clear hc0 hf0 hc1 hf1 hc2 hf2 hc3 hf3 hc4 hf4 hc5 hf5;refine (isRule_calls A1 c1 l _ (kCe H1.out HB.out) E1.out (maxLen_val (by have:=L1.out;omega))).mono ?_;rintro e w8 ⟨rfl,hb⟩;rw [HR.out];have n0_:=aMe (bSe HB.out hb);have n1_:=aMe (blk_below K1.out hb);clear HB K1 hb;have HB:=n0_;have K1:=n1_;clear n0_ n1_;obtain ⟨hc0,hf0,hc1,hf1,hc2,hf2,hc3,hf3,hc4,hf4,hc5,hf5⟩:=cf6 K1.out
    go_wp2_with fail
    clear hc0 hf0 hc1 hf1 hc2 hf2 hc3 hf3 hc4 hf4 hc5 hf5;refine (impl_ruleValue.calls kv x y z A3 c3 T A4 c4 G A5 c5 R A1 c1 l i g0 g1 _ (kCe H3.out HB.out) E3.out (kCe H4.out HB.out) E4.out (kCe H5.out HB.out) E5.out (kCe H1.out HB.out) E1.out HKV.out).mono ?_;rintro e w9 ⟨rfl,hb⟩;have n0_:=aMe (bSe HB.out hb);have n1_:=aMe (blk_below K1.out hb);clear HB K1 hb;have HB:=n0_;have K1:=n1_;clear n0_ n1_
    go_wp2_with fail
    go_ret2
    exact ⟨rfl,HB.out⟩
   ·have HN:Aside0 ((g0,g1)=(0,false)):=⟨HH.out.2 (fun q=>hi q.2.2)⟩
    by_cases h0:i < 0
    ·have t0:decide (i < 0)=true:=decide_eq_true h0
     clear hm hr hi h0;go_enter Try.func10,Try.ntmps10
     go_wp2_with (first|((with_reducible refine gate_dst (N:=3) rfl ?_);refine box_event ?hg (N:=3) ?hd (cs:=#[.int .i64 x,.int .i64 y,.int .i64 z,.slice A3 T.length c3,.slice A4 G.length c4,.slice A5 R.length c5]) (t:=27) ?hr ?_;(case hd=>rfl);(case hg=>rfl);(case hr=>exact zlue_0);intro gb hg w6 hbox hb;have n0_:=aMe (bSe HB.out hb);have K1:=aMe hbox;have G1:=aMe ((by rw [hg];exact (below_size HB.out)):w.heap.size≤gb);clear HB;have HB:=n0_;clear n0_ hb hbox hg;obtain ⟨hc0,hf0,hc1,hf1,hc2,hf2,hc3,hf3,hc4,hf4,hc5,hf5⟩:=cf6 K1.out))
     clear hc0 hf0 hc1 hf1 hc2 hf2 hc3 hf3 hc4 hf4 hc5 hf5;obtain ⟨km,hkm⟩:=(IsModel_ev x y z T G R (maxLen_val (by have:=L3.out;omega))).rounds;rw [HM.out] at hkm;refine (impl_IsModel.calls km x y z A3 c3 T A4 c4 G A5 c5 R true _ (kCe H3.out HB.out) E3.out (kCe H4.out HB.out) E4.out (kCe H5.out HB.out) E5.out hkm).mono ?_;rintro e w7 ⟨rfl,hb⟩
     try replace hb:=drawn_below' hb
     clear hkm;have n0_:=aMe (bSe HB.out hb);have n1_:=aMe (blk_below K1.out hb);clear HB K1 hb;have HB:=n0_;have K1:=n1_;clear n0_ n1_;obtain ⟨hc0,hf0,hc1,hf1,hc2,hf2,hc3,hf3,hc4,hf4,hc5,hf5⟩:=cf6 K1.out
     go_wp2_with fail
     clear hc0 hf0 hc1 hf1 hc2 hf2 hc3 hf3 hc4 hf4 hc5 hf5;refine (isRule_calls A1 c1 l _ (kCe H1.out HB.out) E1.out (maxLen_val (by have:=L1.out;omega))).mono ?_;rintro e w8 ⟨rfl,hb⟩;rw [HR.out];have n0_:=aMe (bSe HB.out hb);have n1_:=aMe (blk_below K1.out hb);clear HB K1 hb;have HB:=n0_;have K1:=n1_;clear n0_ n1_;obtain ⟨hc0,hf0,hc1,hf1,hc2,hf2,hc3,hf3,hc4,hf4,hc5,hf5⟩:=cf6 K1.out
     go_wp2_with fail
     go_ret2
     exact ⟨congrArg (fun q:Int × Bool=>Ending.returned (.tuple #[.int .i64 q.1,.bool q.2])) HN.out.symm,HB.out⟩
    ·have t0:decide (i < 0)=false:=decide_eq_false h0
     have t1:decide ((T.length:Int)≤i)=true:=decide_eq_true (by omega);clear hm hr hi h0;go_enter Try.func10,Try.ntmps10
     go_wp2_with (first|((with_reducible refine gate_dst (N:=3) rfl ?_);refine box_event ?hg (N:=3) ?hd (cs:=#[.int .i64 x,.int .i64 y,.int .i64 z,.slice A3 T.length c3,.slice A4 G.length c4,.slice A5 R.length c5]) (t:=27) ?hr ?_;(case hd=>rfl);(case hg=>rfl);(case hr=>exact zlue_0);intro gb hg w6 hbox hb;have n0_:=aMe (bSe HB.out hb);have K1:=aMe hbox;have G1:=aMe ((by rw [hg];exact (below_size HB.out)):w.heap.size≤gb);clear HB;have HB:=n0_;clear n0_ hb hbox hg;obtain ⟨hc0,hf0,hc1,hf1,hc2,hf2,hc3,hf3,hc4,hf4,hc5,hf5⟩:=cf6 K1.out))
     clear hc0 hf0 hc1 hf1 hc2 hf2 hc3 hf3 hc4 hf4 hc5 hf5;obtain ⟨km,hkm⟩:=(IsModel_ev x y z T G R (maxLen_val (by have:=L3.out;omega))).rounds;rw [HM.out] at hkm;refine (impl_IsModel.calls km x y z A3 c3 T A4 c4 G A5 c5 R true _ (kCe H3.out HB.out) E3.out (kCe H4.out HB.out) E4.out (kCe H5.out HB.out) E5.out hkm).mono ?_;rintro e w7 ⟨rfl,hb⟩
     try replace hb:=drawn_below' hb
     clear hkm;have n0_:=aMe (bSe HB.out hb);have n1_:=aMe (blk_below K1.out hb);clear HB K1 hb;have HB:=n0_;have K1:=n1_;clear n0_ n1_;obtain ⟨hc0,hf0,hc1,hf1,hc2,hf2,hc3,hf3,hc4,hf4,hc5,hf5⟩:=cf6 K1.out
     go_wp2_with fail
     clear hc0 hf0 hc1 hf1 hc2 hf2 hc3 hf3 hc4 hf4 hc5 hf5;refine (isRule_calls A1 c1 l _ (kCe H1.out HB.out) E1.out (maxLen_val (by have:=L1.out;omega))).mono ?_;rintro e w8 ⟨rfl,hb⟩;rw [HR.out];have n0_:=aMe (bSe HB.out hb);have n1_:=aMe (blk_below K1.out hb);clear HB K1 hb;have HB:=n0_;have K1:=n1_;clear n0_ n1_;obtain ⟨hc0,hf0,hc1,hf1,hc2,hf2,hc3,hf3,hc4,hf4,hc5,hf5⟩:=cf6 K1.out
     go_wp2_with fail
     go_ret2
     exact ⟨congrArg (fun q:Int × Bool=>Ending.returned (.tuple #[.int .i64 q.1,.bool q.2])) HN.out.symm,HB.out⟩
end Go.Proofs.Ytahhiedlkegkgaa.OwnRuleValue
