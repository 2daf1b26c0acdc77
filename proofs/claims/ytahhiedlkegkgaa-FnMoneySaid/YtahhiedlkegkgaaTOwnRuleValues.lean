/- The contract of impl.RuleValues,by hand. -/
-- OWN impl RVsays %s %s
import Derived.Test.YtahhiedlkegkgaaTStepW
import Derived.Test.YtahhiedlkegkgaaTOwnRuleP
import Derived.Test.YtahhiedlkegkgaaTMFnMoneyx2
namespace Go.Proofs.Ytahhiedlkegkgaa.OwnRuleValues
open Go.RowKit Go.Proofs.Ytahhiedlkegkgaa.PFnMoney Go.Proofs.YtahhiedlkegkgaaW.PrintWords Go.Proofs.YtahhiedlkegkgaaW.PrintLast Go.Proofs.YtahhiedlkegkgaaW.PrintMore Go.Proofs.Ytahhiedlkegkgaa.B Go.Proofs.Ytahhiedlkegkgaa.OwnRuleDepth
set_option linter.unusedVariables false
set_option linter.unusedSimpArgs false
theorem aMs:type_of% @Aside0.mk:=@Aside0.mk
theorem kCs:type_of% @Kd.C_below:=@Kd.C_below
theorem zues_0 {P:Prop} (h:P:=by repeat (first|(with_reducible first|exact HB.out|apply below_alloc|apply pw_below_drewN|apply below_drew1)|exact HB.out)):P:=h
/-- what the loop over the blocks answers,block i and d - 1 more to go,with the values v so far -/
inductive RVl (x y z:Int) (T G R:List Int) (l:List S94):Nat→Nat→List Int→List Int × Bool→Prop
 | stop (i:Nat) (v:List Int):RVl x y z T G R l 0 i v (v,true)
 | fall (d i:Nat) (v:List Int) (k:Nat) (n:Int) (h:impl_ruleValue.f k x y z T G R l (i:Int)=some (n,false)):RVl x y z T G R l (d + 1) i v ([],false)
 | step (d i:Nat) (v:List Int) (k:Nat) (n:Int) (h:impl_ruleValue.f k x y z T G R l (i:Int)=some (n,true)) (q:List Int × Bool) (hq:RVl x y z T G R l d (i + 1) (v ++ [n]) q):RVl x y z T G R l (d + 1) i v q
def RVsays (x y z:Int) (T G R:List Int) (l:List S94) (q:List Int × Bool):Prop :=
 (modelOk x y z T G R=true∧isRuleB l=true→RVl x y z T G R l T.length 0 [] q)∧(¬ (modelOk x y z T G R=true∧isRuleB l=true)→q=([],false))
set_option maxHeartbeats 16000000 in
set_option maxRecDepth 100000 in
theorem own_impl (x y z:Int) (A3:Option Addr) (c3:Nat) (T:List Int) (A4:Option Addr) (c4:Nat) (G:List Int) (A5:Option Addr) (c5:Nat) (R:List Int) (A1:Option Addr) (c1:Nat) (l:List S94) (g0:List Int) (g1:Bool) (w:World) (h3:Kd.C (Kd.int .i64) w A3 T.length T) (e3:T.length≤c3) (h4:Kd.C (Kd.int .i64) w A4 G.length G) (e4:G.length≤c4) (h5:Kd.C (Kd.int .i64) w A5 R.length R) (e5:R.length≤c5) (h1:Kd.C k94 w A1 l.length l) (e1:l.length≤c1) (l3:T.length≤1048576) (l4:G.length≤1048576) (l5:R.length≤1048576) (l1:l.length≤1048576) (h:RVsays x y z T G R l (g0,g1)) :
  Calls Try.prog 12 #[.agg #[.int .i64 x,.int .i64 y,.int .i64 z,.slice A3 T.length c3,.slice A4 G.length c4,.slice A5 R.length c5],.slice A1 l.length c1] w fun e w'=>∃ v:Value,e=.returned (.tuple #[v,.bool g1])∧Kd.R (Kd.int .i64) 3 w' w.heap.size (fun _=>True) v g0∧Below w.heap.size w w':=by
 have hu1:=Try.underlying27;have hu2:=Try.underlying24;have H3:=aMs h3;have H4:=aMs h4;have H5:=aMs h5;have H1:=aMs h1;have E3:=aMs e3;have E4:=aMs e4;have E5:=aMs e5;have E1:=aMs e1;have L3:=aMs l3;have L1:=aMs l1;have HB:=aMs (Below.refl w.heap.size w);have HH:=aMs h;clear h3 h4 h5 h1 e3 e4 e5 e1 l3 l4 l5 l1 h
 cases hm:modelOk x y z T G R with
 | false =>
  have HM:=aMs hm;have HN:Aside0 ((g0,g1)=([],false)):=⟨HH.out.2 (by rw [hm];simp)⟩;clear hm;go_enter Try.func12,Try.ntmps12
  go_wp2_with (first|((with_reducible refine gate_dst (N:=2) rfl ?_);refine box_event ?hg (N:=2) ?hd (cs:=#[.int .i64 x,.int .i64 y,.int .i64 z,.slice A3 T.length c3,.slice A4 G.length c4,.slice A5 R.length c5]) (t:=27) ?hr ?_;(case hd=>rfl);(case hg=>rfl);(case hr=>first|(go_simp;done)|(go_simp;rfl));intro gb hg w6 hbox hb;have n0_:=aMs (below_step HB.out hb);have K1:=aMs hbox;have G1:=aMs ((by rw [hg];exact (below_size HB.out)):w.heap.size≤gb);clear HB;have HB:=n0_;clear n0_ hb hbox hg;obtain ⟨hc0,hf0,hc1,hf1,hc2,hf2,hc3,hf3,hc4,hf4,hc5,hf5⟩:=cf6 K1.out))
  clear hc0 hf0 hc1 hf1 hc2 hf2 hc3 hf3 hc4 hf4 hc5 hf5;obtain ⟨km,hkm⟩:=(IsModel_ev x y z T G R (maxLen_val (by have:=L3.out;omega))).rounds;rw [HM.out] at hkm;refine (impl_IsModel.calls km x y z A3 c3 T A4 c4 G A5 c5 R false _ (kCs H3.out HB.out) E3.out (kCs H4.out HB.out) E4.out (kCs H5.out HB.out) E5.out hkm).mono ?_;rintro e w7 ⟨rfl,hb⟩
  try replace hb:=drawn_below' hb
  clear hkm;have n0_:=aMs (below_step HB.out hb);have n1_:=aMs (blk_below K1.out hb);clear HB K1 hb;have HB:=n0_;have K1:=n1_;clear n0_ n1_;obtain ⟨hc0,hf0,hc1,hf1,hc2,hf2,hc3,hf3,hc4,hf4,hc5,hf5⟩:=cf6 K1.out
  go_wp2_with fail
  go_ret2
  exact ⟨_,congrArg (fun q:List Int × Bool=>Ending.returned (.tuple #[.slice none 0 0,.bool q.2])) HN.out.symm,by rw [show g0=[] from congrArg Prod.fst HN.out];exact Kd.R_nil _ _ _ _ _,HB.out⟩
 | true =>
  have HM:=aMs hm;have HTL:=aMs (model_bd hm).2.1
  cases hr:isRuleB l with
  | false =>
   have HR:=aMs hr;have HN:Aside0 ((g0,g1)=([],false)):=⟨HH.out.2 (by rw [hr];simp)⟩;clear hm hr;go_enter Try.func12,Try.ntmps12
   go_wp2_with (first|((with_reducible refine gate_dst (N:=2) rfl ?_);refine box_event ?hg (N:=2) ?hd (cs:=#[.int .i64 x,.int .i64 y,.int .i64 z,.slice A3 T.length c3,.slice A4 G.length c4,.slice A5 R.length c5]) (t:=27) ?hr ?_;(case hd=>rfl);(case hg=>rfl);(case hr=>first|(go_simp;done)|(go_simp;rfl));intro gb hg w6 hbox hb;have n0_:=aMs (below_step HB.out hb);have K1:=aMs hbox;have G1:=aMs ((by rw [hg];exact (below_size HB.out)):w.heap.size≤gb);clear HB;have HB:=n0_;clear n0_ hb hbox hg;obtain ⟨hc0,hf0,hc1,hf1,hc2,hf2,hc3,hf3,hc4,hf4,hc5,hf5⟩:=cf6 K1.out))
   clear hc0 hf0 hc1 hf1 hc2 hf2 hc3 hf3 hc4 hf4 hc5 hf5;obtain ⟨km,hkm⟩:=(IsModel_ev x y z T G R (maxLen_val (by have:=L3.out;omega))).rounds;rw [HM.out] at hkm;refine (impl_IsModel.calls km x y z A3 c3 T A4 c4 G A5 c5 R true _ (kCs H3.out HB.out) E3.out (kCs H4.out HB.out) E4.out (kCs H5.out HB.out) E5.out hkm).mono ?_;rintro e w7 ⟨rfl,hb⟩
   try replace hb:=drawn_below' hb
   clear hkm;have n0_:=aMs (below_step HB.out hb);have n1_:=aMs (blk_below K1.out hb);clear HB K1 hb;have HB:=n0_;have K1:=n1_;clear n0_ n1_;obtain ⟨hc0,hf0,hc1,hf1,hc2,hf2,hc3,hf3,hc4,hf4,hc5,hf5⟩:=cf6 K1.out
   go_wp2_with fail
   clear hc0 hf0 hc1 hf1 hc2 hf2 hc3 hf3 hc4 hf4 hc5 hf5;refine (isRule_calls A1 c1 l _ (kCs H1.out HB.out) E1.out (maxLen_val (by have:=L1.out;omega))).mono ?_;rintro e w8 ⟨rfl,hb⟩;rw [HR.out];have n0_:=aMs (below_step HB.out hb);have n1_:=aMs (blk_below K1.out hb);clear HB K1 hb;have HB:=n0_;have K1:=n1_;clear n0_ n1_;obtain ⟨hc0,hf0,hc1,hf1,hc2,hf2,hc3,hf3,hc4,hf4,hc5,hf5⟩:=cf6 K1.out
   go_wp2_with fail
   go_ret2
   exact ⟨_,congrArg (fun q:List Int × Bool=>Ending.returned (.tuple #[.slice none 0 0,.bool q.2])) HN.out.symm,by rw [show g0=[] from congrArg Prod.fst HN.out];exact Kd.R_nil _ _ _ _ _,HB.out⟩
  | true =>
   have HR:=aMs hr;have HL:=aMs (HH.out.1 ⟨hm,hr⟩);clear hm hr;go_enter Try.func12,Try.ntmps12
   go_wp2_with (first|((with_reducible refine gate_dst (N:=2) rfl ?_);refine box_event ?hg (N:=2) ?hd (cs:=#[.int .i64 x,.int .i64 y,.int .i64 z,.slice A3 T.length c3,.slice A4 G.length c4,.slice A5 R.length c5]) (t:=27) ?hr ?_;(case hd=>rfl);(case hg=>rfl);(case hr=>first|(go_simp;done)|(go_simp;rfl));intro gb hg w6 hbox hb;have n0_:=aMs (below_step HB.out hb);have K1:=aMs hbox;have G1:=aMs ((by rw [hg];exact (below_size HB.out)):w.heap.size≤gb);clear HB;have HB:=n0_;clear n0_ hb hbox hg;obtain ⟨hc0,hf0,hc1,hf1,hc2,hf2,hc3,hf3,hc4,hf4,hc5,hf5⟩:=cf6 K1.out))
   clear hc0 hf0 hc1 hf1 hc2 hf2 hc3 hf3 hc4 hf4 hc5 hf5;obtain ⟨km,hkm⟩:=(IsModel_ev x y z T G R (maxLen_val (by have:=L3.out;omega))).rounds;rw [HM.out] at hkm;refine (impl_IsModel.calls km x y z A3 c3 T A4 c4 G A5 c5 R true _ (kCs H3.out HB.out) E3.out (kCs H4.out HB.out) E4.out (kCs H5.out HB.out) E5.out hkm).mono ?_;rintro e w7 ⟨rfl,hb⟩
   try replace hb:=drawn_below' hb
   clear hkm;have n0_:=aMs (below_step HB.out hb);have n1_:=aMs (blk_below K1.out hb);clear HB K1 hb;have HB:=n0_;have K1:=n1_;clear n0_ n1_;obtain ⟨hc0,hf0,hc1,hf1,hc2,hf2,hc3,hf3,hc4,hf4,hc5,hf5⟩:=cf6 K1.out
   go_wp2_with fail
   clear hc0 hf0 hc1 hf1 hc2 hf2 hc3 hf3 hc4 hf4 hc5 hf5;refine (isRule_calls A1 c1 l _ (kCs H1.out HB.out) E1.out (maxLen_val (by have:=L1.out;omega))).mono ?_;rintro e w8 ⟨rfl,hb⟩;rw [HR.out];have n0_:=aMs (below_step HB.out hb);have n1_:=aMs (blk_below K1.out hb);clear HB K1 hb;have HB:=n0_;have K1:=n1_;clear n0_ n1_;obtain ⟨hc0,hf0,hc1,hf1,hc2,hf2,hc3,hf3,hc4,hf4,hc5,hf5⟩:=cf6 K1.out
   go_wp2_with (first|((with_reducible refine gate_dst (N:=18) rfl ?_);refine Kd.R_lit (Kd.int .i64) _ 3 ?hg (N:=18) ?hd (xs:=([]:List Int)) (inner:=[]) (ok:=fun _=>True) (okp:=fun _=>True) ?hr ?hp (fun _ hk=>hk) trivial (Below.refl _ _) (Nat.le_refl _) (by simp) ?_;(case hd=>rfl);(case hg=>rfl);(case hr=>first|(go_simp;done)|(go_simp;rfl));(case hp=>exact (Reps.none _ _));intro v0 w9 ho hb hg_ hnew_;clear hg_ hnew_;have n2_:=aMs (Kd.R_lower ho (below_size HB.out));have n0_:=aMs (below_step HB.out hb);have n1_:=aMs (blk_below K1.out hb);clear HB K1 hc0 hf0 hc1 hf1 hc2 hf2 hc3 hf3 hc4 hf4 hc5 hf5;have HB:=n0_;have K1:=n1_;have HO:=n2_;clear n0_ n1_ n2_ ho hb;obtain ⟨hc0,hf0,hc1,hf1,hc2,hf2,hc3,hf3,hc4,hf4,hc5,hf5⟩:=cf6 K1.out))
   clear hc0 hf0 hc1 hf1 hc2 hf2 hc3 hf3 hc4 hf4 hc5 hf5
   go_loopg [6,22] (T.length) (fun q v6 v22 wr=>∃ (v:List Int) (i:Int),v22=.int .i64 i∧Aside0 (0≤i∧i + q=T.length∧(v.length:Int)=i)∧Aside0 (RVl x y z T G R l q i.toNat v (g0,g1))∧Aside0 (wr.heap[gb]?=some (.cells #[.int .i64 x,.int .i64 y,.int .i64 z,.slice A3 T.length c3,.slice A4 G.length c4,.slice A5 R.length c5] 27 (0,0)))∧Aside0 (Kd.R (Kd.int .i64) 3 wr w.heap.size (fun k=>True) v6 v)∧Aside0 (Below w.heap.size w wr))
   case atStart=>exact ⟨[],0,rfl,⟨by omega,by omega,rfl⟩,HL,K1,HO,HB⟩
   case round =>
    clear HL K1 HO HB;obtain ⟨v,i,rfl,HI,HL,K1,HO,HB⟩:=hrel;have hi:=HI.out
    cases gk with
    | zero =>
     have hd:decide (i < (T.length:Int))=false:=decide_eq_false (by omega);have hs:=HL.out
     cases hs
     clear hi
     go_wp2_with fail
     go_ret2
     exact ⟨_,rfl,HO.out,HB.out⟩
    | succ q =>
     have hd:decide (i < (T.length:Int))=true:=decide_eq_true (by omega)
     have ein:((i.toNat:Nat):Int)=i:=by omega
     have EIN:=aMs ein;have hs:=HL.out;clear hi ein
     cases hs with
     | fall _ _ _ k n h =>
      have HK:=aMs h;clear h;obtain ⟨hc0,hf0,hc1,hf1,hc2,hf2,hc3,hf3,hc4,hf4,hc5,hf5⟩:=cf6 K1.out
      go_wp2_with fail
      clear hc0 hf0 hc1 hf1 hc2 hf2 hc3 hf3 hc4 hf4 hc5 hf5;refine (impl_ruleValue.calls k x y z A3 c3 T A4 c4 G A5 c5 R A1 c1 l i n false _ (kCs H3.out HB.out) E3.out (kCs H4.out HB.out) E4.out (kCs H5.out HB.out) E5.out (kCs H1.out HB.out) E1.out (by have h:=HK.out;rwa [EIN.out] at h)).mono ?_;rintro e w9 ⟨rfl,hb⟩;have n0_:=aMs (below_step HB.out hb);clear HB hb;have HB:=n0_;clear n0_
      go_wp2_with fail
      go_ret2
      exact ⟨_,rfl,Kd.R_nil _ _ _ _ _,HB.out⟩
     | step _ _ _ k n h _ hq =>
      have HK:=aMs h;have HQ:=aMs hq;clear h hq;obtain ⟨hc0,hf0,hc1,hf1,hc2,hf2,hc3,hf3,hc4,hf4,hc5,hf5⟩:=cf6 K1.out
      go_wp2_with fail
      clear hc0 hf0 hc1 hf1 hc2 hf2 hc3 hf3 hc4 hf4 hc5 hf5;refine (impl_ruleValue.calls k x y z A3 c3 T A4 c4 G A5 c5 R A1 c1 l i n true _ (kCs H3.out HB.out) E3.out (kCs H4.out HB.out) E4.out (kCs H5.out HB.out) E5.out (kCs H1.out HB.out) E1.out (by have h:=HK.out;rwa [EIN.out] at h)).mono ?_;rintro e w9 ⟨rfl,hb⟩;have n2_:=aMs (Kd.R_below HO.out hb);have n0_:=aMs (below_step HB.out hb);have n1_:=aMs (blk_below K1.out hb);clear HB K1 hb;have HB:=n0_;have K1:=n1_;clear n0_ n1_ HO;have HO:=n2_;clear n2_;obtain ⟨A6,c6,rfl⟩:=Kd.R_slice HO.out;have HNE:=aMs (Kd.R_ne HO.out K1.out (by decide));have HVL:Aside0 (v.length≤120):=⟨by have:=HI.out;have:=HTL.out;omega⟩
      go_wp2_with (first|((with_reducible refine gate_builtin (b:=.append) (xs:=#[.tmp 34,.tmp 36]) rfl ?_);at_builtin;refine Kd.R_append (Kd.int .i64) (w0:=w) w.heap.size rfl (.tmp 34) (.tmp 36) 25 3 (.int .i64 0) 8 rfl Try.underlying25 inf3 rfl (by decide) (by omega) (.slice A6 v.length c6) v n [.int .i64 n] (fun k=>True) (fun _=>False) rfl rfl ?aP (fun _ hk=>hk.elim) ?aF ?aO ?aB ?aS ?aL ?_;(case aP=>exact rfl);(case aB=>exact (zues_0));(case aF=>exact (fun k hk=>trivial));(case aO=>exact (by (with_reducible repeat (first|apply Kd.R_alloc|apply Kd.R_drewN|apply Kd.R_drew));exact HO.out));(case aS=>exact (below_size (zues_0)));(case aL=>have h1_:=HVL.out;omega);intro v229 w10 ho hb hg hat;have n3_:=aMs hb;have n4_:=aMs ho;clear HB HO;have HB:=n3_;have HO:=n4_;clear n3_ n4_;have n5_:=aMs (blk_grown K1.out hg HNE.out);clear K1 HNE;have K1:=n5_;clear n5_ ho hb hg hat))
      go_roundg q
      case measure=>omega
      case rel =>
       have hi:=HI.out;have htl:=HTL.out;have e:wrap64 (i + 1)=i + 1:=w64 (by omega) (by omega);exact ⟨v ++ [n],i + 1,by rw [e],⟨by omega,by omega,by rw [List.length_append];show ((v.length + 1:Nat):Int)=_;omega⟩,⟨by rw [show (i + 1).toNat=i.toNat + 1 by omega];exact HQ.out⟩,K1,HO,HB⟩
end Go.Proofs.Ytahhiedlkegkgaa.OwnRuleValues
