/- spec.ruParse and spec.ParseRule tell a list of parts. -/
import Derived.Test.YtahhiedlkegkgaaTStepW
import Derived.Test.YtahhiedlkegkgaaTOwnRuM
import Derived.Test.YtahhiedlkegkgaaTOwnRuleP
import Derived.Test.YtahhiedlkegkgaaTMFnMoneyx5
namespace Go.Proofs.Ytahhiedlkegkgaa.OwnRuQ
open Go.RowKit Go.Proofs.Ytahhiedlkegkgaa.PFnMoney Go.Proofs.YtahhiedlkegkgaaW.PrintWords Go.Proofs.YtahhiedlkegkgaaW.PrintLast Go.Proofs.YtahhiedlkegkgaaW.PrintMore Go.Proofs.Ytahhiedlkegkgaa.B Go.Proofs.Ytahhiedlkegkgaa.OwnRu Go.Proofs.Ytahhiedlkegkgaa.OwnRuM
set_option linter.unusedVariables false
set_option linter.unusedSimpArgs false
theorem aMQ:type_of% @Aside0.mk:=@Aside0.mk
theorem uAQ:type_of% @List.setIfInBounds_toArray.{0}:=@List.setIfInBounds_toArray.{0}
theorem uBQ:type_of% @List.set_cons_zero.{0}:=@List.set_cons_zero.{0}
theorem uCQ:type_of% @List.set_cons_succ.{0}:=@List.set_cons_succ.{0}
theorem l1Split_l0 (s:ByteArray) (c:UInt8) (hs:s.size≤1048576):∀ (d i m:Nat) (acc:List ByteArray),i + d=s.size→m≤i→acc.length≤i→(∀ u ∈ acc,u.size≤s.size) →
  ∃ r,Ev (fun k=>spec_l1Split.l0 k s (c.toNat:Int) acc (m:Int) (i:Int)) r∧r.length≤s.size + 1∧∀ u ∈ r,u.size≤s.size:=by
 have hx:∀ a b:Nat,(s.extract a b).size≤s.size:=fun a b=>by rw [ByteArray.size_extract];omega
 have hmem:∀ (acc:List ByteArray) (u:ByteArray),(∀ v ∈ acc,v.size≤s.size)→u.size≤s.size→∀ v ∈ acc ++ [u],v.size≤s.size:=fun acc u h1 h2 v hv=>by
  rcases List.mem_append.1 hv with hv|hv
  ·exact h1 v hv
  ·rw [List.mem_singleton.1 hv];exact h2
 intro d
 induction d with
 | zero =>
  intro i m acc hi hm ha hb;refine ⟨_,Ev.step (fun k=>spec_l1Split.l0.eq_2 s c.toNat acc m i k) (ev_neg (by omega) (ev_pos (by omega) (ev_pos (by omega) (ev_pos (by omega) (ev_some rfl))))),?_,hmem acc _ hb (hx _ _)⟩
  rw [List.length_append,List.length_singleton];omega
 | succ d ih =>
  intro i m acc hi hm ha hb
  by_cases h:bt s (i:Int)=(c.toNat:Int)
  ·obtain ⟨r,hr,h1,h2⟩:=ih (i + 1) (i + 1) (acc ++ [s.extract (m:Int).toNat (i:Int).toNat]) (by omega) (Nat.le_refl _) (by rw [List.length_append];simp;omega) (hmem acc _ hb (hx _ _))
   refine ⟨r,Ev.step (fun k=>spec_l1Split.l0.eq_2 s c.toNat acc m i k) (ev_pos (by omega) (ev_pos (by omega) ?_)),h1,h2⟩;rw [w_succ (n:=s.size) (by omega) (by omega)];exact ev_pos h (ev_pos (by omega) (ev_pos (by omega) (ev_pos (by omega) (ev_pos (by omega) hr))))
  ·obtain ⟨r,hr,h1,h2⟩:=ih (i + 1) m acc (by omega) (by omega) (by omega) hb
   refine ⟨r,Ev.step (fun k=>spec_l1Split.l0.eq_2 s c.toNat acc m i k) (ev_pos (by omega) (ev_pos (by omega) ?_)),h1,h2⟩;rw [w_succ (n:=s.size) (by omega) (by omega)];exact ev_neg h hr
theorem l1Split_tl (s:ByteArray) (c:UInt8) (hs:s.size≤1048576):∃ r,Ev (fun k=>spec_l1Split.f k s (c.toNat:Int)) r∧r.length≤s.size + 1∧∀ u ∈ r,u.size≤s.size:=by
 unfold spec_l1Split.f
 exact l1Split_l0 s c hs s.size 0 0 [] (by omega) (Nat.le_refl _) (Nat.le_refl _) (by simp)
def spec_ruParse_T2:Bool × List (List Nat × List Nat):=(true,[([],[]),([],[]),([1],[1]),([2,2],[2]),([3],[3]),([4,3],[3,4]),([5,3],[3,5]),([6,3],[3,6]),([3],[3]),([8,3],[3,8]),([9,3],[3,9]),([10,3],[3,10]),([11,3],[3,11]),([7,12,3],[3,7,12]),([3,13],[3,13]),([0,3,0],[0]),([14,15,0,1,2,3,4,5,6,7,8,9,10,11,12,13,14,15],[14])])
def spec_ruParse_B2:List Nat:=[0,0,2,6,14,30,62,126,14,270,782,1806,3854,8190,16382,15,65535]
theorem spec_ruParse_tab2:rtab .any (opsOf Try.f65 2)=spec_ruParse_T2:=by kernel_rfl
theorem spec_ruParse_bits2:waitsOk spec_ruParse_T2.2 spec_ruParse_B2=true:=by kernel_rfl
set_option maxHeartbeats 16000000 in
set_option maxRecDepth 100000 in
theorem ruParse_calls (s:ByteArray) (hs:s.size≤1000) (w:World):Calls Try.prog 65 #[.string s] w fun e w'=>∃ (W0:World) (g:Nat) (ws:List ByteArray) (p:Int) (out:PL) (b:Bool),e=.returned (.tuple #[.pointer (some ⟨g,0,none⟩),.bool b])∧PS W0 g ws p out w'∧Below w.heap.size w W0∧out.length≤1001:=by
 have hu:=Try.underlying92;obtain ⟨ws,hev,hwl,hwz⟩:=l1Split_tl s 32 (by omega);obtain ⟨ks,hks⟩:=hev.rounds;replace hks:spec_l1Split.f ks s 32=some ws:=hks;have HWL:Aside0 (ws.length≤1001):=⟨by omega⟩;have HWZ:Aside0 (∀ u ∈ ws,u.size≤1048576):=⟨fun u hu=>by have:=hwz u hu;omega⟩;have HKS:=aMQ hks;clear hev hwl hwz hks hs;go_enter Try.func65,Try.ntmps65
 go_wp2_with fail
 refine (spec_l1Split.calls ks s 32 ws w HKS.out).mono ?_;rintro e w1 ⟨v,rfl,ho,hb⟩;obtain ⟨A,c,rfl⟩:=Kd.R_slice ho;have HC:=aMQ (Kd.R_reads' ho).2.2;have HCC:=aMQ (Kd.R_reads' ho).2.1;have HB:=aMQ hb;clear ho hb
 go_wp2_with (first|((with_reducible refine gate_dst (N:=8) rfl ?_);refine box_event ?hg (N:=8) ?hd (cs:=#[.slice A ws.length c,.int .i64 0,.slice none 0 0]) (t:=92) ?hr ?_;(case hd=>rfl);(case hg=>rfl);(case hr=>first|(go_simp;done)|(go_simp;rfl));intro g hg w2 hbox hb;have HP:Aside0 (PS w1 g ws 0 [] w2):=⟨⟨A,c,none,0,hbox,⟨HC.out,HCC.out⟩,Kd.R_nil _ _ _ _ _,hb,(by rw [hg];exact Nat.le_refl _),by omega,by omega⟩⟩;clear hbox hb hg))
 have n0_:=aMQ HP.out.drew;clear HP;have HP:=n0_;clear n0_;refine start_ (n:=17) (S:=fun w'=>True) (ds:=[]) #[false,false,false,false,false,false,false,false,false,false,false,false,false,false,false,false,false] (by kernel_rfl) rfl rfl trivial (fun hHeld=>?_);refine with_tabW spec_ruParse_tab2 spec_ruParse_bits2 (fun HT_ HW_=>?_);generalize w2.drew=w3 at HP ⊢;refine wp_in [(0,9,1,0),(1,10,3,0)] 17 ?_
 iterate 2 ((refine pn_ (oi:=?_) (v:=?_) (a':=?_) HT_.out ?_ ?_ ?_ ?_ ?_ ?_ ?_ ?_;rotate_left 3;rfl;rfl;kernel_rfl;exact fun _ _ _ h=>h;rfl;intro w';go_simp;with_reducible rfl;simp only [Act.put,uAQ,uBQ,uCQ,i64_w,i32_w];rfl))
 refine wp_out ?_;refine one_ (i:=2) (N:=some 11) #[true,true,true,false,false,false,false,false,false,false,false,false,false,false,false,false,false] rfl rfl (one_of HT_.out (by kernel_rfl)) (by decide) (fun K hK=>?_);refine goes_ Try.func76 (by kernel_rfl) rfl #[.pointer (some ⟨g,0,none⟩)] (by rfl) rfl rfl (by (try simp only [List.map_toArray,List.map_cons,List.map_nil]);first|done|rfl|(simp only [List.length_drop,List.length_take];rfl)) ?_;refine (all_rule (by have:=HWL.out;omega) HWZ.out ws.length 0 [] w3 HP.out (by simp) (by omega)).mono ?_;rintro e w4 ⟨b,p,out,rfl,hle,hga,hP⟩;refine ⟨_,rfl,?_⟩;have n0_:=aMQ hP;have HGA:Aside0 ((out.length:Int)≤p):=⟨by simp at hga;omega⟩;clear HP hP hle hga;have HP:=n0_;clear n0_
 cases b with
 | false =>
  refine hK.out _ _ trivial (fun _=>?_);clear hK K;refine norm_ (a':=?_) ?_ ?_;rotate_left
  ·show Act.put _ (some 11) _=_
   simp only [Act.put,uAQ,uBQ,uCQ,i64_w,i32_w]
   rfl
  refine wp_in [(3,12,15,0),(4,13,31,2),(5,14,63,2),(6,15,127,2),(7,16,255,2),(8,17,511,2),(9,18,1023,2),(10,19,2047,2),(11,20,4095,2),(12,21,8191,2),(13,22,16383,2),(14,23,32767,0),(15,2,65535,0),(16,3,131071,0)] 17 ?_
  iterate 14 (first|(refine pn_ (oi:=?_) (v:=?_) (a':=?_) HT_.out ?_ ?_ ?_ ?_ ?_ ?_ ?_ ?_;rotate_left 3;rfl;rfl;kernel_rfl;exact fun _ _ _ h=>h;rfl;intro w';go_simp;with_reducible rfl;simp only [Act.put,uAQ,uBQ,uCQ,i64_w,i32_w];rfl)|(refine on_ (oi:=?_) (a':=?_) HT_.out ?_ ?_ ?_ ?_ ?_ ?_ ?_;rotate_left 2;rfl;rfl;kernel_rfl;exact fun _ _ _ h=>h;rfl;simp only [Act.put,uAQ,uBQ,uCQ,i64_w,i32_w];rfl))
  refine wp_out ?_;refine done_ (done_of HT_.out (by kernel_rfl)) ?_
  try go_wp2
  go_ret2
  exact ⟨w1,g,ws,p,out,_,rfl,HP.out,HB.out,by have:=HGA.out;have:=HP.out.bd;have:=HWL.out;omega⟩
 | true =>
  obtain ⟨A2,c2,e0,_⟩:=HP.out.cell0;have e1:=HP.out.cell1;refine hK.out _ _ trivial (fun _=>?_);clear hK K;refine norm_ (a':=?_) ?_ ?_;rotate_left
  ·show Act.put _ (some 11) _=_
   simp only [Act.put,uAQ,uBQ,uCQ,i64_w,i32_w]
   rfl
  refine wp_in [(3,12,15,0),(4,13,31,0),(5,14,63,0),(6,15,127,0),(8,17,383,0),(9,18,895,0),(10,19,1919,0),(15,2,34687,0)] 17 ?_
  iterate 8 ((refine pn_ (oi:=?_) (v:=?_) (a':=?_) HT_.out ?_ ?_ ?_ ?_ ?_ ?_ ?_ ?_;rotate_left 3;rfl;rfl;kernel_rfl;exact fun _ _ _ h=>h;rfl;intro w';go_simp;with_reducible rfl;simp only [Act.put,uAQ,uBQ,uCQ,i64_w,i32_w];rfl))
  refine wp_out ?_;refine two_ (i:=7) (j:=11) (Ni:=some 16) (Nj:=some 20) #[true,true,true,true,true,true,true,true,true,true,true,false,false,false,false,true,false] #[true,true,true,true,true,true,true,false,true,true,true,true,false,false,false,true,false] rfl rfl rfl rfl (two_of HT_.out (by kernel_rfl)) (by decide) (by decide) (fun K hK=>?_) (fun K hK=>?_)
  ·skip
   refine value_ (w1:=?_) (v:=?_) (by rfl) rfl ?_ ?_
   rotate_left 2
   ·go_simp
    constructor
    ·rfl
    ·rfl
   refine hK.out _ _ trivial (fun _=>?_);clear hK K;refine norm_ (a':=?_) ?_ ?_;rotate_left
   ·show Act.put _ (some 16) _=_
    simp only [Act.put,uAQ,uBQ,uCQ,i64_w,i32_w]
    rfl
   refine one_ (i:=11) (N:=some 20) #[true,true,true,true,true,true,true,true,true,true,true,true,false,false,false,true,false] rfl rfl (one_of HT_.out (by kernel_rfl)) (by decide) (fun K hK=>?_);refine value_ (w1:=?_) (v:=?_) (by rfl) rfl ?_ ?_
   rotate_left 2
   ·go_simp
    constructor
    ·rfl
    ·rfl
   refine hK.out _ _ trivial (fun _=>?_);clear hK K;refine norm_ (a':=?_) ?_ ?_;rotate_left
   ·show Act.put _ (some 20) _=_
    simp only [Act.put,uAQ,uBQ,uCQ,i64_w,i32_w]
    rfl
   refine wp_in [(12,21,40959,0),(13,22,49151,0),(14,23,65535,0),(16,3,131071,0)] 17 ?_
   iterate 4 ((refine pn_ (oi:=?_) (v:=?_) (a':=?_) HT_.out ?_ ?_ ?_ ?_ ?_ ?_ ?_ ?_;rotate_left 3;rfl;rfl;kernel_rfl;exact fun _ _ _ h=>h;rfl;intro w';go_simp;with_reducible rfl;simp only [Act.put,uAQ,uBQ,uCQ,i64_w,i32_w];rfl))
   refine wp_out ?_;refine done_ (done_of HT_.out (by kernel_rfl)) ?_
   try go_wp2
   go_ret2
   exact ⟨w1,g,ws,p,out,_,rfl,HP.out,HB.out,by have:=HGA.out;have:=HP.out.bd;have:=HWL.out;omega⟩
  ·skip
   refine value_ (w1:=?_) (v:=?_) (by rfl) rfl ?_ ?_
   rotate_left 2
   ·go_simp
    constructor
    ·rfl
    ·rfl
   refine hK.out _ _ trivial (fun _=>?_);clear hK K;refine norm_ (a':=?_) ?_ ?_;rotate_left
   ·show Act.put _ (some 20) _=_
    simp only [Act.put,uAQ,uBQ,uCQ,i64_w,i32_w]
    rfl
   refine pure_ (i:=12) (N:=some 21) (v:=?_) (a':=?_) #[true,true,true,true,true,true,true,false,true,true,true,true,true,false,false,true,false] rfl rfl (any_of HT_.out (by kernel_rfl)) (fun _ _ _ h=>h) (Or.inl ⟨by rfl,?_⟩) ?_ ?_;rotate_left
   ·intro w'
    go_simp
    with_reducible rfl
   rotate_left
   ·simp only [Act.put,uAQ,uBQ,uCQ,i64_w,i32_w]
    rfl
   refine one_ (i:=7) (N:=some 16) #[true,true,true,true,true,true,true,true,true,true,true,true,true,false,false,true,false] rfl rfl (one_of HT_.out (by kernel_rfl)) (by decide) (fun K hK=>?_);refine value_ (w1:=?_) (v:=?_) (by rfl) rfl ?_ ?_
   rotate_left 2
   ·go_simp
    constructor
    ·rfl
    ·rfl
   refine hK.out _ _ trivial (fun _=>?_);clear hK K;refine norm_ (a':=?_) ?_ ?_;rotate_left
   ·show Act.put _ (some 16) _=_
    simp only [Act.put,uAQ,uBQ,uCQ,i64_w,i32_w]
    rfl
   refine wp_in [(13,22,49151,0),(14,23,65535,0),(16,3,131071,0)] 17 ?_
   iterate 3 ((refine pn_ (oi:=?_) (v:=?_) (a':=?_) HT_.out ?_ ?_ ?_ ?_ ?_ ?_ ?_ ?_;rotate_left 3;rfl;rfl;kernel_rfl;exact fun _ _ _ h=>h;rfl;intro w';go_simp;with_reducible rfl;simp only [Act.put,uAQ,uBQ,uCQ,i64_w,i32_w];rfl))
   refine wp_out ?_;refine done_ (done_of HT_.out (by kernel_rfl)) ?_
   try go_wp2
   go_ret2
   exact ⟨w1,g,ws,p,out,_,rfl,HP.out,HB.out,by have:=HGA.out;have:=HP.out.bd;have:=HWL.out;omega⟩
set_option maxHeartbeats 16000000 in
set_option maxRecDepth 100000 in
theorem ParseRule_calls (s:ByteArray) (w:World):Calls Try.prog 54 #[.string s] w fun e w'=>∃ (v:Value) (l:PL) (b:Bool),e=.returned (.tuple #[v,.bool b])∧Kd.R k94 94 w' w.heap.size (fun _=>True) v l∧(b=true→1≤l.length∧l.length≤39)∧Below w.heap.size w w':=by
 have hu:=Try.underlying92
 by_cases hs:s.size≤600
 ·have d1:decide (600 < (s.size:Int))=false:=decide_eq_false (by omega)
  have d2:decide (600 < s.size)=false:=decide_eq_false (by omega);have HS:=aMQ hs;clear hs;go_enter Try.func54,Try.ntmps54
  go_wp2_with fail
  refine (ruParse_calls s (by have:=HS.out;omega) w).mono ?_;rintro e w1 ⟨W0,g,ws,p,out,b,rfl,hP,hB0,hl⟩;obtain ⟨A,c,Ao,co,hK,hC,hR,hB,hg,h0,h1⟩:=hP;have HK:=aMQ hK;have HR:=aMQ (Kd.R_lower hR (below_size hB0));have HB:=aMQ (below_step hB0 hB);clear hK hC hR hB hg h0 h1 hB0
  cases b with
  | false =>
   go_wp2
   go_ret2
   exact ⟨_,[],false,rfl,Kd.R_nil _ _ _ _ _,by simp,HB.out⟩
  | true =>
   have e2:w1.cell? ⟨g,2,none⟩=some (.slice Ao out.length co):=(blk_cell HK.out 2).trans rfl;obtain ⟨kg,hkg⟩:=(OwnRuleP.ruGood_ev out).rounds;obtain ⟨q,eq⟩:∃ q,q=OwnRuleDepth.isRuleB out:=⟨_,rfl⟩;rw [← eq] at hkg;have HQ:Aside0 (q=true→1≤out.length∧out.length≤39):=⟨fun h=>((OwnRuleP.isRuleB_iff out).1 (eq ▸ h)).1⟩;have HKG:=aMQ hkg;clear hkg eq hl
   go_wp2_with fail
   refine (spec_ruGood.calls kg Ao co out q w1 (Kd.R_reads' HR.out).2.2 (Kd.R_reads' HR.out).2.1 HKG.out).mono ?_;rintro e w2 ⟨rfl,hb⟩;have n0_:=aMQ (below_step HB.out hb);have n1_:=aMQ (blk_below HK.out hb);have n2_:=aMQ (Kd.R_below HR.out hb);clear HB HK HR hb e2 HKG;have HB:=n0_;have HK:=n1_;have HR:=n2_;clear n0_ n1_ n2_
   cases q with
   | false =>
    go_wp2
    go_ret2
    exact ⟨_,[],false,rfl,Kd.R_nil _ _ _ _ _,by simp,HB.out⟩
   | true =>
    have e2:w2.cell? ⟨g,2,none⟩=some (.slice Ao out.length co):=(blk_cell HK.out 2).trans rfl
    go_wp2
    go_ret2
    exact ⟨_,out,true,rfl,HR.out,fun _=>HQ.out (by simp),HB.out⟩
 ·have d1:decide (600 < (s.size:Int))=true:=decide_eq_true (by omega)
  have d2:decide (600 < s.size)=true:=decide_eq_true (by omega);clear hs;go_enter Try.func54,Try.ntmps54
  go_wp2
  go_ret2
  exact ⟨_,[],false,rfl,Kd.R_nil _ _ _ _ _,by simp,Below.refl _ _⟩
end Go.Proofs.Ytahhiedlkegkgaa.OwnRuQ
