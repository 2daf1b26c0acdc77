/- spec.ruState,the reader of rules: each of its methods ends,its words are taken from the left,and it adds no more parts than it takes words. -/
import Derived.Test.YtahhiedlkegkgaaTStepW
import Derived.Test.YtahhiedlkegkgaaTBase
import Derived.Test.YtahhiedlkegkgaaTMarks
import Derived.Test.YtahhiedlkegkgaaTFold
import Derived.Test.YtahhiedlkegkgaaTWTab
import Derived.Test.YtahhiedlkegkgaaTMFnMoneyx5
import Derived.Test.YtahhiedlkegkgaaTMFnMoneyx5
import Derived.Test.YtahhiedlkegkgaaTMFnMoneyx4
namespace Go.Proofs.Ytahhiedlkegkgaa.OwnRu
open Go.RowKit Go.Proofs.Ytahhiedlkegkgaa.PFnMoney Go.Proofs.YtahhiedlkegkgaaW.PrintWords Go.Proofs.YtahhiedlkegkgaaW.PrintLast Go.Proofs.YtahhiedlkegkgaaW.PrintMore Go.Proofs.Ytahhiedlkegkgaa.B
set_option linter.unusedVariables false
set_option linter.unusedSimpArgs false
theorem aMu:type_of% @Aside0.mk:=@Aside0.mk
theorem uAu:type_of% @List.setIfInBounds_toArray.{0}:=@List.setIfInBounds_toArray.{0}
def spec_ruState_is_T1:Bool × List (List Nat × List Nat):=(true,[([],[]),([0],[0]),([1],[1]),([2],[2]),([],[]),([4],[4]),([5],[5]),([6],[6]),([7],[7]),([3,8],[3,8]),([9],[9]),([10],[10]),([11,10],[10,11]),([12,10],[10,12]),([13,10],[10,13]),([10],[10]),([15,10],[10,15]),([16,10],[10,16]),([17,10],[10,17]),([14,18,10],[10,14,18]),([19,10],[10,19]),([10],[10]),([20,21,10],[10,20,21]),([10,22],[10,22]),([23,10,0,1,2,3,4,5,6,7,8,9,10,11,12,13,14,15,16,17,18,19,20,21,22,23],[23])])
def spec_ruState_is_B1:List Nat:=[0,1,3,7,0,16,48,112,240,511,1023,2047,4095,8191,16383,2047,34815,100351,231423,524287,1048575,2047,4194303,8388607,16777215]
theorem spec_ruState_is_tab1:rtab .any (opsOf Try.f83 1)=spec_ruState_is_T1:=by kernel_rfl
theorem spec_ruState_is_bits1:waitsOk spec_ruState_is_T1.2 spec_ruState_is_B1=true:=by kernel_rfl
theorem infoP:(Try.prog.info? 94).map (fun i=>(i.zero,i.size,i.bytes))=some (some (.agg #[(.int .i64 0),(.int .i64 0)]),2,16):=by kernel_rfl
abbrev PL:Type:=List S94
/-- The reader at g stands at the word p and has read the parts out. -/
def PS (W0:World) (g:Nat) (ws:List ByteArray) (p:Int) (out:PL) (W:World):Prop :=
 ∃ A c Ao co,W.heap[g]?=some (.cells #[.slice A ws.length c,.int .i64 p,.slice Ao out.length co] 92 (0,0))∧(Kd.C Kd.string W0 A ws.length ws∧ws.length≤c)∧Kd.R k94 94 W W0.heap.size (fun _=>True) (.slice Ao out.length co) out∧Below W0.heap.size W0 W∧W0.heap.size≤g∧0≤p∧p≤ws.length
section
variable {W0 W W1:World} {g:Nat} {ws:List ByteArray} {p:Int} {out:PL}
theorem PS.below (h:PS W0 g ws p out W) (hb:Below W.heap.size W W1):PS W0 g ws p out W1:=by
 obtain ⟨A,c,Ao,co,hK,hC,hR,hB,hr⟩:=h;exact ⟨A,c,Ao,co,blk_below hK hb,hC,Kd.R_below hR hb,below_step hB hb,hr⟩
theorem PS.drew (h:PS W0 g ws p out W):PS W0 g ws p out W.drew:=h.below (below_drew (Below.refl _ _))
theorem PS.frozen (h:PS W0 g ws p out W) (i:Nat):W.frozen? ⟨g,i,none⟩=false:=by
 obtain ⟨A,c,Ao,co,hK,_⟩:=h;exact blk_frozen hK i
theorem PS.cell1 (h:PS W0 g ws p out W):W.cell? ⟨g,1,none⟩=some (.int .i64 p):=by
 obtain ⟨A,c,Ao,co,hK,_⟩:=h;exact (blk_cell hK 1).trans rfl
theorem PS.cell0 (h:PS W0 g ws p out W):∃ A c,W.cell? ⟨g,0,none⟩=some (.slice A ws.length c)∧Kd.C Kd.string W A ws.length ws:=by
 obtain ⟨A,c,Ao,co,hK,hC,_,hB,_⟩:=h;exact ⟨A,c,(blk_cell hK 0).trans rfl,Kd.C_below hC.1 hB⟩
theorem PS.step (h:PS W0 g ws p out W) (hp:p < ws.length):PS W0 g ws (p + 1) out (W.setCell ⟨g,1,none⟩ (.int .i64 (p + 1))):=by
 obtain ⟨A,c,Ao,co,hK,hC,hR,hB,hg,h0,h1⟩:=h;exact ⟨A,c,Ao,co,blk_put (cs:=#[.slice A ws.length c,.int .i64 p,.slice Ao out.length co]) hK 1 _ rfl,hC,Kd.R_mono (Kd.R_far (p:=⟨g,1,none⟩) (Kd.R_types hR hK (by decide)) (fun _ hk=>hk.2) _) (fun _ _=>trivial),below_set hB hg,hg,by omega,by omega⟩
theorem PS.bd (h:PS W0 g ws p out W):0≤p∧p≤ws.length:=by
 obtain ⟨A,c,Ao,co,hK,hC,hR,hB,hg,h0,h1⟩:=h;exact ⟨h0,h1⟩
theorem PS.all (h:PS W0 g ws p out W):Below W0.heap.size W0 W:=by
 obtain ⟨A,c,Ao,co,hK,hC,hR,hB,hg,h0,h1⟩:=h;exact hB
theorem w1 {p:Int} {n:Nat} (h0:0≤p) (h:p < n) (hn:n≤1000000):wrap64 (p + 1)=p + 1:=w64 (by omega) (by omega)
set_option maxHeartbeats 8000000 in
set_option maxRecDepth 100000 in
theorem is_calls (h:PS W0 g ws p out W) (hn:ws.length≤1000000) (x:ByteArray):Calls Try.prog 83 #[.pointer (some ⟨g,0,none⟩),.string x] W fun e W'=>∃ b,e=.returned (.bool b)∧(b=true→p < ws.length)∧PS W0 g ws p out W'∧KeepBut W W' g none:=by
 have hu:=Try.underlying92;have h':=h.drew;have HP:=aMu h';have HKB:Aside0 (KeepBut W W.drew g none):=⟨KeepBut.of_below (below_drew (Below.refl _ _)) g none⟩;obtain ⟨A,c,e0,hC⟩:=h'.cell0;have e1:=h'.cell1;have HC:=aMu hC;have h0:=h.bd.1
 by_cases hp:p < ws.length
 ·obtain ⟨ad,ea,hx⟩:=Kd.at_string hC p h0 hp
  cases ea
  have hd:decide (p < (ws.length:Int))=true:=decide_eq_true hp;obtain ⟨y,ey⟩:∃ y,y=rdOf ByteArray.empty ws p:=⟨_,rfl⟩;rw [← ey] at hx;have q0:=eq_true h0;have q1:=eq_true hp;have HPP:=aMu hp;clear h h' hC ey hp h0;go_enter Try.func83,Try.ntmps83
  go_wp2
  refine start_ (n:=25) (S:=fun w'=>w'.cell? ⟨g,1,none⟩=some (.int .i64 p)∧w'.cell? ⟨g,0,none⟩=some (.slice (some ad) ws.length c)∧w'.cell? (ad.add p.toNat)=some (.string y)) (ds:=[]) #[false,false,false,false,false,false,false,false,false,false,false,false,false,false,false,false,false,false,false,false,false,false,false,false,false] (by kernel_rfl) rfl rfl ⟨e1,e0,hx⟩ (fun hHeld=>?_);refine with_tabW spec_ruState_is_tab1 spec_ruState_is_bits1 (fun HT_ HW_=>?_);generalize W.drew=wa at HP HKB HC e0 e1 hx hHeld ⊢;refine wp_in [(0,5,1,0),(1,6,3,0),(2,7,7,0),(4,9,23,0),(5,10,55,0),(6,11,119,0),(3,8,127,1),(7,12,255,1),(8,13,511,0),(9,14,1023,0),(10,15,2047,0),(11,16,4095,0),(12,17,8191,0),(13,18,16383,0),(15,20,49151,0),(16,21,114687,0),(17,22,245759,0),(21,26,2342911,0),(14,19,2359295,1),(18,23,2621439,1),(19,24,3145727,0),(20,25,4194303,1),(22,27,8388607,0),(23,28,16777215,0),(24,4,33554431,0)] 25 ?_
  iterate 25 (first|(refine pn_ (oi:=?_) (v:=?_) (a':=?_) HT_.out ?_ ?_ ?_ ?_ ?_ ?_ ?_ ?_;rotate_left 3;rfl;rfl;kernel_rfl;exact fun _ _ _ h=>h;rfl;intro w';go_simp;with_reducible rfl;simp only [Act.put,uAu,List.set_cons_zero,List.set_cons_succ,i64_w,i32_w];rfl)|(refine tn_ (oi:=?_) (v:=?_) (a':=?_) HT_.out HW_.out hHeld ?_ ?_ ?_ ?_ ?_ ?_ ?_ ?_;rotate_left 3;rfl;rfl;kernel_rfl;exact fun _ _ _ h=>h;rfl;rintro w' ⟨s0,s1,s2⟩;go_simp;with_reducible rfl;simp only [Act.put,uAu,List.set_cons_zero,List.set_cons_succ,i64_w,i32_w];rfl))
  refine wp_out ?_;refine done_ (done_of HT_.out (by kernel_rfl)) ?_
  try go_wp2
  go_ret
  exact ⟨_,rfl,fun _=>HPP.out,HP.out,HKB.out⟩
 ·have hd:decide (p < (ws.length:Int))=false:=decide_eq_false hp
  clear h h' hC hp h0;go_enter Try.func83,Try.ntmps83
  go_wp2
  refine start_ (n:=25) (S:=fun w'=>w'.cell? ⟨g,1,none⟩=some (.int .i64 p)∧w'.cell? ⟨g,0,none⟩=some (.slice A ws.length c)) (ds:=[]) #[false,false,false,false,false,false,false,false,false,false,false,false,false,false,false,false,false,false,false,false,false,false,false,false,false] (by kernel_rfl) rfl rfl ⟨e1,e0⟩ (fun hHeld=>?_);refine with_tabW spec_ruState_is_tab1 spec_ruState_is_bits1 (fun HT_ HW_=>?_);generalize W.drew=wa at HP HKB HC e0 e1 hHeld ⊢;refine wp_in [(0,5,1,0),(1,6,3,0),(2,7,7,0),(4,9,23,0),(5,10,55,0),(6,11,119,0),(3,8,127,1),(7,12,255,1),(8,13,511,0),(9,14,1023,0),(10,15,2047,0),(11,16,4095,2),(12,17,8191,2),(13,18,16383,2),(15,20,49151,2),(16,21,114687,2),(17,22,245759,2),(21,26,2342911,2),(14,19,2359295,2),(18,23,2621439,2),(19,24,3145727,2),(20,25,4194303,2),(22,27,8388607,2),(23,28,16777215,0),(24,4,33554431,0)] 25 ?_
  iterate 25 (first|(refine pn_ (oi:=?_) (v:=?_) (a':=?_) HT_.out ?_ ?_ ?_ ?_ ?_ ?_ ?_ ?_;rotate_left 3;rfl;rfl;kernel_rfl;exact fun _ _ _ h=>h;rfl;intro w';go_simp;with_reducible rfl;simp only [Act.put,uAu,List.set_cons_zero,List.set_cons_succ,i64_w,i32_w];rfl)|(refine tn_ (oi:=?_) (v:=?_) (a':=?_) HT_.out HW_.out hHeld ?_ ?_ ?_ ?_ ?_ ?_ ?_ ?_;rotate_left 3;rfl;rfl;kernel_rfl;exact fun _ _ _ h=>h;rfl;rintro w' ⟨s0,s1⟩;go_simp;with_reducible rfl;simp only [Act.put,uAu,List.set_cons_zero,List.set_cons_succ,i64_w,i32_w];rfl)|(refine on_ (oi:=?_) (a':=?_) HT_.out ?_ ?_ ?_ ?_ ?_ ?_ ?_;rotate_left 2;rfl;rfl;kernel_rfl;exact fun _ _ _ h=>h;rfl;simp only [Act.put,uAu,List.set_cons_zero,List.set_cons_succ,i64_w,i32_w];rfl))
  refine wp_out ?_;refine done_ (done_of HT_.out (by kernel_rfl)) ?_
  try go_wp2
  go_ret
  exact ⟨_,rfl,(by simp),HP.out,HKB.out⟩
set_option maxHeartbeats 8000000 in
set_option maxRecDepth 100000 in
theorem take_calls (h:PS W0 g ws p out W) (hn:ws.length≤1000000) (x:ByteArray):Calls Try.prog 79 #[.pointer (some ⟨g,0,none⟩),.string x] W fun e W'=>∃ b,e=.returned (.bool b)∧((b=false∧PS W0 g ws p out W') ∨ (b=true∧p < ws.length∧PS W0 g ws (p + 1) out W'))∧KeepBut W W' g none:=by
 have hu:=Try.underlying92;have HN:=aMu hn;go_enter Try.func79,Try.ntmps79
 go_wp2_with fail
 refine (is_calls h hn x).mono ?_;rintro e wa ⟨b,rfl,hb,hP,hkb⟩;have HP:=aMu hP;have HKB:=aMu hkb;clear hkb h
 cases b with
 | false =>
  clear hb hP hn
  go_wp2
  go_ret
  exact ⟨_,rfl,Or.inl ⟨rfl,HP.out⟩,HKB.out⟩
 | true =>
  have hp:=hb rfl;have hw:=w1 hP.bd.1 hp hn;have e1:=hP.cell1;have hf:=hP.frozen 1;have HPP:=aMu hp;clear hb hP hp hn
  go_wp2
  go_ret
  exact ⟨_,rfl,Or.inr ⟨rfl,HPP.out,HP.out.step HPP.out⟩,HKB.out.set_ _ _⟩
set_option maxHeartbeats 8000000 in
set_option maxRecDepth 100000 in
theorem add_calls (h:PS W0 g ws p out W) (ho:out.length≤1000000) (k v:Int):Calls Try.prog 81 #[.pointer (some ⟨g,0,none⟩),.int .i64 k,.int .i64 v] W fun e W'=>e=.returned (.tuple #[])∧PS W0 g ws p (out ++ [⟨k,v⟩]) W':=by
 have hu:=Try.underlying92;have hu2:=Try.underlying94;obtain ⟨A,c,Ao,co,hK,hC,hR,hB,hg,h0,h1⟩:=h;have HK:=aMu hK;have HC:=aMu hC;have HR:=aMu hR;have HB:=aMu hB;have HG:=aMu hg;have H01:Aside0 (0≤p∧p≤ws.length):=⟨h0,h1⟩;have HL:=aMu ho;have e2:W.cell? ⟨g,2,none⟩=some (.slice Ao out.length co):=(blk_cell HK.out 2).trans rfl;have hf:=blk_frozen HK.out 2;clear hK hC hR hB hg h0 h1 ho;go_enter Try.func81,Try.ntmps81
 go_wp2_with (first|((with_reducible refine gate_builtin (b:=.append) (xs:=#[.tmp 10,.tmp 14]) rfl ?_);at_builtin;refine Kd.R_append k94 (w0:=W0) W0.heap.size rfl (.tmp 10) (.tmp 14) 36 94 (.agg #[.int .i64 0,.int .i64 0]) 16 rfl Try.underlying36 infoP rfl (by decide) (by omega) (.slice Ao out.length co) out (⟨k,v⟩:S94) [.int .i64 k,.int .i64 v] (fun _=>True) (fun _=>False) rfl rfl ?aP (fun _ hk=>hk.elim) ?aF ?aO ?aB ?aS ?aL ?_;(case aP=>exact k94_mkM _ _ _ (⟨k,v⟩:S94));(case aF=>exact fun _ _=>trivial);(case aO=>exact HR.out);(case aB=>exact HB.out);(case aS=>exact below_size HB.out);(case aL=>have:=HL.out;omega);intro v15 w6 ho hb hg hat;have n0_:=aMu (blk_grown HK.out hg (Kd.R_ne HR.out HK.out (by decide)));have n1_:=aMu hb;obtain ⟨An,cn,en⟩:=Kd.R_slice ho;subst en;have n2_:=aMu ho;clear HK HB HR ho hb hg hat e2 hf;have HK:=n0_;have HB:=n1_;have HR:=n2_;clear n0_ n1_ n2_;have e2:w6.cell? ⟨g,2,none⟩=some (.slice Ao out.length co):=(blk_cell HK.out 2).trans rfl;have hf:=blk_frozen HK.out 2))
 first|go_end0|((try simp only [Exit.inBlock,Exit.then]);refine bodyPost_ret (results_none rfl _ _ _) rfl ?_)
 exact ⟨rfl,A,c,An,cn,blk_put (cs:=#[.slice A ws.length c,.int .i64 p,.slice Ao out.length co]) HK.out 2 _ (by simp),HC.out,Kd.R_mono (Kd.R_far (p:=⟨g,2,none⟩) (Kd.R_types HR.out HK.out (by decide)) (fun _ hk=>hk.2) _) (fun _ _=>trivial),below_set HB.out HG.out,HG.out,H01.out.1,H01.out.2⟩
end
end Go.Proofs.Ytahhiedlkegkgaa.OwnRu
