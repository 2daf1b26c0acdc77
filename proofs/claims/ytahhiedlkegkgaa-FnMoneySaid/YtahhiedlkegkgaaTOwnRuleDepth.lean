/- The contract of impl.ruleDepth,by hand: it tells the depth that a list of parts has by its stack,and whether it is a rule. -/
import Derived.Test.YtahhiedlkegkgaaTStepW
import Derived.Test.YtahhiedlkegkgaaTBase
import Derived.Test.YtahhiedlkegkgaaTMarks
import Derived.Test.YtahhiedlkegkgaaTFold
import Derived.Test.YtahhiedlkegkgaaTMFnMoneyx1
import Derived.Test.YtahhiedlkegkgaaTMFnMoneyx0
import Derived.Test.YtahhiedlkegkgaaTMFnMoneyx3
import Derived.Test.YtahhiedlkegkgaaTWTab
namespace Go.Proofs.Ytahhiedlkegkgaa.OwnRuleDepth
open Go.RowKit Go.Proofs.Ytahhiedlkegkgaa.PFnMoney Go.Proofs.YtahhiedlkegkgaaW.PrintWords Go.Proofs.YtahhiedlkegkgaaW.PrintLast Go.Proofs.YtahhiedlkegkgaaW.PrintMore Go.Proofs.Ytahhiedlkegkgaa.B
set_option linter.unusedVariables false
set_option linter.unusedSimpArgs false
attribute [local go_sem] max2_int min2_int
theorem aMh:type_of% @Aside0.mk:=@Aside0.mk
theorem dTh:type_of% @decide_eq_true:=@decide_eq_true
theorem zpth_0 {P:Prop} (h:P:=by repeat (first|(with_reducible first|exact HB.out|apply below_alloc|apply pw_below_drewN|apply below_drew1)|exact HB.out)):P:=h
def gridOk (x y z:Int):Bool:=decide (1≤x∧x≤8∧1≤y∧y≤6∧1≤z∧z≤5∧x * y * z≤120)
theorem grid_w {x y z:Int} (h:1≤x∧x≤8∧1≤y∧y≤6∧1≤z∧z≤5):wrap64 (wrap64 (x * y) * z)=x * y * z∧1≤x * y * z∧x * y * z≤240:=by
 obtain ⟨h1,h2,h3,h4,h5,h6⟩:=h;have a1:x * y≤8 * 6:=Int.mul_le_mul h2 h4 (by omega) (by omega);have a2:1 * 1≤x * y:=Int.mul_le_mul h1 h3 (by omega) (by omega);have a3:x * y * z≤(8 * 6) * 5:=Int.mul_le_mul a1 h6 (by omega) (by omega);have a4:(1 * 1) * 1≤x * y * z:=Int.mul_le_mul a2 h5 (by omega) (by omega);rw [w64 (x:=x * y) (by omega) (by omega),w64 (by omega) (by omega)];exact ⟨rfl,by omega,by omega⟩
theorem grid_ok {x y z:Int} (h:gridOk x y z=true):wrap64 (wrap64 (x * y) * z)=x * y * z∧1≤x * y * z∧x * y * z≤120:=by
 unfold gridOk at h
 rw [decide_eq_true_eq] at h
 have:=grid_w (x:=x) (y:=y) (z:=z) (by omega)
 exact ⟨this.1,this.2.1,by omega⟩
def inL (lo hi:Int) (l:List Int) (j:Nat):Bool:=decide (lo≤l.getD j 0∧l.getD j 0≤hi)
def blockAt (t g r:List Int) (j:Nat):Bool:=inL 0 10000 t j && (inL 0 1000 g j && inL 0 4 r j)
def modelOk (x y z:Int) (t g r:List Int):Bool:=gridOk x y z && (decide ((t.length:Int)=x * y * z∧(g.length:Int)=x * y * z∧(r.length:Int)=x * y * z) && allR (blockAt t g r) 0 t.length)
theorem inL_iff {lo hi:Int} {l:List Int} {j:Nat}:inL lo hi l j=true ↔ lo≤l.getD j 0∧l.getD j 0≤hi:=by unfold inL;rw [decide_eq_true_eq]
theorem blockAt_iff {t g r:List Int} {j:Nat}:blockAt t g r j=true ↔ (0≤t.getD j 0∧t.getD j 0≤10000)∧(0≤g.getD j 0∧g.getD j 0≤1000)∧0≤r.getD j 0∧r.getD j 0≤4:=by
 unfold blockAt;rw [Bool.and_eq_true,Bool.and_eq_true,inL_iff,inL_iff,inL_iff]
theorem modelOk_iff {x y z:Int} {t g r:List Int}:modelOk x y z t g r=true ↔ gridOk x y z=true∧((t.length:Int)=x * y * z∧(g.length:Int)=x * y * z∧(r.length:Int)=x * y * z)∧∀ j,j < t.length→(0≤t.getD j 0∧t.getD j 0≤10000)∧(0≤g.getD j 0∧g.getD j 0≤1000)∧0≤r.getD j 0∧r.getD j 0≤4:=by
 unfold modelOk
 rw [Bool.and_eq_true,Bool.and_eq_true,decide_eq_true_eq,allR_iff];exact ⟨fun h=>⟨h.1,h.2.1,fun j hj=>blockAt_iff.1 (h.2.2 j (Nat.zero_le _) hj)⟩,fun h=>⟨h.1,h.2.1,fun j _ hj=>blockAt_iff.2 (h.2.2 j hj)⟩⟩
theorem model_bd {x y z:Int} {t g r:List Int} (h:modelOk x y z t g r=true):1≤t.length∧t.length≤120∧g.length=t.length∧r.length=t.length∧(t.length:Int)=x * y * z∧wrap64 (wrap64 (x * y) * z)=x * y * z:=by
 rw [modelOk_iff] at h
 have:=grid_ok h.1
 obtain ⟨_,⟨h1,h2,h3⟩,_⟩:=h;exact ⟨by omega,by omega,by omega,by omega,h1,this.1⟩
theorem IsGrid_eq (x y z:Int):impl_IsGrid.f x y z=some (gridOk x y z):=by
 unfold impl_IsGrid.f gridOk
 by_cases h:1≤x∧x≤8∧1≤y∧y≤6∧1≤z∧z≤5
 ·rw [if_pos (by omega),if_pos (by omega),if_pos (by omega),if_pos (by omega),if_pos (by omega),if_pos (by omega),(grid_w h).1]
  congr 1
  rw [Bool.eq_iff_iff,decide_eq_true_eq,decide_eq_true_eq]
  omega
 ·rw [show decide (1≤x∧x≤8∧1≤y∧y≤6∧1≤z∧z≤5∧x * y * z≤120)=false from decide_eq_false (by omega)]
  repeat' split
  all_goals first|rfl|(exfalso;omega)
theorem IsModel_l0 (x y z:Int) (t g r:List Int) (hl:t.length≤maxLen) (h1:g.length=t.length) (h2:r.length=t.length):∀ (d i:Nat),i + d=t.length→Ev (fun k=>impl_IsModel.l0 k (t.length:Int) (i:Int) x y z t g r) (allR (blockAt t g r) i t.length):=by
 have hl:=maxLen_le hl;intro d
 induction d with
 | zero =>
  intro i hi;exact Ev.step (fun k=>impl_IsModel.l0.eq_2 t.length i x y z t g r k) (ev_neg (by omega) (ev_some (allR_end (by omega)).symm))
 | succ d ih =>
  intro i hi;refine Ev.step (fun k=>impl_IsModel.l0.eq_2 t.length i x y z t g r k) ?_;rw [allR_step (by omega),w_succ (n:=t.length) (by omega) (by omega),rd_nat,rd_nat,rd_nat];have no:¬ ((0≤t.getD i 0∧t.getD i 0≤10000)∧(0≤g.getD i 0∧g.getD i 0≤1000)∧0≤r.getD i 0∧r.getD i 0≤4)→false=(blockAt t g r i && allR (blockAt t g r) (i + 1) t.length):=by
   intro h
   have:blockAt t g r i=false:=by rw [← Bool.not_eq_true,blockAt_iff];exact h
   rw [this,Bool.false_and]
  refine ev_pos (by omega) (ev_pos (by omega) (ev_pos (by omega) (ev_ite (fun q=>ev_some (no (by omega))) (fun q1=>ev_ite (fun q=>ev_some (no (by omega))) (fun q2=>ev_pos (by omega) (ev_ite (fun q=>ev_some (no (by omega))) (fun q3=>ev_ite (fun q=>ev_some (no (by omega))) (fun q4=>ev_pos (by omega) (ev_ite (fun q=>ev_some (no (by omega))) (fun q5=>ev_ite (fun q=>ev_some (no (by omega))) (fun q6=>?_)))))))))));rw [blockAt_iff.2 (by omega),Bool.true_and];exact ih (i + 1) (by omega)
theorem IsModel_ev (x y z:Int) (t g r:List Int) (ht:t.length≤maxLen):Ev (fun k=>impl_IsModel.f k x y z t g r) (modelOk x y z t g r):=by
 unfold impl_IsModel.f
 refine ev_bindc (IsGrid_eq x y z) (ev_ite (fun h=>?_) (fun h=>ev_some ?_))
 ·have hw:=grid_ok h
  refine ev_bindc (a:=x * y * z) (by unfold impl_blocksOf.f;rw [hw.1]) ?_;have no:¬ ((t.length:Int)=x * y * z∧(g.length:Int)=x * y * z∧(r.length:Int)=x * y * z)→false=modelOk x y z t g r:=by
   intro hn;unfold modelOk;rw [decide_eq_false hn,Bool.false_and,Bool.and_false]
  have bad:∀ b:Bool,b=true→¬ ((t.length:Int)=x * y * z∧(g.length:Int)=x * y * z∧(r.length:Int)=x * y * z)→Ev (fun k=>impl_IsModel.j0 k (x * y * z) b x y z t g r) (modelOk x y z t g r):=by
   intro b hb hn;exact Ev.step (fun k=>impl_IsModel.j0.eq_2 _ b x y z t g r k) (ev_pos hb (ev_some (no hn)))
  refine ev_ite (fun h1=>ev_ite (fun h2=>?_) (fun h2=>bad _ rfl (by omega))) (fun h1=>bad _ rfl (by omega))
  by_cases h3:(r.length:Int)=x * y * z
  ·refine Ev.step (fun k=>impl_IsModel.j0.eq_2 _ _ x y z t g r k) (ev_neg (by simp [h3]) ?_)
   have:=IsModel_l0 x y z t g r ht (by omega) (by omega) t.length 0 (by omega)
   unfold modelOk
   rw [h,dTh ⟨h1,h2,h3⟩,Bool.true_and,Bool.true_and,← h1];exact this
  ·exact bad _ (by simp [h3]) (by omega)
 ·rw [Bool.not_eq_true] at h;unfold modelOk;rw [h,Bool.false_and]
theorem l1In_eq (a b c:Int):spec_l1In.f a b c=some (decide (b≤a∧a≤c)):=by
 unfold spec_l1In.f
 by_cases h:a ≥ b
 ·rw [if_pos h];simp [show b≤a from h]
 ·rw [if_neg h];simp [show ¬ b≤a from h]
theorem grGood_eq (x y z:Int):spec_grGood.f x y z=some (gridOk x y z):=by
 unfold spec_grGood.f gridOk
 simp only [l1In_eq,Option.bind_some,decide_eq_true_eq]
 by_cases h1:1≤x∧x≤8
 ·rw [if_pos h1]
  by_cases h2:1≤y∧y≤6
  ·rw [if_pos h2]
   by_cases h3:1≤z∧z≤5
   ·rw [if_pos h3]
    have:=grid_w (x:=x) (y:=y) (z:=z) (by omega)
    rw [this.1]
    congr 1
    rw [Bool.eq_iff_iff,decide_eq_true_eq,decide_eq_true_eq]
    omega
   ·rw [if_neg h3,decide_eq_false (by omega)]
  ·rw [if_neg h2,decide_eq_false (by omega)]
 ·rw [if_neg h1,decide_eq_false (by omega)]
theorem l1All_l0 (l:List Int) (hl:l.length≤maxLen) (lo hi:Int):∀ (d i:Nat),i + d=l.length→Ev (fun k=>spec_l1All.l0 k lo hi l (l.length:Int) (i:Int)) (allR (fun j=>decide (lo≤l.getD j 0∧l.getD j 0≤hi)) i l.length):=by
 have hl:=maxLen_le hl;intro d
 induction d with
 | zero =>
  intro i hi';exact Ev.step (fun k=>spec_l1All.l0.eq_2 lo hi l l.length i k) (ev_neg (by omega) (ev_some (allR_end (by omega)).symm))
 | succ d ih =>
  intro i hi';refine Ev.step (fun k=>spec_l1All.l0.eq_2 lo hi l l.length i k) ?_;rw [allR_step (by omega),w_succ (n:=l.length) (by omega) (by omega),rd_nat];refine ev_pos (by omega) (ev_pos (by omega) (ev_pos (by omega) (ev_bindc (l1In_eq _ _ _) ?_)));refine ev_ite (fun h=>?_) (fun h=>?_)
  ·rw [h,Bool.true_and];exact ih (i + 1) (by omega)
  ·rw [Bool.not_eq_true] at h;rw [h,Bool.false_and];exact ev_some rfl
theorem l1All_ev (l:List Int) (hl:l.length≤maxLen) (lo hi:Int):Ev (fun k=>spec_l1All.f k l lo hi) (allR (fun j=>decide (lo≤l.getD j 0∧l.getD j 0≤hi)) 0 l.length):=by
 unfold spec_l1All.f
 exact l1All_l0 l hl lo hi l.length 0 (by omega)
theorem moGood_ev (x y z:Int) (t g r:List Int) (ht:t.length≤maxLen) (hg:g.length≤maxLen) (hr:r.length≤maxLen):Ev (fun k=>spec_moGood.f k x y z t g r) (modelOk x y z t g r):=by
 unfold spec_moGood.f
 refine ev_bindc (grGood_eq x y z) (ev_ite (fun h=>?_) (fun h=>ev_some ?_))
 ·have hw:=grid_ok h
  refine ev_bindc (a:=x * y * z) (by unfold spec_grCount.f;rw [hw.1]) ?_;have no:¬ ((t.length:Int)=x * y * z∧(g.length:Int)=x * y * z∧(r.length:Int)=x * y * z)→false=modelOk x y z t g r:=by
   intro hn;unfold modelOk;rw [decide_eq_false hn,Bool.false_and,Bool.and_false]
  refine ev_ite (fun h1=>ev_ite (fun h2=>ev_ite (fun h3=>?_) (fun h3=>ev_some (no (by omega)))) (fun h2=>ev_some (no (by omega)))) (fun h1=>ev_some (no (by omega)));have e:modelOk x y z t g r=(allR (inL 0 10000 t) 0 t.length && (allR (inL 0 1000 g) 0 g.length && allR (inL 0 4 r) 0 r.length)):=by
   rw [Bool.eq_iff_iff,modelOk_iff,Bool.and_eq_true,Bool.and_eq_true,allR_iff,allR_iff,allR_iff]
   constructor
   ·rintro ⟨_,_,hb⟩
    exact ⟨fun j _ hj=>inL_iff.2 (hb j hj).1,fun j _ hj=>inL_iff.2 (hb j (by omega)).2.1,fun j _ hj=>inL_iff.2 (hb j (by omega)).2.2⟩
   ·rintro ⟨b1,b2,b3⟩
    exact ⟨h,⟨h1,h2,h3⟩,fun j hj=>⟨inL_iff.1 (b1 j (Nat.zero_le _) hj),inL_iff.1 (b2 j (Nat.zero_le _) (by omega)),inL_iff.1 (b3 j (Nat.zero_le _) (by omega))⟩⟩
  rw [e];refine Ev.bind (l1All_ev t ht 0 10000) (ev_ite (fun q1=>?_) (fun q1=>ev_some ?_))
  ·rw [show allR (inL 0 10000 t) 0 t.length=true from q1,Bool.true_and]
   refine Ev.bind (l1All_ev g hg 0 1000) (ev_ite (fun q2=>?_) (fun q2=>ev_some ?_))
   ·rw [show allR (inL 0 1000 g) 0 g.length=true from q2,Bool.true_and]
    exact ev_id (l1All_ev r hr 0 4)
   ·rw [Bool.not_eq_true] at q2;rw [show allR (inL 0 1000 g) 0 g.length=false from q2,Bool.false_and]
  ·rw [Bool.not_eq_true] at q1;rw [show allR (inL 0 10000 t) 0 t.length=false from q1,Bool.false_and]
 ·rw [Bool.not_eq_true] at h;unfold modelOk;rw [h,Bool.false_and]
theorem inf3:(Try.prog.info? 3).map (fun i=>(i.zero,i.size,i.bytes))=some (some (.int .i64 0),1,8):=by kernel_rfl
theorem drawn_below' {w w':World} (h:Drawn0 w w'):Below w.heap.size w w':=by
 obtain ⟨n,rfl⟩:=h;exact pw_below_drewN (Below.refl _ _) n
def ndI (k:Int):Int:=if k=0 ∨ k=1 then 0 else if 2≤k∧k≤5 then 2 else if 6≤k∧k≤8 then 4 else -1
theorem ndI_cases (k:Int):(ndI k=0∧(k=0 ∨ k=1)) ∨ (ndI k=2∧2≤k∧k≤5) ∨ (ndI k=4∧6≤k∧k≤8) ∨ (ndI k=-1∧(k < 0 ∨ 8 < k)):=by
 unfold ndI
 split
 ·exact Or.inl ⟨rfl,by assumption⟩
 ·split
  ·exact Or.inr (Or.inl ⟨rfl,by omega⟩)
  ·split
   ·exact Or.inr (Or.inr (Or.inl ⟨rfl,by omega⟩))
   ·exact Or.inr (Or.inr (Or.inr ⟨rfl,by omega⟩))
theorem needsOf_ev (k:Int):Ev (fun n=>impl_needsOf.f n k) (ndI k):=by
 unfold impl_needsOf.f
 have hj1:∀ b,Ev (fun n=>impl_needsOf.j1 n k b) (if b=true then 2 else if 6≤k∧k≤8 then 4 else -1):=fun b=>by
  refine Ev.step (fun n=>impl_needsOf.j1.eq_2 k b n) (ev_ite (fun h=>ev_some (if_pos h).symm) (fun h=>?_));rw [if_neg h];exact ev_ite (fun h1=>ev_ite (fun h2=>ev_some (if_pos ⟨h1,h2⟩).symm) (fun h2=>ev_some (if_neg (fun z=>h2 z.2)).symm)) (fun h1=>ev_some (if_neg (fun z=>h1 z.1)).symm)
 have hj0:∀ b,Ev (fun n=>impl_needsOf.j0 n k b) (if b=true then 0 else if 2≤k∧k≤5 then 2 else if 6≤k∧k≤8 then 4 else -1):=fun b=>by
  refine Ev.step (fun n=>impl_needsOf.j0.eq_2 k b n) (ev_ite (fun h=>ev_some (if_pos h).symm) (fun h=>?_));rw [if_neg h];refine ev_ite (fun h1=>?_) (fun h1=>?_)
  ·have h:=hj1 (decide (k≤5))
   by_cases h2:k≤5
   ·rw [if_pos ⟨h1,h2⟩];rw [if_pos (dTh h2)] at h;exact h
   ·rw [if_neg (fun z=>h2 z.2)];rw [if_neg (by simp;omega)] at h;exact h
  ·have h:=hj1 false
   rw [if_neg (fun z=>h1 z.1)];rw [if_neg (by simp)] at h;exact h
 refine ev_ite (fun h=>?_) (fun h=>?_)
 ·have:=hj0 true;rw [if_pos rfl] at this;unfold ndI;rw [if_pos (Or.inl h)];exact this
 ·have:=hj0 (k == 1)
  unfold ndI
  by_cases h2:k=1
  ·rw [if_pos (Or.inr h2)];rw [if_pos (by simpa using h2)] at this;exact this
  ·rw [if_neg (by omega)];rw [if_neg (by simpa using h2)] at this;exact this
/-- whether a part can't stand where m parts wait -/
def badP (p:S94) (m:Nat):Bool:=decide (ndI p.f0 < 0 ∨ (m:Int) < ndI p.f0 ∨ p.f1 < 0 ∨ (0 < ndI p.f0∧p.f1≠0) ∨ (p.f0=0∧1000000 < p.f1) ∨ (p.f0=1∧4 < p.f1))
def mxL (l:List Int):Int:=l.foldl max 0
/-- the depths on the stack behind part p -/
def nxt (p:S94) (st:List Int):List Int:=st.take (st.length - (ndI p.f0).toNat) ++ [mxL (st.drop (st.length - (ndI p.f0).toNat)) + 1]
def dpt (l:List S94):Nat→Nat→List Int→Int × Bool
 | 0,_,st=>(st.getD 0 0,(st.length:Int) == 1)
 | d + 1,i,st=>if badP (l.getD i z94) st.length=true then (0,false) else dpt l d (i + 1) (nxt (l.getD i z94) st)
def rdep (l:List S94):Int × Bool:=if 1≤l.length∧l.length≤39 then dpt l l.length 0 [] else (0,false)
theorem mxL_snoc (l:List Int) (x:Int):mxL (l ++ [x])=max (mxL l) x:=by unfold mxL;rw [List.foldl_append];rfl
theorem mxL_bd (l:List Int) (b:Int) (hb:0≤b) (h:∀ x ∈ l,x≤b):0≤mxL l∧mxL l≤b:=by
 suffices ∀ (l:List Int) (a:Int),0≤a→a≤b→(∀ x ∈ l,x≤b)→0≤l.foldl max a∧l.foldl max a≤b from this l 0 (Int.le_refl 0) hb h
 intro l
 induction l with
 | nil=>intro a h0 h1 _;exact ⟨h0,h1⟩
 | cons x l ih =>
  intro a h0 h1 h;exact ih (max a x) (by omega) (by have:=h x (by simp);omega) (fun y hy=>h y (List.mem_cons_of_mem _ hy))
theorem take_step (l:List Int) (i:Nat) (h:i < l.length):l.take (i + 1)=l.take i ++ [l.getD i 0]:=by
 rw [List.take_succ_eq_append_getElem h,List.getD_eq_getElem?_getD,List.getElem?_eq_getElem h];rfl
theorem nxt_len (p:S94) (st:List Int) (n:Nat) (h:badP p st.length=false):(nxt p st).length=st.length - (ndI p.f0).toNat + 1∧(ndI p.f0).toNat≤st.length:=by
 unfold badP at h
 have h:=of_decide_eq_false h
 unfold nxt
 rw [List.length_append,List.length_take];simp only [List.length_cons,List.length_nil]
 omega
theorem nxt_bd (p:S94) (st:List Int) (b:Int) (hb:0≤b) (h:∀ x ∈ st,0≤x∧x≤b):∀ x ∈ nxt p st,0≤x∧x≤b + 1:=by
 intro x hx
 unfold nxt at hx
 rw [List.mem_append] at hx
 rcases hx with hx|hx
 ·have:=h x (List.mem_of_mem_take hx);omega
 ·have e:=List.mem_singleton.1 hx
  have:=mxL_bd (st.drop (st.length - (ndI p.f0).toNat)) b hb (fun y hy=>(h y (List.mem_of_mem_drop hy)).2)
  omega
set_option maxHeartbeats 16000000 in
set_option maxRecDepth 100000 in
theorem depth_calls (A:Option Addr) (c:Nat) (l:List S94) (w:World) (h1:Kd.C k94 w A l.length l) (e1:l.length≤c) (hl:l.length≤maxLen) :
  Calls Try.prog 57 #[.slice A l.length c] w fun e w'=>e=.returned (.tuple #[.int .i64 (rdep l).1,.bool (rdep l).2])∧Below w.heap.size w w':=by
 have hu139:=Try.underlying94;have hu24:=Try.underlying25;have H1:=aMh h1;have HB:=aMh (Below.refl w.heap.size w);have hl:=maxLen_le hl
 by_cases hgd:1≤l.length∧l.length≤39
 ·have HG:=aMh hgd
  have HR:=aMh (show dpt l l.length 0 []=rdep l by unfold rdep;rw [if_pos hgd]);have t0:decide ((l.length:Int) < 1)=false:=decide_eq_false (by omega);have t0':decide (l.length < 1)=false:=decide_eq_false (by omega);have t1:decide (39 < (l.length:Int))=false:=decide_eq_false (by omega);have t1':decide (39 < l.length)=false:=decide_eq_false (by omega);clear h1 e1 hl hgd;go_enter Try.func57,Try.ntmps57
  go_wp2_with (first|((with_reducible refine gate_dst (N:=19) rfl ?_);refine Kd.R_lit (Kd.int .i64) _ 3 ?hg (N:=19) ?hd (xs:=([]:List Int)) (inner:=[]) (ok:=fun _=>True) (okp:=fun _=>True) ?hr ?hp (fun _ hk=>hk) trivial (Below.refl _ _) (Nat.le_refl _) (by simp) ?_;(case hd=>rfl);(case hg=>rfl);(case hr=>first|(go_simp;done)|(go_simp;rfl));(case hp=>exact (Reps.none _ _));intro v0 w1 ho hb hg_ hnew_;clear hg_ hnew_;have n0_:=aMh ho;have n1_:=aMh (below_step HB.out hb);clear HB;have HO:=n0_;have HB:=n1_;clear n0_ n1_ ho hb))
  clear t0 t0' t1 t1'
  go_loopg [4,22] (l.length) (fun q v4 v22 wr=>∃ (st:List Int) (i:Int),v22=.int .i64 i∧Aside0 (0≤i∧i + q=l.length)∧Aside0 (dpt l q i.toNat st=rdep l)∧Aside0 ((st.length:Int)≤i∧(0 < i→0 < st.length))∧Aside0 (∀ x ∈ st,0≤x∧x≤i)∧Aside0 (Kd.R (Kd.int .i64) 3 wr w.heap.size (fun _=>True) v4 st)∧Aside0 (Below w.heap.size w wr))
  case atStart=>exact ⟨[],0,rfl,⟨by omega⟩,HR,⟨by simp⟩,⟨by simp⟩,HO,HB⟩
  case round =>
   clear HO HB HR;obtain ⟨st,i,rfl,HI,HR,HSL,HSB,HO,HB⟩:=hrel;have hi:=HI.out
   cases gk with
   | zero =>
    have hd:decide (i < (l.length:Int))=false:=decide_eq_false (by omega);have hp:0 < st.length:=HSL.out.2 (by have:=HG.out;omega);obtain ⟨A4,c4,rfl⟩:=Kd.R_slice HO.out;obtain ⟨ad,e,hcell⟩:=Kd.at_int (Kd.R_reads' HO.out).2.2 0 (Int.le_refl 0) (by omega);subst e
    have hcell:wr.cell? ad=some (.int .i64 (st.getD 0 0)):=by rw [show ad.add (0:Int).toNat=ad from rfl] at hcell;exact hcell
    have q0:=eq_true (show 0 < (st.length:Int) by omega);have q1:=eq_true hp;have HRR:Aside0 ((st.getD 0 0,(st.length:Int) == 1)=rdep l):=⟨HR.out⟩;obtain ⟨x0,ex0⟩:∃ z,z=st.getD 0 0:=⟨_,rfl⟩;rw [← ex0] at HRR hcell;clear hi HI HR HSL hp ex0
    go_wp2_with fail
    go_ret2
    exact ⟨congrArg (fun z:Int × Bool=>Ending.returned (.tuple #[.int .i64 z.1,.bool z.2])) HRR.out,HB.out⟩
   | succ q =>
    have hlt:i < (l.length:Int):=by omega
    have t1:decide (i < (l.length:Int))=true:=dTh hlt;obtain ⟨ad,e,hx0,hx1⟩:=at_T94 H1.out i hi.1 hlt
    cases e
    replace hx0:=(HB.out.cell (World.block_lt_of_cell? w _ hx0)).trans hx0;replace hx1:=(HB.out.cell (World.block_lt_of_cell? w _ hx1)).trans hx1;have ep:l.getD i.toNat z94=rd_T94 l i:=rfl;have HRR:Aside0 ((if badP (rd_T94 l i) st.length=true then (0,false) else dpt l q (i.toNat + 1) (nxt (rd_T94 l i) st))=rdep l):=⟨by rw [← ep];exact HR.out⟩;obtain ⟨pq,epq⟩:∃ z,z=rd_T94 l i:=⟨_,rfl⟩;rw [← epq] at hx0 hx1 HRR;clear epq ep;obtain ⟨pk,pv⟩:=pq;replace hx0:wr.cell? (ad.add (i.toNat * 2))=some (.int .i64 pk):=hx0;replace hx1:wr.cell? ⟨(ad.add (i.toNat * 2)).block,(ad.add (i.toNat * 2)).off + 1,none⟩=some (.int .i64 pv):=hx1;have q0:=eq_true hi.1;have q1:=eq_true hlt;have HLT:=aMh hlt;obtain ⟨A4,c4,rfl⟩:=Kd.R_slice HO.out;clear hi hlt HR
    go_wp2_with (first
     | ((with_reducible refine gate_dst (N:=6) rfl ?_);(try (refine gate_guard (by rfl) ?_;dsimp only));refine box_event ?hg (N:=6) ?hd (cs:=#[.int .i64 0,.int .i64 0]) (t:=94) ?hr ?_;(case hd=>rfl);(case hg=>rfl);(case hr=>first|(go_simp;done)|(go_simp;rfl));intro gb hg w6 hbox hb;have n0_:=aMh (Kd.R_below HO.out hb);have n1_:=aMh (below_step HB.out hb);have K1:=aMh hbox;have G1:=aMh ((by rw [hg];exact (below_size HB.out)):w.heap.size≤gb);clear HO HB;have HO:=n0_;have HB:=n1_;clear n0_ n1_ hb hbox hg;obtain ⟨hc0,hf0,hc1,hf1⟩:=cf2 K1.out))
    clear hc0 hc1 hf0 hf1 hx0 hx1 t1 q0 q1;have m0_:=aMh (Kd.R_mono (Kd.R_far (p:=⟨gb,1,none⟩) (Kd.R_far (p:=⟨gb,0,none⟩) (Kd.R_types HO.out K1.out (by decide)) (fun _ hk=>hk.2) (.int .i64 pk)) (fun _ hk=>hk.2) (.int .i64 pv)) (ok':=fun k=>True) (fun _ _=>trivial));have m1_:=aMh (blk_put (cs:=#[.int .i64 pk,.int .i64 0]) (blk_put K1.out 0 (.int .i64 pk) (cs':=#[.int .i64 pk,.int .i64 0]) rfl) 1 (.int .i64 pv) (cs':=#[.int .i64 pk,.int .i64 pv]) rfl);have m2_:Aside0 (Below w.heap.size w ((w6.setCell ⟨gb,0,none⟩ (.int .i64 pk)).setCell ⟨gb,1,none⟩ (.int .i64 pv))):=⟨below_set (below_set HB.out G1.out) G1.out⟩;clear HO K1 HB;generalize (w6.setCell ⟨gb,0,none⟩ (.int .i64 pk)).setCell ⟨gb,1,none⟩ (.int .i64 pv)=w7 at m0_ m1_ m2_ ⊢;obtain ⟨kn,hkn⟩:=(needsOf_ev pk).rounds;refine (impl_needsOf.calls kn pk _ w7 hkn).mono ?_;rintro e w8 ⟨rfl,hd⟩;have hb:=drawn_below' hd;have HO:=aMh (Kd.R_below m0_.out hb);have K1:=aMh (blk_below m1_.out hb);have HB:=aMh (below_step m2_.out hb);clear m0_ m1_ m2_ hb hd hkn;obtain ⟨nd,end_⟩:∃ z,z=ndI pk:=⟨_,rfl⟩;rw [← end_];have HND:Aside0 ((nd=0∧(pk=0 ∨ pk=1)) ∨ (nd=2∧2≤pk∧pk≤5) ∨ (nd=4∧6≤pk∧pk≤8) ∨ (nd=-1∧(pk < 0 ∨ 8 < pk))):=⟨by rw [end_];exact ndI_cases pk⟩;have END:=aMh end_;clear end_
    go_upto_region 8 with fail
    go_cut [70] (fun v70 wc=>∃ (b:Bool),v70=.bool b∧Aside0 (b=badP ⟨pk,pv⟩ st.length)∧Aside0 (Kd.R (Kd.int .i64) 3 wc w.heap.size (fun _=>True) (.slice A4 st.length c4) st)∧Aside0 (wc.heap[gb]?=some (.cells #[.int .i64 pk,.int .i64 pv] 94 (0,0)))∧Aside0 (Below w.heap.size w wc))
    case first =>
     obtain ⟨hc0,hf0,hc1,hf1⟩:=cf2 K1.out;have hN:=HND.out
     have good:nd=ndI pk→badP ⟨pk,pv⟩ st.length=decide (nd < 0 ∨ (st.length:Int) < nd ∨ pv < 0 ∨ (0 < nd∧pv≠0) ∨ (pk=0∧1000000 < pv) ∨ (pk=1∧4 < pv)):=fun e=>by rw [e];rfl
     have HBP:=aMh (good END.out);clear good
     by_cases x1:nd < 0
     ·have d1:decide (nd < 0)=true:=dTh x1
      have HBV:Aside0 (true=badP ⟨pk,pv⟩ st.length):=⟨by rw [HBP.out];exact (dTh (by omega)).symm⟩;clear hN x1
      go_wp2
      go_meet
      case rel=>exact ⟨_,rfl,HBV,HO,K1,HB⟩
     ·have d1:decide (nd < 0)=false:=decide_eq_false x1
      by_cases x2:(st.length:Int) < nd
      ·have d2:decide ((st.length:Int) < nd)=true:=dTh x2
       have HBV:Aside0 (true=badP ⟨pk,pv⟩ st.length):=⟨by rw [HBP.out];exact (dTh (by omega)).symm⟩;clear hN x1 x2
       go_wp2
       go_meet
       case rel=>exact ⟨_,rfl,HBV,HO,K1,HB⟩
      ·have d2:decide ((st.length:Int) < nd)=false:=decide_eq_false x2
       by_cases x3:pv < 0
       ·have d3:decide (pv < 0)=true:=dTh x3
        have HBV:Aside0 (true=badP ⟨pk,pv⟩ st.length):=⟨by rw [HBP.out];exact (dTh (by omega)).symm⟩;clear hN x1 x2 x3
        go_wp2
        go_meet
        case rel=>exact ⟨_,rfl,HBV,HO,K1,HB⟩
       ·have d3:decide (pv < 0)=false:=decide_eq_false x3
        by_cases x4:0 < nd
        ·have d4:decide (0 < nd)=true:=dTh x4
         have d6:(pk == 0)=false:=beq_eq_false_iff_ne.mpr (by omega);have d8:(pk == 1)=false:=beq_eq_false_iff_ne.mpr (by omega);obtain ⟨bb,ebb⟩:∃ z,z=(pv != 0):=⟨_,rfl⟩;have HBV:Aside0 (bb=badP ⟨pk,pv⟩ st.length):=⟨by rw [HBP.out,ebb,Bool.eq_iff_iff,bne_iff_ne,decide_eq_true_eq];omega⟩;have EB:=aMh ebb;clear hN x1 x2 x3 x4;have d5:(pv != 0)=bb:=ebb.symm;clear ebb EB
         cases bb
         all_goals
          go_wp2
          go_meet
          case rel=>exact ⟨_,rfl,HBV,HO,K1,HB⟩
        ·have d4:decide (0 < nd)=false:=decide_eq_false x4
         by_cases x6:pk=0
         ·have d6:(pk == 0)=true:=beq_iff_eq.mpr x6
          have d8:(pk == 1)=false:=beq_eq_false_iff_ne.mpr (by omega)
          by_cases x7:1000000 < pv
          ·have d7:decide (1000000 < pv)=true:=dTh x7
           have HBV:Aside0 (true=badP ⟨pk,pv⟩ st.length):=⟨by rw [HBP.out];exact (dTh (by omega)).symm⟩;clear hN x1 x2 x3 x4 x6 x7
           go_wp2
           go_meet
           case rel=>exact ⟨_,rfl,HBV,HO,K1,HB⟩
          ·have d7:decide (1000000 < pv)=false:=decide_eq_false x7
           have HBV:Aside0 (false=badP ⟨pk,pv⟩ st.length):=⟨by rw [HBP.out];exact (decide_eq_false (by omega)).symm⟩;clear hN x1 x2 x3 x4 x6 x7
           go_wp2
           go_meet
           case rel=>exact ⟨_,rfl,HBV,HO,K1,HB⟩
         ·have d6:(pk == 0)=false:=beq_eq_false_iff_ne.mpr x6
          have d8:(pk == 1)=true:=beq_iff_eq.mpr (by omega)
          by_cases x7:4 < pv
          ·have d7:decide (4 < pv)=true:=dTh x7
           have HBV:Aside0 (true=badP ⟨pk,pv⟩ st.length):=⟨by rw [HBP.out];exact (dTh (by omega)).symm⟩;clear hN x1 x2 x3 x4 x6 x7
           go_wp2
           go_meet
           case rel=>exact ⟨_,rfl,HBV,HO,K1,HB⟩
          ·have d7:decide (4 < pv)=false:=decide_eq_false x7
           have HBV:Aside0 (false=badP ⟨pk,pv⟩ st.length):=⟨by rw [HBP.out];exact (decide_eq_false (by omega)).symm⟩;clear hN x1 x2 x3 x4 x6 x7
           go_wp2
           go_meet
           case rel=>exact ⟨_,rfl,HBV,HO,K1,HB⟩
    case rest =>
     clear HO K1 HB;obtain ⟨b,rfl,HBV,HO,K1,HB⟩:=hcut
     cases b with
     | true =>
      have HRR2:Aside0 ((0,false)=rdep l):=⟨by rw [← HRR.out,if_pos HBV.out.symm]⟩;clear HRR HBV
      go_wp2_with fail
      go_ret2
      exact ⟨congrArg (fun z:Int × Bool=>Ending.returned (.tuple #[.int .i64 z.1,.bool z.2])) HRR2.out,HB.out⟩
     | false =>
      have hgood:badP ⟨pk,pv⟩ st.length=false:=HBV.out.symm;have HRR2:Aside0 (dpt l q (i.toNat + 1) (nxt ⟨pk,pv⟩ st)=rdep l):=⟨by rw [← HRR.out,if_neg (by rw [hgood];simp)]⟩;obtain ⟨hnl,hnn⟩:=nxt_len _ _ 0 hgood;have hnd0:0≤nd:=by
       have h:=of_decide_eq_false hgood;rw [END.out];have h:¬ (ndI pk < 0 ∨ _):=h
       omega
      replace hnn:nd.toNat≤st.length:=by rw [END.out];exact hnn
      replace hnl:(nxt ⟨pk,pv⟩ st).length=st.length - nd.toNat + 1:=by rw [END.out];exact hnl
      have hsl:=HSL.out;have hil:=HI.out;have hgl:=HG.out;obtain ⟨j,ej⟩:∃ z,z=(st.length:Int) - nd:=⟨_,rfl⟩
      have hj1:wrap64 ((st.length:Int) - nd)=j:=by rw [ej];exact w64 (by omega) (by omega)
      have hj2:IntKind.i64.wrap ((st.length:Int) - nd)=j:=(i64_w _).trans hj1
      have ejn:j.toNat=st.length - nd.toNat:=by omega
      have qj0:0≤j:=by omega
      have qj1:j≤(st.length:Int):=by omega
      have HNX:Aside0 (nxt ⟨pk,pv⟩ st=st.take j.toNat ++ [mxL (st.drop j.toNat) + 1]):=⟨by rw [ejn,END.out];rfl⟩;obtain ⟨i0,hi0,_,hsz,_⟩:=info_parts inf3;have hroom:=(Kd.R_reads' HO.out).2.1;have hcut:=cut_from (P:=Try.prog) 25 3 .i64 hu24 hi0 1 hsz A4 st.length c4 j qj0 qj1;have hcut2:=cut_to (P:=Try.prog) 25 3 .i64 hu24 hi0 A4 st.length c4 j qj0 qj1 hroom;have hr:=Kd.C_drop (m:=j.toNat) (c:=c4) (Kd.R_reads' HO.out).2.2 (by omega) hroom;obtain ⟨y,ey⟩:∃ z,z=st.drop j.toNat:=⟨_,rfl⟩;rw [← ey] at hr
      have hyl:y.length=st.length - j.toNat:=by rw [ey,List.length_drop]
      obtain ⟨A5,hA5⟩:∃ A1,A1=(if c4=j.toNat then A4 else (A4:Option Addr).map (·.add (j.toNat * 1))):=⟨_,rfl⟩;obtain ⟨c5,hc5⟩:∃ c1,c1=c4 - j.toNat:=⟨_,rfl⟩;rw [← hyl,← hA5,← hc5] at hcut;have HR5:Aside0 (Kd.C (Kd.int .i64) wc A5 y.length y):=⟨by rw [hA5];exact hr⟩;have HYL:Aside0 (y.length≤st.length):=⟨by omega⟩;have EY:=aMh ey;have EJN:Aside0 (j.toNat≤st.length):=⟨by omega⟩;have HQJ:=aMh (show 0≤j∧j≤(st.length:Int) from ⟨qj0,qj1⟩);have HCT:=aMh hcut2;replace qj0:=eq_true qj0;replace qj1:=eq_true qj1;clear hnl hnn hnd0 hsl hil hgl ej ejn hi0 hsz hroom hr ey hyl hA5 hc5 hgood HBV HRR HND hcut2 hu139
      go_wp2_with fail
      clear hcut qj0 qj1
      go_loopg [8,78] (y.length) (fun q2 v8 v78 w'=>∃ (t:Int),v78=.int .i64 t∧v8=.int .i64 (mxL (y.take t.toNat))∧Aside0 (0≤t∧t + q2=y.length)∧Aside0 (Kd.R (Kd.int .i64) 3 w' w.heap.size (fun _=>True) (.slice A4 st.length c4) st)∧Aside0 (Kd.C (Kd.int .i64) w' A5 y.length y)∧Aside0 (Below w.heap.size w w'))
      case atStart=>exact ⟨0,rfl,rfl,⟨by omega⟩,HO,HR5,HB⟩
      case round =>
       clear HO HR5 HB K1;obtain ⟨t,rfl,rfl,HT,HO,HR5,HB⟩:=hrel;have ht:=HT.out;have hmb:=mxL_bd (y.take t.toNat) (l.length:Int) (by omega) (fun x hx=>by have h:=HSB.out x (by have h:=List.mem_of_mem_take hx;rw [EY.out] at h;exact List.mem_of_mem_drop h);have:=HI.out;omega);have HMB:=aMh hmb
       cases gk with
       | zero =>
        have hd:decide (t < (y.length:Int))=false:=decide_eq_false (by omega);have et:y.take t.toNat=y:=List.take_of_length_le (by omega);have hgl:=HG.out;obtain ⟨m,em⟩:∃ z,z=mxL (y.take t.toNat):=⟨_,rfl⟩;rw [← em] at hmb ⊢;obtain ⟨m1,em1⟩:∃ z,z=m + 1:=⟨_,rfl⟩
        have hm1:wrap64 (m + 1)=m1:=by rw [em1];exact w64 (by omega) (by omega)
        have hm2:IntKind.i64.wrap (m + 1)=m1:=(i64_w _).trans hm1;have ENX:Aside0 (nxt ⟨pk,pv⟩ st=st.take j.toNat ++ [m1]):=⟨by rw [HNX.out,← EY.out,em1,em,et]⟩;have hrt:=Kd.R_take (m:=j.toNat) HO.out EJN.out;obtain ⟨y2,ey2⟩:∃ z,z=st.take j.toNat:=⟨_,rfl⟩
        have hy2:y2.length=j.toNat:=by rw [ey2,List.length_take];have:=EJN.out;omega
        have hct:=HCT.out;rw [← ey2,← hy2] at hrt;rw [← hy2] at hct;have ENX2:Aside0 (nxt ⟨pk,pv⟩ st=y2 ++ [m1]):=⟨by rw [ENX.out,ey2]⟩;have HLIM:Aside0 (y2.length≤39):=⟨by have:=EJN.out;have:=HSL.out;have:=HI.out;omega⟩;have HO2:=aMh hrt;have HY2:=aMh hy2;have qj0:=eq_true HQJ.out.1;have qj1:=eq_true HQJ.out.2;clear ht hmb et hgl em em1 hrt ey2 hy2 HO ENX
        go_wp2_with (first|((with_reducible refine gate_builtin (b:=.append) (xs:=#[.tmp 91,.tmp 94]) rfl ?_);at_builtin;refine Kd.R_append (Kd.int .i64) (w0:=w) w.heap.size rfl (.tmp 91) (.tmp 94) 25 3 (.int .i64 0) 8 rfl Try.underlying25 inf3 rfl (by decide) (by omega) (.slice A4 y2.length c4) y2 m1 [.int .i64 m1] (fun _=>True) (fun _=>False) rfl rfl ?aP (fun _ hk=>hk.elim) ?aF ?aO ?aB ?aS ?aL ?_;(case aP=>exact rfl);(case aB=>exact (zpth_0));(case aF=>exact (fun k hk=>trivial));(case aO=>exact (by (with_reducible repeat (first|apply Kd.R_alloc|apply Kd.R_drewN|apply Kd.R_drew));exact HO2.out));(case aS=>exact (below_size (zpth_0)));(case aL=>have h1_:=HLIM.out;omega);intro v229 w10 ho hb hg hat;have n3_:=aMh hb;have n4_:=aMh ho;clear HB HO2;have HB:=n3_;have HO:=n4_;clear n3_ n4_ ho hb hg hat))
        go_roundg q
        case measure=>omega
        case rel =>
         have hi:=HI.out;have hgl:=HG.out;have e:wrap64 (i + 1)=i + 1:=w64 (by omega) (by omega)
         have hln:(nxt ⟨pk,pv⟩ st).length=y2.length + 1:=by rw [ENX2.out,List.length_append];rfl
         exact ⟨nxt ⟨pk,pv⟩ st,i + 1,by rw [e],⟨by omega⟩,⟨by rw [show (i + 1).toNat=i.toNat + 1 by omega];exact HRR2.out⟩,⟨by have:=HQJ.out;have:=HSL.out;have h3:=HY2.out;rw [hln];omega⟩,⟨nxt_bd _ _ i hi.1 HSB.out⟩,⟨by rw [ENX2.out];exact HO.out⟩,HB⟩
       | succ q2 =>
        have hlt:t < (y.length:Int):=by omega
        have hd:decide (t < (y.length:Int))=true:=dTh hlt;obtain ⟨ad5,e5,hx⟩:=Kd.at_int HR5.out t ht.1 hlt;subst e5;have p0:=eq_true ht.1;have p1:=eq_true hlt;obtain ⟨z0,ez0⟩:∃ z,z=rd y t:=⟨_,rfl⟩;obtain ⟨m,em⟩:∃ z,z=mxL (y.take t.toNat):=⟨_,rfl⟩;obtain ⟨m1,em1⟩:∃ z,z=(if m < z0 then z0 else m):=⟨_,rfl⟩;have hmx:(if m < z0 then z0 else m)=m1:=em1.symm;have EM:Aside0 (m1=mxL (y.take (t + 1).toNat)):=⟨by rw [show (t + 1).toNat=t.toNat + 1 by omega,take_step y t.toNat (by omega),mxL_snoc,← em,show y.getD t.toNat 0=z0 from ez0.symm,em1];omega⟩;rw [← ez0] at hx;rw [← em];clear ht hlt ez0 em em1 hmb
        go_wp2_with fail
        go_roundg q2
        case measure=>omega
        case rel =>
         have ht:=HT.out;have hgl:=HG.out;have hil:=HI.out;have hsl:=HSL.out;have hyl:=HYL.out;have e:wrap64 (t + 1)=t + 1:=w64 (by omega) (by omega);exact ⟨t + 1,by rw [e],congrArg _ EM.out,⟨by omega⟩,HO,HR5,HB⟩
 ·have HRR:Aside0 ((0,false)=rdep l):=⟨by unfold rdep;rw [if_neg hgd]⟩
  by_cases hs:l.length < 1
  ·have t0:decide ((l.length:Int) < 1)=true:=dTh (by omega)
   have t0':decide (l.length < 1)=true:=dTh (by omega);clear h1 e1 hl hgd hs;go_enter Try.func57,Try.ntmps57
   go_wp2_with fail
   go_ret2
   exact ⟨congrArg (fun z:Int × Bool=>Ending.returned (.tuple #[.int .i64 z.1,.bool z.2])) HRR.out,HB.out⟩
  ·have t0:decide ((l.length:Int) < 1)=false:=decide_eq_false (by omega)
   have t0':decide (l.length < 1)=false:=decide_eq_false (by omega);have t1:decide (39 < (l.length:Int))=true:=dTh (by omega);have t1':decide (39 < l.length)=true:=dTh (by omega);clear h1 e1 hl hgd hs;go_enter Try.func57,Try.ntmps57
   go_wp2_with fail
   go_ret2
   exact ⟨congrArg (fun z:Int × Bool=>Ending.returned (.tuple #[.int .i64 z.1,.bool z.2])) HRR.out,HB.out⟩
def isRuleB (l:List S94):Bool:=(rdep l).2 && decide ((rdep l).1≤12)
set_option maxRecDepth 100000 in
theorem isRule_calls (A:Option Addr) (c:Nat) (l:List S94) (w:World) (h1:Kd.C k94 w A l.length l) (e1:l.length≤c) (hl:l.length≤maxLen) :
  Calls Try.prog 32 #[.slice A l.length c] w fun e w'=>e=.returned (.bool (isRuleB l))∧Below w.heap.size w w':=by
 have H1:=aMh h1;have E1:=aMh e1;have HL:=aMh hl;clear h1 e1 hl;obtain ⟨d,b,ed⟩:∃ d b,rdep l=(d,b):=⟨_,_,rfl⟩;have ED:=aMh ed;clear ed;go_enter Try.func32,Try.ntmps32
 go_wp2_with fail
 refine (depth_calls A c l w H1.out E1.out HL.out).mono ?_;rintro e w1 ⟨rfl,hb⟩;rw [ED.out];have HB:=aMh hb;clear hb
 cases b
 ·go_wp2_with fail
  go_ret
  exact ⟨by unfold isRuleB;rw [ED.out];rfl,HB.out⟩
 ·obtain ⟨q,eq_⟩:∃ q,q=decide (d≤12):=⟨_,rfl⟩
  have EQ:=aMh eq_;have hq:decide (d≤12)=q:=eq_.symm;clear eq_
  go_wp2_with fail
  go_ret
  exact ⟨by unfold isRuleB;rw [ED.out,EQ.out];rfl,HB.out⟩
end Go.Proofs.Ytahhiedlkegkgaa.OwnRuleDepth
