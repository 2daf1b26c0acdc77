/- What the law FnMoney asks,of the numbers and lists that its callees tell. -/
import Derived.Test.YtahhiedlkegkgaaTOwnRuleValue
import Derived.Test.YtahhiedlkegkgaaTOwnRuleValues
import Derived.Test.YtahhiedlkegkgaaTMFnMoneyx0
import Derived.Test.YtahhiedlkegkgaaTMFnMoneyx3
import Derived.Test.YtahhiedlkegkgaaTMFnMoneyx0
import Derived.Test.YtahhiedlkegkgaaTMFnMoneyx3
import Derived.Test.YtahhiedlkegkgaaTMFnMoneyx5
import Derived.Test.YtahhiedlkegkgaaTMFnMoneyx5
import Derived.Test.YtahhiedlkegkgaaTMFnMoneyx0
import Derived.Test.YtahhiedlkegkgaaTMFnMoneyx5
import Derived.Test.YtahhiedlkegkgaaTMFnMoneyx0
import Derived.Test.YtahhiedlkegkgaaTMFnMoneyx5
import Derived.Test.YtahhiedlkegkgaaTMFnMoneyx1
import Derived.Test.YtahhiedlkegkgaaTMFnMoneyx5
namespace Go.Proofs.Ytahhiedlkegkgaa.MoneyLaw
open Go.RowKit Go.Proofs.Ytahhiedlkegkgaa.PFnMoney Go.Proofs.YtahhiedlkegkgaaW.PrintWords Go.Proofs.YtahhiedlkegkgaaW.PrintLast Go.Proofs.YtahhiedlkegkgaaW.PrintMore Go.Proofs.Ytahhiedlkegkgaa.B Go.Proofs.Ytahhiedlkegkgaa.OwnRuleDepth
set_option linter.unusedVariables false
set_option linter.unusedSimpArgs false
abbrev PL:=List S94
def priceX (t g:List Int) (p0 p1 p2 p3 i:Int):Int:=wrap64 ((mx 0 (wrap64 ((wrap64 (Int.tdiv (wrap64 ((wrap64 ((wrap64 ((rd t i) * (rd g i))) * p1)) * p0)) 1000)) - (wrap64 ((rd t i) * p2))))) - (wrap64 ((rd t i) * p3)))
def downP (x:Int):Int:=if Int.tmod x 10000 < 0 then wrap64 (wrap64 (Int.tdiv x 10000) - 1) else wrap64 (Int.tdiv x 10000)
theorem tmod_pos {x y:Int} (h:0≤x):0≤Int.tmod x y:=by
 rw [Int.tmod_eq_emod_of_nonneg h]
 by_cases hy:y=0
 ·subst hy;simpa using h
 ·exact Int.emod_nonneg x hy
theorem tmod_neg {x y:Int} (h:x≤0):Int.tmod x y≤0:=by
 have:Int.tmod (-(-x)) y=-Int.tmod (-x) y:=Int.neg_tmod _ _
 rw [Int.neg_neg] at this
 have:=tmod_pos (x:=-x) (y:=y) (by omega)
 omega
theorem ruDown_eq (x:Int):spec_ruDown.f x 10000=some (downP x):=by
 unfold spec_ruDown.f downP
 rw [if_neg (by omega)]
 by_cases h:Int.tmod x 10000=0
 ·rw [if_pos h,if_neg (by omega)]
 ·rw [if_neg h]
  by_cases hx:x < 0
  ·have:=tmod_neg (x:=x) (y:=10000) (by omega)
   rw [if_pos (show Int.tmod x 10000 < 0 by omega),if_pos (by simp [hx])]
  ·have:=tmod_pos (x:=x) (y:=10000) (by omega)
   rw [if_neg (show ¬ Int.tmod x 10000 < 0 by omega),if_neg (by simp [hx])]
theorem floorDiv_eq (x:Int):impl_floorDiv.f x 10000=some (downP x):=by
 unfold impl_floorDiv.f downP
 rw [if_neg (by omega)]
 split <;> rfl
theorem most_eq (x:Int):spec_l1Most.f 0 x=some (mx 0 x):=by
 unfold spec_l1Most.f mx
 by_cases h:0 > x
 ·rw [if_pos h,if_neg (by omega)]
 ·rw [if_neg h]
  by_cases h1:0 < x
  ·rw [if_pos h1]
  ·rw [if_neg h1,show x=0 by omega]
theorem vaPrice_eq (x y z:Int) (t g r:List Int) (p0 p1 p2 p3 i:Int) (h0:0≤i) (h1:i < t.length) (h2:g.length=t.length):spec_vaPrice.f x y z t g r p0 p1 p2 p3 i=some (downP (priceX t g p0 p1 p2 p3 i)):=by
 unfold spec_vaPrice.f spec_moMetal.f
 rw [if_pos h0,if_pos h1,if_pos (by omega),Option.bind_some,if_pos h0,if_pos h1,most_eq,Option.bind_some,ruDown_eq]
 rfl
theorem priceValue_eq (x y z:Int) (t g r:List Int) (p0 p1 p2 p3 i:Int) (h0:0≤i) (h1:i < t.length) (h2:g.length=t.length):impl_priceValue.f x y z t g r p0 p1 p2 p3 i=some (downP (priceX t g p0 p1 p2 p3 i)):=by
 unfold impl_priceValue.f
 rw [if_pos h0,if_pos h1,if_pos (by omega),floorDiv_eq]
 rfl
def pricesOk (p0 p1 p2 p3:Int):Bool:=allR (inL 0 1000 [p0,p1,p2,p3]) 0 4
theorem vaPrices_ev (p0 p1 p2 p3:Int):Ev (fun k=>spec_vaPrices.f k p0 p1 p2 p3) (pricesOk p0 p1 p2 p3):=by
 unfold spec_vaPrices.f
 exact ev_id (l1All_ev [p0,p1,p2,p3] (maxLen_val (by simp)) 0 1000)
theorem ArePrices_l0 (l:List Int) (hl:l.length≤maxLen):∀ (d i:Nat),i + d=l.length→Ev (fun k=>impl_ArePrices.l0 k l (l.length:Int) (i:Int)) (allR (inL 0 1000 l) i l.length):=by
 have hl:=maxLen_le hl;intro d
 induction d with
 | zero =>
  intro i hi;exact Ev.step (fun k=>impl_ArePrices.l0.eq_2 l l.length i k) (ev_neg (by omega) (ev_some (allR_end (by omega)).symm))
 | succ d ih =>
  intro i hi;refine Ev.step (fun k=>impl_ArePrices.l0.eq_2 l l.length i k) ?_;rw [allR_step (by omega),w_succ (n:=l.length) (by omega) (by omega),rd_nat];have no:¬ (0≤l.getD i 0∧l.getD i 0≤1000)→false=(inL 0 1000 l i && allR (inL 0 1000 l) (i + 1) l.length):=by
   intro h;rw [show inL 0 1000 l i=false from decide_eq_false h,Bool.false_and]
  refine ev_pos (by omega) (ev_pos (by omega) (ev_pos (by omega) ?_));refine ev_ite (fun h=>ev_some (no (by omega))) (fun h=>?_);refine ev_ite (fun h1=>ev_some (no (by omega))) (fun h1=>?_)
  rw [show inL 0 1000 l i=true from decide_eq_true (by omega),Bool.true_and];exact ih (i + 1) (by omega)
theorem ArePrices_ev (p0 p1 p2 p3:Int):Ev (fun k=>impl_ArePrices.f k p0 p1 p2 p3) (pricesOk p0 p1 p2 p3):=by
 unfold impl_ArePrices.f
 refine ev_bindc (a:=[p0,p1,p2,p3]) rfl ?_;exact ArePrices_l0 [p0,p1,p2,p3] (maxLen_val (by simp)) 4 0 (by simp)
def valAt (l:List Int) (j:Nat):Bool:=decide (-1000000≤l.getD j 0∧l.getD j 0≤1000000)
def valsOk (l:List Int):Bool:=decide (1≤l.length∧l.length≤120) && allR (valAt l) 0 l.length
theorem valsOk_iff {l:List Int}:valsOk l=true ↔ 1≤l.length∧l.length≤120∧∀ j,j < l.length→-1000000≤l.getD j 0∧l.getD j 0≤1000000:=by
 unfold valsOk valAt
 rw [Bool.and_eq_true,decide_eq_true_eq,allR_iff]
 constructor
 ·rintro ⟨⟨h1,h2⟩,h3⟩;exact ⟨h1,h2,fun j hj=>by have:=h3 j (Nat.zero_le _) hj;simpa using this⟩
 ·rintro ⟨h1,h2,h3⟩;exact ⟨⟨h1,h2⟩,fun j _ hj=>by simpa using h3 j hj⟩
theorem goodValues_l0 (l:List Int) (hl:l.length≤maxLen):∀ (d i:Nat),i + d=l.length→Ev (fun k=>impl_goodValues.l0 k l (l.length:Int) (i:Int)) (allR (valAt l) i l.length):=by
 have hl:=maxLen_le hl;intro d
 induction d with
 | zero =>
  intro i hi;exact Ev.step (fun k=>impl_goodValues.l0.eq_2 l l.length i k) (ev_neg (by omega) (ev_some (allR_end (by omega)).symm))
 | succ d ih =>
  intro i hi;refine Ev.step (fun k=>impl_goodValues.l0.eq_2 l l.length i k) ?_;rw [allR_step (by omega),w_succ (n:=l.length) (by omega) (by omega),rd_nat];have no:¬ (-1000000≤l.getD i 0∧l.getD i 0≤1000000)→false=(valAt l i && allR (valAt l) (i + 1) l.length):=by
   intro h;rw [show valAt l i=false from decide_eq_false h,Bool.false_and]
  refine ev_pos (by omega) (ev_pos (by omega) (ev_pos (by omega) ?_));refine ev_ite (fun h=>ev_some (no (by omega))) (fun h=>?_);refine ev_ite (fun h1=>ev_some (no (by omega))) (fun h1=>?_)
  rw [show valAt l i=true from decide_eq_true (by omega),Bool.true_and];exact ih (i + 1) (by omega)
theorem goodValues_ev (l:List Int) (hl:l.length≤maxLen):Ev (fun k=>impl_goodValues.f k l) (valsOk l):=by
 unfold impl_goodValues.f valsOk
 refine ev_ite (fun h=>?_) (fun h=>?_)
 ·refine Ev.step (fun k=>impl_goodValues.j0.eq_2 l true k) (ev_pos rfl (ev_some ?_))
  rw [decide_eq_false (by omega),Bool.false_and]
 ·refine Ev.step (fun k=>impl_goodValues.j0.eq_2 l _ k) (ev_ite (fun h1=>ev_some ?_) (fun h1=>?_))
  ·simp only [decide_eq_true_eq] at h1
   rw [decide_eq_false (by omega),Bool.false_and]
  ·simp only [decide_eq_true_eq] at h1
   rw [decide_eq_true (by omega),Bool.true_and];exact goodValues_l0 l hl l.length 0 (by omega)
theorem app_lt (l m:List Int) {j:Nat} (h:j < l.length):(l ++ m).getD j 0=l.getD j 0:=by
 rw [List.getD_eq_getElem?_getD,List.getD_eq_getElem?_getD,List.getElem?_append_left h]
theorem app_at (l:List Int) (a:Int) {j:Nat} (h:l.length=j):(l ++ [a]).getD j 0=a:=by
 rw [List.getD_eq_getElem?_getD,List.getElem?_append_right (by omega),h,Nat.sub_self];rfl
def pvQ (x y z:Int) (t g r:List Int) (p0 p1 p2 p3 i:Int):Int × Bool:=if modelOk x y z t g r=true∧pricesOk p0 p1 p2 p3=true∧0≤i∧i < t.length then (downP (priceX t g p0 p1 p2 p3 i),true) else (0,false)
theorem pv_both (x y z:Int) (t g r:List Int) (ht:t.length≤maxLen) (hg:g.length≤maxLen) (hr:r.length≤maxLen) (p0 p1 p2 p3 i:Int) :
  Ev (fun k=>spec_PriceValue.f k x y z t g r p0 p1 p2 p3 i) (pvQ x y z t g r p0 p1 p2 p3 i)∧Ev (fun k=>impl_PriceValue.f k x y z t g r p0 p1 p2 p3 i) (pvQ x y z t g r p0 p1 p2 p3 i):=by
 have hm:=moGood_ev x y z t g r ht hg hr;have hi:=IsModel_ev x y z t g r ht;have hs:=vaPrices_ev p0 p1 p2 p3;have hp:=ArePrices_ev p0 p1 p2 p3
 by_cases c0:modelOk x y z t g r=true∧pricesOk p0 p1 p2 p3=true∧0≤i∧i < t.length
 ·rw [show pvQ x y z t g r p0 p1 p2 p3 i=(downP (priceX t g p0 p1 p2 p3 i),true) from if_pos c0]
  obtain ⟨c1,c2,c3,c4⟩:=c0;have hb:=model_bd c1;refine ⟨?_,?_⟩
  ·unfold spec_PriceValue.f spec_moHas.f
   refine Ev.bind (a:=true) (Ev.bind hm (ev_pos c1 (ev_bindc (a:=x * y * z) (by unfold spec_grCount.f;rw [hb.2.2.2.2.2]) ?_))) (ev_pos rfl (Ev.bind hs (ev_pos c2 (ev_bindc (vaPrice_eq x y z t g r p0 p1 p2 p3 i c3 c4 hb.2.2.1) (ev_some rfl)))));rw [w64 (by omega) (by omega)];exact ev_bindc (l1In_eq _ _ _) (ev_some (decide_eq_true (by omega)))
  ·unfold impl_PriceValue.f
   exact Ev.bind hi (ev_pos c1 (Ev.bind hp (ev_pos c2 (ev_neg (by omega) (ev_neg (by omega) (ev_bindc (priceValue_eq x y z t g r p0 p1 p2 p3 i c3 c4 hb.2.2.1) (ev_some rfl)))))))
 ·rw [show pvQ x y z t g r p0 p1 p2 p3 i=(0,false) from if_neg c0]
  refine ⟨?_,?_⟩
  ·unfold spec_PriceValue.f spec_moHas.f
   refine Ev.bind (a:=modelOk x y z t g r && decide (0≤i∧i < t.length)) (Ev.bind hm (ev_ite (fun h=>?_) (fun h=>ev_some ?_))) (ev_ite (fun h=>Ev.bind hs (ev_ite (fun h1=>?_) (fun _=>ev_some rfl))) (fun _=>ev_some rfl))
   ·have hb:=model_bd h
    refine ev_bindc (a:=x * y * z) (by unfold spec_grCount.f;rw [hb.2.2.2.2.2]) ?_;rw [w64 (by omega) (by omega),h,Bool.true_and];refine ev_bindc (l1In_eq _ _ _) (ev_some ?_);rw [Bool.eq_iff_iff,decide_eq_true_eq,decide_eq_true_eq]
    omega
   ·rw [Bool.not_eq_true] at h;rw [h,Bool.false_and]
   ·rw [Bool.and_eq_true,decide_eq_true_eq] at h
    exact absurd ⟨h.1,h1,h.2⟩ c0
  ·unfold impl_PriceValue.f
   refine Ev.bind hi (ev_ite (fun h=>Ev.bind hp (ev_ite (fun h1=>ev_ite (fun _=>ev_some rfl) (fun h2=>ev_ite (fun _=>ev_some rfl) (fun h3=>?_))) (fun _=>ev_some rfl))) (fun _=>ev_some rfl));exact absurd ⟨h,h1,by omega,by omega⟩ c0
def allP (t g:List Int) (p0 p1 p2 p3:Int) (o:List Int) (i:Nat):List Int:=o ++ [downP (priceX t g p0 p1 p2 p3 i)]
theorem allP_len (t g:List Int) (p0 p1 p2 p3:Int) (m:Nat):(foldR (allP t g p0 p1 p2 p3) 0 m []).length=m:=by
 induction m with
 | zero=>rw [foldR_end (Nat.le_refl _)];rfl
 | succ m ih=>rw [foldR_last (Nat.zero_le _)];unfold allP at *;rw [List.length_append,ih];rfl
theorem allP_at (t g:List Int) (p0 p1 p2 p3:Int) (m:Nat):∀ j,j < m→(foldR (allP t g p0 p1 p2 p3) 0 m []).getD j 0=downP (priceX t g p0 p1 p2 p3 j):=by
 induction m with
 | zero=>intro j hj;omega
 | succ m ih =>
  intro j hj;have hl:=allP_len t g p0 p1 p2 p3 m;rw [foldR_last (Nat.zero_le _)]
  unfold allP at *
  by_cases h:j < m
  ·rw [app_lt _ _ (by omega)];exact ih j h
  ·obtain rfl:j=m:=by omega
   exact app_at _ _ hl
theorem vaAll_l0 (x y z:Int) (t g r:List Int) (p0 p1 p2 p3:Int) (ht:t.length≤120) (hg:g.length=t.length):∀ (d i:Nat),i + d=t.length→Ev (fun k=>spec_vaAll.l0 k (foldR (allP t g p0 p1 p2 p3) 0 i []) (t.length:Int) (i:Int) x y z t g r p0 p1 p2 p3) (foldR (allP t g p0 p1 p2 p3) 0 t.length []):=by
 intro d
 induction d with
 | zero =>
  intro i hi
  obtain rfl:i=t.length:=by omega
  exact Ev.step (fun k=>spec_vaAll.l0.eq_2 _ t.length t.length x y z t g r p0 p1 p2 p3 k) (ev_neg (by omega) (ev_some rfl))
 | succ d ih =>
  intro i hi;have ih:=ih (i + 1) (by omega);have hl:=allP_len t g p0 p1 p2 p3 i;rw [foldR_last (Nat.zero_le _)] at ih;refine Ev.step (fun k=>spec_vaAll.l0.eq_2 _ t.length i x y z t g r p0 p1 p2 p3 k) ?_;rw [w_succ (n:=t.length) (by omega) (by omega)];exact ev_pos (by omega) (ev_bindc (vaPrice_eq x y z t g r p0 p1 p2 p3 i (by omega) (by omega) hg) (ev_pos (by omega) ih))
theorem iAll_l0 (x y z:Int) (t g r:List Int) (p0 p1 p2 p3:Int) (ht:t.length≤120) (hg:g.length=t.length):∀ (d i:Nat),i + d=t.length→Ev (fun k=>impl_PriceValues.l0 k (foldR (allP t g p0 p1 p2 p3) 0 i []) (t.length:Int) (i:Int) x y z t g r p0 p1 p2 p3) (foldR (allP t g p0 p1 p2 p3) 0 t.length [],true):=by
 intro d
 induction d with
 | zero =>
  intro i hi
  obtain rfl:i=t.length:=by omega
  exact Ev.step (fun k=>impl_PriceValues.l0.eq_2 _ t.length t.length x y z t g r p0 p1 p2 p3 k) (ev_neg (by omega) (ev_some rfl))
 | succ d ih =>
  intro i hi;have ih:=ih (i + 1) (by omega);have hl:=allP_len t g p0 p1 p2 p3 i;rw [foldR_last (Nat.zero_le _)] at ih;refine Ev.step (fun k=>impl_PriceValues.l0.eq_2 _ t.length i x y z t g r p0 p1 p2 p3 k) ?_;rw [w_succ (n:=t.length) (by omega) (by omega)];exact ev_pos (by omega) (ev_bindc (priceValue_eq x y z t g r p0 p1 p2 p3 i (by omega) (by omega) hg) (ev_pos (by omega) ih))
def pvsQ (x y z:Int) (t g r:List Int) (p0 p1 p2 p3:Int):List Int × Bool:=if modelOk x y z t g r=true∧pricesOk p0 p1 p2 p3=true then (foldR (allP t g p0 p1 p2 p3) 0 t.length [],true) else ([],false)
theorem pvs_both (x y z:Int) (t g r:List Int) (ht:t.length≤maxLen) (hg:g.length≤maxLen) (hr:r.length≤maxLen) (p0 p1 p2 p3:Int) :
  Ev (fun k=>spec_PriceValues.f k x y z t g r p0 p1 p2 p3) (pvsQ x y z t g r p0 p1 p2 p3)∧Ev (fun k=>impl_PriceValues.f k x y z t g r p0 p1 p2 p3) (pvsQ x y z t g r p0 p1 p2 p3):=by
 have hm:=moGood_ev x y z t g r ht hg hr;have hi:=IsModel_ev x y z t g r ht;have hs:=vaPrices_ev p0 p1 p2 p3;have hp:=ArePrices_ev p0 p1 p2 p3
 by_cases c1:modelOk x y z t g r=true
 ·have hb:=model_bd c1
  by_cases c2:pricesOk p0 p1 p2 p3=true
  ·rw [show pvsQ x y z t g r p0 p1 p2 p3=_ from if_pos ⟨c1,c2⟩]
   refine ⟨?_,?_⟩
   ·unfold spec_PriceValues.f spec_vaAll.f
    have:=vaAll_l0 x y z t g r p0 p1 p2 p3 hb.2.1 hb.2.2.1 t.length 0 (by omega)
    rw [foldR_end (Nat.le_refl _)] at this;exact Ev.bind hm (ev_pos c1 (Ev.bind hs (ev_pos c2 (Ev.bind this (ev_some rfl)))))
   ·unfold impl_PriceValues.f
    have:=iAll_l0 x y z t g r p0 p1 p2 p3 hb.2.1 hb.2.2.1 t.length 0 (by omega)
    rw [foldR_end (Nat.le_refl _)] at this;exact Ev.bind hi (ev_pos c1 (Ev.bind hp (Ev.step (fun k=>impl_PriceValues.j0.eq_2 _ x y z t g r p0 p1 p2 p3 k) (ev_neg (by simp [c2]) this))))
  ·rw [show pvsQ x y z t g r p0 p1 p2 p3=_ from if_neg (fun h=>c2 h.2)]
   refine ⟨?_,?_⟩
   ·unfold spec_PriceValues.f
    exact Ev.bind hm (ev_pos c1 (Ev.bind hs (ev_neg c2 (ev_some rfl))))
   ·unfold impl_PriceValues.f
    exact Ev.bind hi (ev_pos c1 (Ev.bind hp (Ev.step (fun k=>impl_PriceValues.j0.eq_2 _ x y z t g r p0 p1 p2 p3 k) (ev_pos (by simpa using c2) (ev_some rfl)))))
 ·rw [show pvsQ x y z t g r p0 p1 p2 p3=_ from if_neg (fun h=>c1 h.1)]
  refine ⟨?_,?_⟩
  ·unfold spec_PriceValues.f
   exact Ev.bind hm (ev_neg c1 (ev_some rfl))
  ·unfold impl_PriceValues.f
   exact Ev.bind hi (ev_neg c1 (Ev.step (fun k=>impl_PriceValues.j0.eq_2 _ x y z t g r p0 p1 p2 p3 k) (ev_pos rfl (ev_some rfl))))
theorem prices_bd {p0 p1 p2 p3:Int} (h:pricesOk p0 p1 p2 p3=true):(0≤p0∧p0≤1000)∧(0≤p1∧p1≤1000)∧(0≤p2∧p2≤1000)∧0≤p3∧p3≤1000:=by
 unfold pricesOk at h
 rw [allR_iff] at h;exact ⟨inL_iff.1 (h 0 (by omega) (by omega)),inL_iff.1 (h 1 (by omega) (by omega)),inL_iff.1 (h 2 (by omega) (by omega)),inL_iff.1 (h 3 (by omega) (by omega))⟩
theorem prices_ok {p0 p1 p2 p3:Int} (h:(0≤p0∧p0≤1000)∧(0≤p1∧p1≤1000)∧(0≤p2∧p2≤1000)∧0≤p3∧p3≤1000):pricesOk p0 p1 p2 p3=true:=by
 unfold pricesOk
 rw [allR_iff];intro j _ hj;rw [inL_iff]
 obtain rfl|rfl|rfl|rfl:j=0 ∨ j=1 ∨ j=2 ∨ j=3:=by omega
 ·exact h.1
 ·exact h.2.1
 ·exact h.2.2.1
 ·exact h.2.2.2
theorem mul_in {a b m n:Int} (h1:0≤a) (h2:a≤m) (h3:0≤b) (h4:b≤n):0≤a * b∧a * b≤m * n:=⟨Int.mul_nonneg h1 h3,Int.mul_le_mul h2 h4 h3 (by omega)⟩
theorem downP_eq (x:Int) (h:-1000000000000≤x∧x≤1000000000000):downP x=x / 10000:=by
 unfold downP
 by_cases h0:0≤x
 ·rw [Int.tmod_eq_emod_of_nonneg h0,Int.tdiv_eq_ediv_of_nonneg h0,if_neg (by omega),w64 (by omega) (by omega)]
 ·obtain ⟨y,rfl⟩:∃ y,x=-y:=⟨-x,by omega⟩
  rw [Int.neg_tmod,Int.neg_tdiv,Int.tmod_eq_emod_of_nonneg (by omega),Int.tdiv_eq_ediv_of_nonneg (by omega),w64 (x:=-(y / 10000)) (by omega) (by omega)]
  split
  ·rw [w64 (by omega) (by omega)];omega
  ·omega
theorem price_eq (t g:List Int) (p0 p1 p2 p3 i:Int) (ht:0≤rd t i∧rd t i≤10000) (hg:0≤rd g i∧rd g i≤1000) (hp:(0≤p0∧p0≤1000)∧(0≤p1∧p1≤1000)∧(0≤p2∧p2≤1000)∧0≤p3∧p3≤1000) :
  ∃ m e f:Int,(0≤m∧m≤10000000000)∧(0≤e∧e≤10000000)∧(0≤f∧f≤10000000)∧(m * p0≤10000000000000∧0≤m * p0)∧m=rd t i * rd g i * p1∧e=rd t i * p2∧f=rd t i * p3∧downP (priceX t g p0 p1 p2 p3 i)=(max 0 (m * p0 / 1000 - e) - f) / 10000:=by
 have h1:=mul_in ht.1 ht.2 hg.1 hg.2;have h2:=mul_in h1.1 h1.2 hp.2.1.1 hp.2.1.2;have h3:=mul_in h2.1 h2.2 hp.1.1 hp.1.2;have h4:=mul_in ht.1 ht.2 hp.2.2.1.1 hp.2.2.1.2;have h5:=mul_in ht.1 ht.2 hp.2.2.2.1 hp.2.2.2.2;refine ⟨_,_,_,⟨h2.1,by omega⟩,⟨h4.1,by omega⟩,⟨h5.1,by omega⟩,⟨by omega,h3.1⟩,rfl,rfl,rfl,?_⟩
 unfold priceX
 rw [w64 (x:=rd t i * rd g i) (by omega) (by omega),w64 (x:=rd t i * rd g i * p1) (by omega) (by omega),w64 (x:=rd t i * rd g i * p1 * p0) (by omega) (by omega),w64 (x:=rd t i * p2) (by omega) (by omega),w64 (x:=rd t i * p3) (by omega) (by omega),Int.tdiv_eq_ediv_of_nonneg h3.1];generalize rd t i * rd g i * p1 * p0=M at *;generalize rd t i * p2=e at *;generalize rd t i * p3=f at *;rw [w64 (x:=M / 1000) (by omega) (by omega),w64 (x:=M / 1000 - e) (by omega) (by omega)]
 unfold mx
 split
 ·rw [w64 (by omega) (by omega),downP_eq _ (by omega)];congr 1;omega
 ·rw [w64 (by omega) (by omega),downP_eq _ (by omega)];congr 1;omega
theorem price_in {t g:List Int} {p0 p1 p2 p3 i:Int} (ht:0≤rd t i∧rd t i≤10000) (hg:0≤rd g i∧rd g i≤1000) (hp:(0≤p0∧p0≤1000)∧(0≤p1∧p1≤1000)∧(0≤p2∧p2≤1000)∧0≤p3∧p3≤1000):-1000000≤downP (priceX t g p0 p1 p2 p3 i)∧downP (priceX t g p0 p1 p2 p3 i)≤1000000:=by
 obtain ⟨m,e,f,h1,h2,h3,h4,_,_,_,h⟩:=price_eq t g p0 p1 p2 p3 i ht hg hp;rw [h];generalize m * p0=M at *
 omega
theorem price_up {t g:List Int} {p0 p1 p2 p3 i:Int} (ht:0≤rd t i∧rd t i≤10000) (hg:0≤rd g i∧rd g i≤1000) (hp:(0≤p0∧p0≤1000)∧(0≤p1∧p1≤1000)∧(0≤p2∧p2≤1000)∧0≤p3∧p3≤1000) (hn:p0≠1000):downP (priceX t g p0 p1 p2 p3 i)≤downP (priceX t g (p0 + 1) p1 p2 p3 i):=by
 obtain ⟨m,e,f,h1,h2,h3,h4,rfl,rfl,rfl,h⟩:=price_eq t g p0 p1 p2 p3 i ht hg hp;obtain ⟨m',e',f',h1',h2',h3',h4',rfl,rfl,rfl,h'⟩:=price_eq t g (p0 + 1) p1 p2 p3 i ht hg ⟨by omega,hp.2⟩;rw [h,h',Int.mul_add,Int.mul_one];generalize rd t i * rd g i * p1=m at *;generalize m * p0=M at *
 omega
def Cut (p0 p1 p2 c:Int):Prop:=¬ wrap64 (wrap64 (c * p1) * p0) < wrap64 (1000 * p2)∧(0 < c→wrap64 (wrap64 (wrap64 (c - 1) * p1) * p0) < wrap64 (1000 * p2))
theorem cut_l0 (p0 p1 p2 p3:Int):∀ (d i:Nat),i + d=1001→(0 < i→wrap64 (wrap64 (((i:Int) - 1) * p1) * p0) < wrap64 (1000 * p2)) →
  ∃ q:Int × Bool,Ev (fun k=>impl_CutOff.l0 k (i:Int) p0 p1 p2 p3) q∧Ev (fun k=>spec_CutOff.l0 k (i:Int) p0 p1 p2 p3) q∧(q.2=true→Cut p0 p1 p2 q.1):=by
 intro d
 induction d with
 | zero =>
  intro i hi _;exact ⟨(0,false),Ev.step (fun k=>impl_CutOff.l0.eq_2 _ _ _ _ _ k) (ev_neg (by omega) (ev_some rfl)),Ev.step (fun k=>spec_CutOff.l0.eq_2 _ _ _ _ _ k) (ev_neg (by omega) (ev_some rfl)),fun h=>by cases h⟩
 | succ d ih =>
  intro i hi hb
  by_cases h:wrap64 (wrap64 ((i:Int) * p1) * p0) ≥ wrap64 (1000 * p2)
  ·refine ⟨((i:Int),true),Ev.step (fun k=>impl_CutOff.l0.eq_2 _ _ _ _ _ k) (ev_pos (by omega) (ev_pos h (ev_some rfl))),Ev.step (fun k=>spec_CutOff.l0.eq_2 _ _ _ _ _ k) (ev_pos (by omega) (ev_pos h (ev_some rfl))),fun _=>⟨by show ¬ wrap64 (wrap64 ((i:Int) * p1) * p0) < _;omega,fun h0=>?_⟩⟩
   show wrap64 (wrap64 (wrap64 ((i:Int) - 1) * p1) * p0) < _
   rw [w64 (x:=(i:Int) - 1) (by omega) (by omega)];exact hb (by have:(0:Int) < (i:Int):=h0;omega)
  ·obtain ⟨q,e1,e2,e3⟩:=ih (i + 1) (by omega) (fun _=>by rw [show ((i + 1:Nat):Int) - 1=(i:Int) by omega];omega)
   rw [← w_succ (n:=1001) (by omega) (by omega)] at e1 e2;exact ⟨q,Ev.step (fun k=>impl_CutOff.l0.eq_2 _ _ _ _ _ k) (ev_pos (by omega) (ev_neg h e1)),Ev.step (fun k=>spec_CutOff.l0.eq_2 _ _ _ _ _ k) (ev_pos (by omega) (ev_neg h e2)),e3⟩
theorem cut_both (p0 p1 p2 p3:Int):∃ (c:Int) (b:Bool),Ev (fun k=>impl_CutOff.f k p0 p1 p2 p3) (c,b)∧Ev (fun k=>spec_CutOff.f k p0 p1 p2 p3) (c,b)∧(b=true→Cut p0 p1 p2 c):=by
 have hs:=vaPrices_ev p0 p1 p2 p3;have hp:=ArePrices_ev p0 p1 p2 p3
 by_cases h:pricesOk p0 p1 p2 p3=true
 ·obtain ⟨q,e1,e2,e3⟩:=cut_l0 p0 p1 p2 p3 1001 0 rfl (fun h=>absurd h (by omega))
  exact ⟨q.1,q.2,Ev.bind hp (ev_pos h e1),Ev.bind hs (ev_pos h e2),e3⟩
 ·exact ⟨0,false,Ev.bind hp (ev_neg h (ev_some rfl)),Ev.bind hs (ev_neg h (ev_some rfl)),fun h=>by cases h⟩
theorem rv_both (x y z:Int) (t g r:List Int) (l:PL) (i:Int) (ht:t.length≤1048576) (hg:g.length≤1048576) (hr:r.length≤1048576):∃ (v:Int) (b:Bool),Ev (fun k=>spec_RuleValue.f k x y z t g r l i) (v,b)∧OwnRuleValue.RVsays x y z t g r l i (v,b):=by
 by_cases h:modelOk x y z t g r=true∧isRuleB l=true∧0≤i∧i < (t.length:Int)
 ·obtain ⟨q,h1,h2,_⟩:=OwnRuleP.value_both x y z t g r l i (maxLen_val (by omega)) (maxLen_val (by omega)) (maxLen_val (by omega)) h.1 h.2.1 h.2.2
  exact ⟨q.1,q.2,h1,fun _=>h2,fun hn=>absurd h hn⟩
 ·exact ⟨0,false,OwnRuleP.value_none x y z t g r l i (maxLen_val (by omega)) (maxLen_val (by omega)) (maxLen_val (by omega)) h,fun hn=>absurd hn h,fun _=>rfl⟩
theorem values_l0 (x y z:Int) (t g r:List Int) (l:PL) (ht:t.length≤1048576) (hg:g.length≤1048576) (hr:r.length≤1048576) (hm:modelOk x y z t g r=true) (hl:isRuleB l=true):∀ (d i:Nat) (v:List Int),i + d=t.length→v.length=i →
  ∃ q:List Int × Bool,Ev (fun k=>spec_RuleValues.l0 k l v (t.length:Int) (i:Int) x y z t g r) q∧OwnRuleValues.RVl x y z t g r l d i v q∧q.1.length≤t.length∧(q.2=true→q.1.length=t.length∧(∀ j,j < i→q.1.getD j 0=v.getD j 0)∧∀ j,i≤j→j < t.length→∃ k,impl_ruleValue.f k x y z t g r l ((j:Nat):Int)=some (q.1.getD j 0,true)):=by
 intro d
 induction d with
 | zero =>
  intro i v hi hv;exact ⟨(v,true),Ev.step (fun k=>spec_RuleValues.l0.eq_2 _ _ _ _ _ _ _ _ _ _ k) (ev_neg (by omega) (ev_some rfl)),OwnRuleValues.RVl.stop i v,by show v.length≤_;omega,fun _=>⟨by show v.length=_;omega,fun _ _=>rfl,fun j h1 h2=>absurd h2 (by omega)⟩⟩
 | succ d ih =>
  intro i v hi hv;obtain ⟨q,h1,⟨k,hk⟩,hf⟩:=OwnRuleP.value_both x y z t g r l (i:Int) (maxLen_val (by omega)) (maxLen_val (by omega)) (maxLen_val (by omega)) hm hl (by omega);obtain ⟨n,b⟩:=q
  cases b with
  | false =>
   exact ⟨([],false),Ev.step (fun k=>spec_RuleValues.l0.eq_2 _ _ _ _ _ _ _ _ _ _ k) (ev_pos (by omega) (Ev.bind h1 (ev_neg (by simp) (ev_some rfl)))),OwnRuleValues.RVl.fall d i v k n hk,by simp,fun h=>by cases h⟩
  | true =>
   obtain ⟨q2,e1,e2,e3,e4⟩:=ih (i + 1) (v ++ [n]) (by omega) (by rw [List.length_append];simp;omega);refine ⟨q2,Ev.step (fun k=>spec_RuleValues.l0.eq_2 _ _ _ _ _ _ _ _ _ _ k) (ev_pos (by omega) (Ev.bind h1 (ev_pos rfl (ev_pos (by omega) ?_)))),OwnRuleValues.RVl.step d i v k n hk q2 e2,e3,fun hq=>?_⟩
   ·rw [w_succ (n:=t.length) (by omega) (by omega)]
    exact e1
   ·obtain ⟨a1,a2,a3⟩:=e4 hq
    refine ⟨a1,fun j hj=>by rw [a2 j (by omega),app_lt _ _ (by omega)],fun j h1 h2=>?_⟩
    by_cases hji:j=i
    ·subst hji
     refine ⟨k,?_⟩;rw [a2 j (by omega),app_at _ _ hv];exact hk
    ·exact a3 j (by omega) h2
theorem rvs_both (x y z:Int) (t g r:List Int) (l:PL) (ht:t.length≤1048576) (hg:g.length≤1048576) (hr:r.length≤1048576) :
  ∃ (v:List Int) (b:Bool),Ev (fun k=>spec_RuleValues.f k x y z t g r l) (v,b)∧OwnRuleValues.RVsays x y z t g r l (v,b)∧v.length≤t.length∧(b=true→modelOk x y z t g r=true∧isRuleB l=true∧v.length=t.length∧∀ j,j < t.length→∃ k,impl_ruleValue.f k x y z t g r l ((j:Nat):Int)=some (v.getD j 0,true)):=by
 have hmo:=moGood_ev x y z t g r (maxLen_val (by omega)) (maxLen_val (by omega)) (maxLen_val (by omega))
 by_cases hm:modelOk x y z t g r=true
 ·by_cases hr2:isRuleB l=true
  ·obtain ⟨q,e1,e2,e3,e4⟩:=values_l0 x y z t g r l ht hg hr hm hr2 t.length 0 [] (by omega) rfl
   refine ⟨q.1,q.2,?_,⟨fun _=>e2,fun hn=>absurd ⟨hm,hr2⟩ hn⟩,e3,fun hb=>⟨hm,hr2,(e4 hb).1,fun j hj=>(e4 hb).2.2 j (by omega) hj⟩⟩
   unfold spec_RuleValues.f
   exact Ev.bind hmo (ev_pos hm (Ev.bind (OwnRuleP.ruGood_ev l) (Ev.step (fun k=>spec_RuleValues.j0.eq_2 _ _ _ _ _ _ _ _ k) (ev_neg (by rw [hr2];simp) e1))))
  ·refine ⟨[],false,?_,⟨fun hn=>absurd hn.2 hr2,fun _=>rfl⟩,by simp,fun h=>by cases h⟩
   unfold spec_RuleValues.f
   rw [Bool.not_eq_true] at hr2;exact Ev.bind hmo (ev_pos hm (Ev.bind (OwnRuleP.ruGood_ev l) (Ev.step (fun k=>spec_RuleValues.j0.eq_2 _ _ _ _ _ _ _ _ k) (ev_pos (by rw [hr2];rfl) (ev_some rfl)))))
 ·refine ⟨[],false,?_,⟨fun hn=>absurd hn.1 hm,fun _=>rfl⟩,by simp,fun h=>by cases h⟩
  unfold spec_RuleValues.f
  exact Ev.bind hmo (ev_neg hm (Ev.step (fun k=>spec_RuleValues.j0.eq_2 _ _ _ _ _ _ _ _ k) (ev_pos rfl (ev_some rfl))))
theorem rv_same {x y z:Int} {t g r:List Int} {l:PL} {i:Int} {k k':Nat} {q q':Int × Bool} (h:impl_ruleValue.f k x y z t g r l i=some q) (h':impl_ruleValue.f k' x y z t g r l i=some q'):q=q':=by
 obtain ⟨a,ha⟩:=Ev.of (g:=fun k=>impl_ruleValue.f k x y z t g r l i) (fun k=>by apply impl_ruleValue.mono) h;obtain ⟨b,hb⟩:=Ev.of (g:=fun k=>impl_ruleValue.f k x y z t g r l i) (fun k=>by apply impl_ruleValue.mono) h';exact Option.some.inj ((ha (a + b) (by omega)).symm.trans (hb (a + b) (by omega)))
theorem ints_l0 (l:List Int) (hl:l.length≤maxLen):∀ (d i:Nat),i + d=l.length→Ev (fun k=>laws_qInts.l0 k l l (l.length:Int) (i:Int)) true:=by
 have hl:=maxLen_le hl;intro d
 induction d with
 | zero =>
  intro i hi;exact Ev.step (fun k=>laws_qInts.l0.eq_2 l l l.length i k) (ev_neg (by omega) (ev_some rfl))
 | succ d ih =>
  intro i hi;refine Ev.step (fun k=>laws_qInts.l0.eq_2 l l l.length i k) ?_;rw [w_succ (n:=l.length) (by omega) (by omega)];exact ev_pos (by omega) (ev_pos (by omega) (ev_pos (by omega) (ev_pos (by omega) (ev_pos rfl (ih (i + 1) (by omega))))))
theorem ints_calls (l:List Int) (hl:l.length≤maxLen) (A:Option Addr) (c:Nat) (A':Option Addr) (c':Nat) (w:World) (h1:Kd.C (Kd.int .i64) w A l.length l) (e1:l.length≤c) (h2:Kd.C (Kd.int .i64) w A' l.length l) (e2:l.length≤c') :
  Calls Try.prog 17 #[.slice A l.length c,.slice A' l.length c'] w fun e w'=>e=.returned (.bool true)∧Below w.heap.size w w':=by
 have h:Ev (fun k=>laws_qInts.f k l l) true:=by
  unfold laws_qInts.f
  exact ev_pos rfl (ints_l0 l hl l.length 0 (by omega))
 obtain ⟨k,hk⟩:=h.rounds;refine (laws_qInts.calls k A c l A' c' l true w h1 e1 h2 e2 hk).mono ?_;rintro e w' ⟨h,m,rfl⟩;exact ⟨h,pw_below_drewN (Below.refl _ _) m⟩
theorem price_law (x y z:Int) (t g r:List Int) (ht:t.length≤300) (hg:g.length≤300) (hr:r.length≤300) (p0 p1 p2 p3 i:Int) :
  ∃ (n:Int) (ok:Bool) (vs:List Int) (one:Bool),(Ev (fun k=>impl_PriceValue.f k x y z t g r p0 p1 p2 p3 i) (n,ok)∧Ev (fun k=>spec_PriceValue.f k x y z t g r p0 p1 p2 p3 i) (n,ok))∧(Ev (fun k=>impl_PriceValues.f k x y z t g r p0 p1 p2 p3) (vs,one)∧Ev (fun k=>spec_PriceValues.f k x y z t g r p0 p1 p2 p3) (vs,one))∧vs.length≤300 ∧
   (ok=true→one=true∧(0≤i∧i < (vs.length:Int))∧rd vs i=n∧Ev (fun k=>impl_AreValues.f k vs (t.length:Int)) true∧(p0≠1000→∃ m,Ev (fun k=>impl_PriceValue.f k x y z t g r (wrap64 (p0 + 1)) p1 p2 p3 i) (m,true)∧n≤m)):=by
 have hpv:=pv_both x y z t g r (maxLen_val (by omega)) (maxLen_val (by omega)) (maxLen_val (by omega)) p0 p1 p2 p3 i;have hpvs:=pvs_both x y z t g r (maxLen_val (by omega)) (maxLen_val (by omega)) (maxLen_val (by omega)) p0 p1 p2 p3;refine ⟨(pvQ x y z t g r p0 p1 p2 p3 i).1,(pvQ x y z t g r p0 p1 p2 p3 i).2,(pvsQ x y z t g r p0 p1 p2 p3).1,(pvsQ x y z t g r p0 p1 p2 p3).2,hpv.symm,hpvs.symm,?_,fun hok=>?_⟩
 ·unfold pvsQ
  split
  ·show (foldR _ 0 _ []).length≤_;rw [allP_len];exact ht
  ·simp
 ·unfold pvQ at hok ⊢
  by_cases c0:modelOk x y z t g r=true∧pricesOk p0 p1 p2 p3=true∧0≤i∧i < t.length
  ·obtain ⟨c1,c2,c3,c4⟩:=c0
   have hb:=model_bd c1;have hp:=prices_bd c2;have hall:=(modelOk_iff.1 c1).2.2
   have hT:∀ j:Nat,j < t.length→(0≤rd t (j:Int)∧rd t (j:Int)≤10000)∧(0≤rd g (j:Int)∧rd g (j:Int)≤1000):=fun j hj=>by
    rw [rd_nat,rd_nat];exact ⟨(hall j hj).1,(hall j hj).2.1⟩
   obtain ⟨j,rfl⟩:∃ j:Nat,i=(j:Int):=⟨i.toNat,by omega⟩;rw [if_pos ⟨c1,c2,c3,c4⟩,show pvsQ x y z t g r p0 p1 p2 p3=_ from if_pos ⟨c1,c2⟩];refine ⟨rfl,⟨c3,?_⟩,?_,?_,fun hn=>⟨_,?_,price_up (hT j (by omega)).1 (hT j (by omega)).2 hp hn⟩⟩
   ·show _ < (((foldR _ 0 _ []).length:Nat):Int);rw [allP_len];exact c4
   ·show rd (foldR _ 0 _ []) _=_;rw [rd_nat,allP_at _ _ _ _ _ _ _ j (by omega)]
   ·unfold impl_AreValues.f
    refine ev_pos (by show (((foldR _ 0 _ []).length:Nat):Int)=_;rw [allP_len]) (ev_id ?_);refine ev_eq ?_ (goodValues_ev _ (maxLen_val (by show (foldR _ 0 _ []).length≤_;rw [allP_len];omega)));rw [valsOk_iff]
    show _≤(foldR _ 0 _ []).length∧_
    rw [allP_len];refine ⟨hb.1,hb.2.1,fun j hj=>?_⟩
    show _≤(foldR _ 0 _ []).getD j 0∧(foldR _ 0 _ []).getD j 0≤_
    rw [allP_at _ _ _ _ _ _ _ j (by omega)];exact price_in (hT j hj).1 (hT j hj).2 hp
   ·rw [w64 (by omega) (by omega)]
    have:=(pv_both x y z t g r (maxLen_val (by omega)) (maxLen_val (by omega)) (maxLen_val (by omega)) (p0 + 1) p1 p2 p3 (j:Int)).2
    rwa [show pvQ x y z t g r (p0 + 1) p1 p2 p3 (j:Int)=_ from if_pos ⟨c1,prices_ok ⟨by omega,hp.2⟩,c3,c4⟩] at this
  ·rw [if_neg c0] at hok;cases hok
theorem rule_law (x y z:Int) (t g r:List Int) (ht:t.length≤300) (hg:g.length≤300) (hr:r.length≤300) (l:PL) (k:Int) :
  ∃ (v:Int) (three:Bool) (all:List Int) (five:Bool),(OwnRuleValue.RVsays x y z t g r l k (v,three)∧Ev (fun m=>spec_RuleValue.f m x y z t g r l k) (v,three))∧(OwnRuleValues.RVsays x y z t g r l (all,five)∧Ev (fun k=>spec_RuleValues.f k x y z t g r l) (all,five))∧all.length≤300 ∧
   (five=true→0≤k→k < (all.length:Int)→three=true∧rd all k=v):=by
 obtain ⟨v,three,hv1,hv2⟩:=rv_both x y z t g r l k (by omega) (by omega) (by omega);obtain ⟨all,five,ha1,ha2,ha3,ha4⟩:=rvs_both x y z t g r l (by omega) (by omega) (by omega);refine ⟨v,three,all,five,⟨hv2,hv1⟩,⟨ha2,ha1⟩,by omega,fun h5 hk0 hk1=>?_⟩;obtain ⟨b1,b2,b3,b4⟩:=ha4 h5;obtain ⟨k1,hk⟩:=b4 k.toNat (by omega);obtain ⟨k2,hk'⟩:=hv2.1 ⟨b1,b2,hk0,by omega⟩;rw [show ((k.toNat:Nat):Int)=k by omega] at hk
 have:=rv_same hk' hk
 exact ⟨congrArg Prod.snd this,(congrArg Prod.fst this).symm⟩
theorem cut_law (p0 p1 p2 p3:Int):∃ (c:Int) (b:Bool) (pq:Bool),(Ev (fun k=>impl_CutOff.f k p0 p1 p2 p3) (c,b)∧Ev (fun k=>spec_CutOff.f k p0 p1 p2 p3) (c,b))∧(Ev (fun k=>impl_ArePrices.f k p0 p1 p2 p3) pq∧Ev (fun k=>spec_ArePrices.f k p0 p1 p2 p3) pq)∧(b=true→Cut p0 p1 p2 c):=by
 obtain ⟨c,b,h1,h2,h3⟩:=cut_both p0 p1 p2 p3;exact ⟨c,b,pricesOk p0 p1 p2 p3,⟨h1,h2⟩,⟨ArePrices_ev p0 p1 p2 p3,ev_id (vaPrices_ev p0 p1 p2 p3)⟩,h3⟩
end Go.Proofs.Ytahhiedlkegkgaa.MoneyLaw
