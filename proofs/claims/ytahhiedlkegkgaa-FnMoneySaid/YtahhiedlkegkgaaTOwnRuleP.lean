/- The parts of a rule: both sides find the same tree,depths and values. -/
import Derived.Test.YtahhiedlkegkgaaTRuleMath
import Derived.Test.YtahhiedlkegkgaaTOwnRuleDepth
import Derived.Test.YtahhiedlkegkgaaTMFnMoneyx2
import Derived.Test.YtahhiedlkegkgaaTMFnMoneyx5
namespace Go.Proofs.Ytahhiedlkegkgaa.OwnRuleP
open Go.RowKit Go.Proofs.Ytahhiedlkegkgaa.PFnMoney Go.Proofs.YtahhiedlkegkgaaW.PrintWords Go.Proofs.YtahhiedlkegkgaaW.PrintLast Go.Proofs.YtahhiedlkegkgaaW.PrintMore Go.Proofs.Ytahhiedlkegkgaa.B Go.Proofs.Ytahhiedlkegkgaa.OwnRuleDepth Go.Proofs.Ytahhiedlkegkgaa.RuleMath
set_option linter.unusedVariables false
set_option linter.unusedSimpArgs false
theorem dTP:type_of% @decide_eq_true:=@decide_eq_true
theorem rdP (l:List S94) (i:Nat):rd_T94 l (i:Int)=l.getD i z94:=by unfold rd_T94;rw [toNat_nat]
def pt (l:List S94) (i:Nat):S94:=l.getD i z94
def nd (l:List S94) (i:Nat):Nat:=(ndI (pt l i).f0).toNat
def goodAt (l:List S94) (i:Nat):Prop:=badP (pt l i) (stk (nd l) i).length=false
/-- what a part is that may stand -/
theorem good_iff (l:List S94) (i:Nat) (h:goodAt l i):((pt l i).f0=0∧0≤(pt l i).f1∧(pt l i).f1≤1000000∧nd l i=0 ∨ (pt l i).f0=1∧0≤(pt l i).f1∧(pt l i).f1≤4∧nd l i=0 ∨ 2≤(pt l i).f0∧(pt l i).f0≤5∧(pt l i).f1=0∧nd l i=2 ∨ 6≤(pt l i).f0∧(pt l i).f0≤8∧(pt l i).f1=0∧nd l i=4)∧ndI (pt l i).f0=(nd l i:Int)∧nd l i≤(stk (nd l) i).length:=by
 have hb:=of_decide_eq_false (h:badP _ _=false);have hc:=ndI_cases (pt l i).f0;have hn:nd l i=(ndI (pt l i).f0).toNat:=rfl
 omega
def depS (l:List S94) (i:Nat):List Int:=(stk (nd l) i).reverse.map (dp (nd l))
theorem depS_len (l:List S94) (i:Nat):(depS l i).length=(stk (nd l) i).length:=by unfold depS;rw [List.length_map,List.length_reverse]
theorem rev_take {α:Type} (s:List α) (n:Nat):s.reverse.take (s.length - n)=(s.drop n).reverse:=by rw [List.reverse_drop]
theorem rev_drop {α:Type} (s:List α) (n:Nat):s.reverse.drop (s.length - n)=(s.take n).reverse:=by rw [List.reverse_take]
theorem nxt_depS (l:List S94) (i:Nat):nxt (pt l i) (depS l i)=depS l (i + 1):=by
 unfold nxt
 rw [depS_len]
 show (depS l i).take ((stk (nd l) i).length - nd l i) ++ [mxL ((depS l i).drop ((stk (nd l) i).length - nd l i)) + 1]=_
 unfold depS
 rw [← List.map_take,← List.map_drop,rev_take,rev_drop];simp only [stk,List.reverse_cons,List.map_append,List.map_cons,List.map_nil]
 rw [dp_eq];rfl
theorem dpt_good (l:List S94) (n:Nat):∀ (d i:Nat),i + d=n→(∀ j,i≤j→j < n→goodAt l j)→dpt l d i (depS l i)=((depS l n).getD 0 0,((stk (nd l) n).length:Int) == 1):=by
 intro d
 induction d with
 | zero =>
  intro i hi _
  obtain rfl:i=n:=by omega
  unfold dpt;rw [depS_len]
 | succ d ih =>
  intro i hi hg
  unfold dpt
  have h:badP (l.getD i z94) (depS l i).length=false:=by rw [depS_len];exact hg i (Nat.le_refl _) (by omega)
  rw [if_neg (by rw [h];simp)];rw [show nxt (l.getD i z94) (depS l i)=depS l (i + 1) from nxt_depS l i];exact ih (i + 1) (by omega) (fun j h1 h2=>hg j (by omega) h2)
theorem dpt_bad (l:List S94) (n:Nat):∀ (d i:Nat),i + d=n→(∃ j,i≤j∧j < n∧¬ goodAt l j)→dpt l d i (depS l i)=(0,false):=by
 intro d
 induction d with
 | zero=>rintro i hi ⟨j,h1,h2,_⟩;omega
 | succ d ih =>
  rintro i hi ⟨j,h1,h2,h3⟩
  unfold dpt
  by_cases h:badP (l.getD i z94) (depS l i).length=true
  ·rw [if_pos h]
  ·rw [if_neg h,show nxt (l.getD i z94) (depS l i)=depS l (i + 1) from nxt_depS l i]
   refine ih (i + 1) (by omega) ⟨j,?_,h2,h3⟩
   by_cases e:j=i
   ·subst e
    refine absurd ?_ h3;rw [depS_len,Bool.not_eq_true] at h;exact h
   ·omega
open Classical in
theorem isRuleB_iff (l:List S94):isRuleB l=true ↔ (1≤l.length∧l.length≤39)∧(∀ j,j < l.length→goodAt l j)∧(stk (nd l) l.length).length=1∧dp (nd l) (l.length - 1)≤12:=by
 unfold isRuleB rdep
 by_cases hn:1≤l.length∧l.length≤39
 ·rw [if_pos hn]
  by_cases hg:∀ j,j < l.length→goodAt l j
  ·rw [show ([]:List Int)=depS l 0 from rfl,dpt_good l l.length l.length 0 (by omega) (fun j _ h=>hg j h)]
   simp only [Bool.and_eq_true,beq_iff_eq,decide_eq_true_eq]
   constructor
   ·rintro ⟨h1,h2⟩
    have h1':(stk (nd l) l.length).length=1:=by omega
    have e:=stk_head (nd l) l.length h1' hn.1;refine ⟨hn,hg,h1',?_⟩
    unfold depS at h2
    rw [e] at h2
    simpa using h2
   ·rintro ⟨_,_,h1,h2⟩
    refine ⟨by omega,?_⟩
    unfold depS
    rw [stk_head (nd l) l.length h1 hn.1]
    simpa using h2
  ·have hb:∃ j,0≤j∧j < l.length∧¬ goodAt l j:=by
    have ⟨j,hj⟩:=not_forall.1 hg;exact ⟨j,Nat.zero_le _,not_imp.1 hj⟩
   rw [show ([]:List Int)=depS l 0 from rfl,dpt_bad l l.length l.length 0 (by omega) hb]
   constructor
   ·intro h;simp at h
   ·intro h;exact absurd h.2.1 hg
 ·rw [if_neg hn]
  constructor
  ·intro h;simp at h
  ·intro h;exact absurd h.1 hn
def kidsI (l:List S94) (i:Nat):List Int:=(kids (nd l) i).reverse.map fun (j:Nat)=>(j:Int)
def openI (l:List S94) (i:Nat):List Int:=(stk (nd l) i).reverse.map fun (j:Nat)=>(j:Int)
def treeI (l:List S94) (i:Nat):List (List Int):=(List.range i).map (kidsI l)
theorem openI_len (l:List S94) (i:Nat):(openI l i).length=(stk (nd l) i).length:=by unfold openI;rw [List.length_map,List.length_reverse]
theorem stk_len (f:Nat→Nat) (i:Nat):(stk f i).length≤i:=by
 induction i with
 | zero=>simp [stk]
 | succ i ih=>simp only [stk,List.length_cons,List.length_drop];omega
theorem ruPart_eq (p:S94):spec_ruPart.f p.f0 p.f1=some (decide ((p.f0=0∧0≤p.f1∧p.f1≤1000000) ∨ (p.f0=1∧0≤p.f1∧p.f1≤4) ∨ (2≤p.f0∧p.f0≤8∧p.f1=0))):=by
 unfold spec_ruPart.f
 by_cases h0:p.f0=0
 ·rw [if_pos h0,l1In_eq,Option.bind_some];congr 2;rw [eq_iff_iff];omega
 ·rw [if_neg h0]
  by_cases h1:p.f0=1
  ·rw [if_pos h1,l1In_eq,Option.bind_some];congr 2;rw [eq_iff_iff];omega
  ·rw [if_neg h1,l1In_eq,Option.bind_some]
   by_cases h2:2≤p.f0∧p.f0≤8
   ·rw [if_pos (dTP h2)];congr 1;rw [Bool.eq_iff_iff,beq_iff_eq,decide_eq_true_eq];omega
   ·rw [if_neg (by simpa using h2)];congr 1;symm;exact decide_eq_false (by omega)
theorem ruNeeds_eq (k:Int):spec_ruNeeds.f k=some (if k≤1 then 0 else if k≤5 then 2 else 4):=by
 unfold spec_ruNeeds.f
 split
 ·rfl
 ·split <;> rfl
theorem l1Own_eq (l:List Int) (h:l.length < 1000):spec_l1Own.f l=some l:=by
 unfold spec_l1Own.f
 rw [Option.bind_some,if_pos (by simp;omega)];rfl
theorem tree_step (l:List S94) (i:Nat):treeI l (i + 1)=treeI l i ++ [kidsI l i]:=by unfold treeI;rw [List.range_succ,List.map_append];rfl
theorem open_step (l:List S94) (i:Nat):openI l (i + 1)=(openI l i).take ((openI l i).length - nd l i) ++ [(i:Int)]:=by
 rw [openI_len];unfold openI
 rw [← List.map_take,rev_take];simp only [stk,List.reverse_cons,List.map_append,List.map_cons,List.map_nil]
theorem open_drop (l:List S94) (i:Nat):(openI l i).drop ((openI l i).length - nd l i)=kidsI l i:=by
 rw [openI_len];unfold openI kidsI kids
 rw [← List.map_drop,rev_drop]
theorem bad_spec (l:List S94) (i:Nat):goodAt l i ↔ ((pt l i).f0=0∧0≤(pt l i).f1∧(pt l i).f1≤1000000 ∨ (pt l i).f0=1∧0≤(pt l i).f1∧(pt l i).f1≤4 ∨ 2≤(pt l i).f0∧(pt l i).f0≤8∧(pt l i).f1=0)∧(if (pt l i).f0≤1 then 0 else if (pt l i).f0≤5 then (2:Int) else 4)≤(openI l i).length:=by
 unfold goodAt badP
 rw [openI_len,decide_eq_false_iff_not];have hc:=ndI_cases (pt l i).f0
 split
 ·omega
 ·split <;> omega
theorem ruTree_l0 (l:List S94) (hl:l.length≤39) (q:List (List Int) × Bool)
  (hq:(∀ j,j < l.length→goodAt l j)→q=(treeI l l.length,((openI l l.length).length:Int) == 1)) (hq2:(¬ ∀ j,j < l.length→goodAt l j)→q=([],false)):∀ (d i:Nat),i + d=l.length→(∀ j,j < i→goodAt l j) →
  Ev (fun k=>spec_ruTree.l0 k (treeI l i) (openI l i) l (l.length:Int) (i:Int)) q:=by
 intro d
 induction d with
 | zero =>
  intro i hi hg
  obtain rfl:i=l.length:=by omega
  exact Ev.step (fun k=>spec_ruTree.l0.eq_2 _ _ l l.length l.length k) (ev_neg (by omega) (ev_some (hq hg).symm))
 | succ d ih =>
  intro i hi hg;refine Ev.step (fun k=>spec_ruTree.l0.eq_2 _ _ l l.length i k) ?_;rw [rdP];have hol:=openI_len l i;have hsl:=stk_len (nd l) i
  have bad:¬ goodAt l i→∀ b x0 x1,b=true→Ev (fun k=>spec_ruTree.j1 k (treeI l i) (openI l i) (i:Int) l (l.length:Int) (i:Int) b x0 x1) q:=fun h b x0 x1 hb=>by
   refine Ev.step (fun k=>spec_ruTree.j1.eq_2 _ _ _ l _ _ b x0 x1 k) (ev_pos hb (ev_some (hq2 (fun z=>h (z i (by omega)))).symm))
  refine ev_pos (by omega) (ev_pos (by omega) (ev_pos (by omega) (ev_bindc (ruPart_eq _) (ev_ite (fun h1=>ev_bindc (ruNeeds_eq _) ?_) (fun h1=>?_)))))
  ·have h1:=of_decide_eq_true h1
   by_cases h2:(if (l.getD i z94).f0≤1 then 0 else if (l.getD i z94).f0≤5 then (2:Int) else 4)≤(openI l i).length
   ·have hgi:goodAt l i:=(bad_spec l i).2 ⟨h1,h2⟩
    have hgd:=good_iff l i hgi;have hnn:(if (l.getD i z94).f0≤1 then 0 else if (l.getD i z94).f0≤5 then (2:Int) else 4)=(nd l i:Int):=by
     have hp:l.getD i z94=pt l i:=rfl;rw [hp]
     split
     ·omega
     ·split <;> omega
    refine Ev.step (fun k=>spec_ruTree.j1.eq_2 _ _ _ l _ _ _ _ _ k) (ev_neg (by rw [decide_eq_true_eq];omega) (ev_bindc (ruNeeds_eq _) ?_));rw [hnn,w64 (by omega) (by omega)]
    have ej:(((openI l i).length:Int) - (nd l i:Int)).toNat=(openI l i).length - nd l i:=by omega
    rw [ej,open_drop]
    have hkl:(kidsI l i).length≤39:=by unfold kidsI kids;rw [List.length_map,List.length_reverse,List.length_take];omega
    refine ev_pos (by omega) (ev_pos (by omega) (ev_bindc (l1Own_eq _ (by omega)) (ev_pos (by unfold treeI;rw [List.length_map,List.length_range];omega) (ev_bindc (l1Own_eq _ (by rw [List.length_take];omega)) (ev_pos (by rw [List.length_take];omega) ?_)))));rw [w_succ (n:=l.length) (by omega) (by omega),← tree_step,← open_step]
    exact ih (i + 1) (by omega) (fun j hj=>by
     by_cases e:j=i
     ·subst e;exact hgi
     ·exact hg j (by omega))
   ·exact bad (fun z=>h2 ((bad_spec l i).1 z).2) _ _ _ (dTP (by omega))
  ·have h1:¬ _:=fun z=>h1 (dTP z)
   exact bad (fun z=>h1 ((bad_spec l i).1 z).1) _ _ _ rfl
open Classical in
noncomputable def treeR (l:List S94):List (List Int) × Bool:=if ∀ j,j < l.length→goodAt l j then (treeI l l.length,((openI l l.length).length:Int) == 1) else ([],false)
theorem ruTree_ev (l:List S94) (hl:l.length≤39):Ev (fun k=>spec_ruTree.f k l) (treeR l):=by
 unfold spec_ruTree.f
 exact ruTree_l0 l hl (treeR l) (fun h=>if_pos h) (fun h=>if_neg h) l.length 0 (by omega) (fun j hj=>by omega)
def depI (l:List S94) (i:Nat):List Int:=(List.range i).map (dp (nd l))
theorem rdL (t:List (List Int)) (i:Nat):rd_L5 t (i:Int)=t.getD i []:=by unfold rd_L5;rw [toNat_nat]
theorem treeI_at (l:List S94) (n i:Nat) (h:i < n):(treeI l n).getD i []=kidsI l i:=by
 unfold treeI
 rw [List.getD_eq_getElem?_getD,List.getElem?_map,List.getElem?_range h];rfl
theorem depI_at (l:List S94) (n i:Nat) (h:i < n):(depI l n).getD i 0=dp (nd l) i:=by
 unfold depI
 rw [List.getD_eq_getElem?_getD,List.getElem?_map,List.getElem?_range h];rfl
theorem most_eq (a b:Int):spec_l1Most.f a b=some (max a b):=by
 unfold spec_l1Most.f
 by_cases h:a > b
 ·rw [if_pos h];congr 1;omega
 ·rw [if_neg h];congr 1;omega
theorem dp_bd (l:List S94) (i:Nat):1≤dp (nd l) i∧dp (nd l) i≤i + 1:=by
 induction i using Nat.strongRecOn with
 | ind i ih =>
  rw [dp_eq]
  have h:=mxL_bd ((kids (nd l) i).reverse.map (dp (nd l))) (i:Int) (by omega) (fun x hx=>by
   obtain ⟨k,hk,rfl⟩:=List.mem_map.1 hx;have h1:=kids_lt (nd l) i k (List.mem_reverse.1 hk);have h2:=ih k h1
   omega)
  unfold mxL at h
  omega
theorem ruDepths_l1 (l:List S94) (n i:Nat) (hi:i < n) (hn:n≤39) (q:List Int):∀ (d j:Nat),j + d=(kidsI l i).length →
  Ev (fun k=>spec_ruDepths.l0 k (depI l (i + 1)) (treeI l n) (n:Int) ((i + 1:Nat):Int)) q →
  Ev (fun k=>spec_ruDepths.l1 k (depI l i) ((((kids (nd l) i).reverse.map (dp (nd l))).take j).foldl max 0) (treeI l n) (n:Int) (i:Int) (kidsI l i) ((kidsI l i).length:Int) (j:Int)) q:=by
 have hkl:(kidsI l i).length≤i:=by unfold kidsI kids;rw [List.length_map,List.length_reverse,List.length_take];have:=stk_len (nd l) i;omega
 have hkl2:((kids (nd l) i).reverse.map (dp (nd l))).length=(kidsI l i).length:=by unfold kidsI;simp
 intro d
 induction d with
 | zero =>
  intro j hj hq;refine Ev.step (fun k=>spec_ruDepths.l1.eq_2 _ _ _ _ _ _ _ _ k) (ev_neg (by omega) (ev_pos (by unfold depI;rw [List.length_map,List.length_range];omega) ?_));rw [List.take_of_length_le (by omega)];have hd:=dp_bd l i;have e:=dp_eq (nd l) i;rw [w_succ (n:=n) (by omega) (by omega)]
  have e2:wrap64 (((kids (nd l) i).reverse.map (dp (nd l))).foldl max 0 + 1)=dp (nd l) i:=by rw [← e];exact w64 (by omega) (by omega)
  rw [e2]
  have e3:depI l i ++ [dp (nd l) i]=depI l (i + 1):=by unfold depI;rw [List.range_succ,List.map_append];rfl
  rw [e3];exact hq
 | succ d ih =>
  intro j hj hq;have ih:=ih (j + 1) (by omega) hq;refine Ev.step (fun k=>spec_ruDepths.l1.eq_2 _ _ _ _ _ _ _ _ k) ?_;have hx:∃ k,rd (kidsI l i) (j:Int)=((k:Nat):Int)∧k < i∧((kids (nd l) i).reverse.map (dp (nd l))).getD j 0=dp (nd l) k:=by
   have hk0:(kidsI l i).length=(kids (nd l) i).reverse.length:=by unfold kidsI;simp
   have hjl:j < (kids (nd l) i).reverse.length:=by omega
   refine ⟨(kids (nd l) i).reverse[j],?_,kids_lt (nd l) i _ (List.mem_reverse.1 (List.getElem_mem hjl)),?_⟩
   ·rw [rd_nat];unfold kidsI;rw [List.getD_eq_getElem?_getD,List.getElem?_map,List.getElem?_eq_getElem hjl];rfl
   ·rw [List.getD_eq_getElem?_getD,List.getElem?_map,List.getElem?_eq_getElem hjl];rfl
  obtain ⟨k,hk1,hk2,hk3⟩:=hx;rw [hk1,rd_nat,w_succ (n:=(kidsI l i).length) (by omega) (by omega)];rw [take_step _ j (by omega),List.foldl_append,hk3] at ih;refine ev_pos (by omega) (ev_pos (by omega) (ev_pos (by omega) (ev_pos (by omega) (ev_pos (by unfold depI;rw [List.length_map,List.length_range];omega) (ev_bindc (most_eq _ _) ?_)))));rw [depI_at l i k hk2];exact ih
theorem ruDepths_l0 (l:List S94) (n:Nat) (hn:n≤39):∀ (d i:Nat),i + d=n→Ev (fun k=>spec_ruDepths.l0 k (depI l i) (treeI l n) (n:Int) (i:Int)) (depI l n):=by
 intro d
 induction d with
 | zero =>
  intro i hi
  obtain rfl:i=n:=by omega
  exact Ev.step (fun k=>spec_ruDepths.l0.eq_2 _ _ _ _ k) (ev_neg (by omega) (ev_some rfl))
 | succ d ih =>
  intro i hi;refine Ev.step (fun k=>spec_ruDepths.l0.eq_2 _ _ _ _ k) ?_;rw [rdL,treeI_at l n i (by omega)];exact ev_pos (by omega) (ev_pos (by omega) (ev_pos (by unfold treeI;rw [List.length_map,List.length_range];omega) (ruDepths_l1 l n i (by omega) hn _ (kidsI l i).length 0 (by omega) (ih (i + 1) (by omega)))))
theorem ruGood_ev (l:List S94):Ev (fun k=>spec_ruGood.f k l) (isRuleB l):=by
 unfold spec_ruGood.f
 refine ev_bindc (l1In_eq _ _ _) (ev_ite (fun h=>?_) (fun h=>ev_some ?_))
 ·have h:=of_decide_eq_true h
  refine Ev.bind (ruTree_ev l (by omega)) ?_
  unfold treeR
  by_cases hg:∀ j,j < l.length→goodAt l j
  ·rw [if_pos hg]
   refine ev_ite (fun h1=>?_) (fun h1=>ev_some ?_)
   ·have h1:(openI l l.length).length=1:=by have:=beq_iff_eq.1 h1;omega
    rw [openI_len] at h1
    have e0:spec_ruDepths.f=fun k (t:List (List Int))=>spec_ruDepths.l0 k [] t (t.length:Int) 0:=rfl
    have hdl:(treeI l l.length).length=l.length:=by unfold treeI;simp
    refine Ev.bind (a:=depI l l.length) (by rw [e0];show Ev (fun k=>spec_ruDepths.l0 k [] (treeI l l.length) ((treeI l l.length).length:Int) 0) _;rw [hdl];exact ruDepths_l0 l l.length (by omega) l.length 0 (by omega)) ?_
    have hl2:(depI l l.length).length=l.length:=by unfold depI;simp
    rw [w64 (by omega) (by omega)];refine ev_pos (by omega) (ev_pos (by omega) (ev_some ?_));rw [show (l.length:Int) - 1=((l.length - 1:Nat):Int) by omega,rd_nat,depI_at l _ _ (by omega),Bool.eq_iff_iff,isRuleB_iff,decide_eq_true_eq];exact ⟨fun z=>⟨by omega,hg,h1,z⟩,fun z=>z.2.2.2⟩
   ·symm;rw [← Bool.not_eq_true,isRuleB_iff]
    rintro ⟨_,_,z,_⟩;rw [← openI_len] at z;exact h1 (by simp [z])
  ·rw [if_neg hg]
   refine ev_neg (by simp) (ev_some ?_)
   symm;rw [← Bool.not_eq_true,isRuleB_iff]
   rintro ⟨_,z,_⟩;exact hg z
 ·symm;rw [← Bool.not_eq_true,isRuleB_iff]
  rintro ⟨z,_⟩;exact h (dTP (by omega))
theorem dec_w (d:Nat) (h:d≤1000):wrap64 (((d + 1:Nat):Int) - 1)=(d:Int):=by rw [w64 (by omega) (by omega)];omega
theorem size_l0 (l:List S94) (i:Nat) (hl:l.length≤39) (hi:i < l.length) (ih:∀ k,k < i→Ev (fun n=>impl_partSize.f n l (k:Int)) (sz (nd l) k:Int)):∀ (d r:Nat),r + d=(kids (nd l) i).length →
  Ev (fun n=>impl_partSize.l0 n l (i:Int) (1 + ((((kids (nd l) i).take r).map (sz (nd l))).sum:Nat)) (d:Int)) (sz (nd l) i:Int):=by
 have hch:=Ch_kids (nd l) i
 have hkl:(kids (nd l) i).length≤i:=by unfold kids;rw [List.length_take];have:=stk_len (nd l) i;omega
 intro d
 induction d with
 | zero =>
  intro r hr;refine Ev.step (fun k=>impl_partSize.l0.eq_2 _ _ _ _ k) (ev_neg (by omega) (ev_some ?_))
  rw [List.take_of_length_le (by omega),sz_eq];omega
 | succ d ihd =>
  intro r hr;have h:=Ch_at (sz (nd l)) _ _ r hch (by omega);have hd:=Ch_drop (sz (nd l)) _ _ (r + 1) hch;have hs:=sum_take_succ (sz (nd l)) (kids (nd l) i) r (by omega);refine Ev.step (fun k=>impl_partSize.l0.eq_2 _ _ _ _ k) (ev_pos (by omega) ?_)
  have ek:wrap64 ((i:Int) - (1 + ((((kids (nd l) i).take r).map (sz (nd l))).sum:Nat)))=(((kids (nd l) i).getD r 0:Nat):Int):=by rw [w64 (by omega) (by omega)];omega
  rw [ek];refine Ev.bind (ih _ (by omega)) ?_
  have e1:wrap64 ((1:Int) + ((((kids (nd l) i).take r).map (sz (nd l))).sum:Nat) + (sz (nd l) ((kids (nd l) i).getD r 0):Nat))=1 + ((((kids (nd l) i).take (r + 1)).map (sz (nd l))).sum:Nat):=by rw [w64 (by omega) (by omega)];omega
  have hdd:d≤1000:=by clear e1 ek hs hd h;omega
  rw [e1,dec_w d hdd];exact ihd (r + 1) (by omega)
theorem size_ev (l:List S94) (hl:l.length≤39) (hg:∀ j,j < l.length→goodAt l j) (i:Nat):i < l.length→Ev (fun n=>impl_partSize.f n l (i:Int)) (sz (nd l) i:Int):=by
 induction i using Nat.strongRecOn with
 | ind i ih =>
  intro hi;refine Ev.step (fun k=>impl_partSize.f.eq_2 l i k) (ev_pos (by omega) (ev_pos (by omega) ?_));rw [rdP];have hgd:=good_iff l i (hg i hi);refine Ev.bind (needsOf_ev _) ?_;rw [show ndI (l.getD i z94).f0=(nd l i:Int) from hgd.2.1];have hk:=kids_len (nd l) i hgd.2.2;have h:=size_l0 l i hl hi (fun k hk=>ih k hk (by omega)) (nd l i) 0 (by omega)
  simpa using h
theorem set_rev (l:List Int) (n r:Nat) (x:Int) (hr:r < n) (hl:l.length=r):(List.replicate (n - r) (0:Int) ++ l.reverse).set (n - 1 - r) x=List.replicate (n - (r + 1)) 0 ++ (l ++ [x]).reverse:=by
 rw [List.reverse_append,List.set_append_left _ _ (by rw [List.length_replicate];omega)];rw [show n - r=(n - (r + 1)) + 1 by omega,List.replicate_succ',List.set_append_right _ _ (by rw [List.length_replicate];omega)];rw [List.length_replicate,show n - 1 - r - (n - (r + 1))=0 by omega]
 simp
theorem needs_l0 (l:List S94) (i:Nat) (hl:l.length≤39) (hg:∀ j,j < l.length→goodAt l j) (hi:i < l.length):∀ (d r:Nat),r + d=(kids (nd l) i).length →
  Ev (fun n=>impl_partNeeds.l0 n l (List.replicate ((kids (nd l) i).length - r) 0 ++ (((kids (nd l) i).take r).map fun (j:Nat)=>(j:Int)).reverse) ((i:Int) - 1 - ((((kids (nd l) i).take r).map (sz (nd l))).sum:Nat)) ((d:Int) - 1)) (kidsI l i):=by
 have hch:=Ch_kids (nd l) i
 have hkl:(kids (nd l) i).length≤i:=by unfold kids;rw [List.length_take];have:=stk_len (nd l) i;omega
 intro d
 induction d with
 | zero =>
  intro r hr;refine Ev.step (fun k=>impl_partNeeds.l0.eq_2 _ _ _ _ k) (ev_neg (by omega) (ev_some ?_));rw [List.take_of_length_le (by omega),show (kids (nd l) i).length - r=0 by omega]
  unfold kidsI
  simp
 | succ d ihd =>
  intro r hr;have h:=Ch_at (sz (nd l)) _ _ r hch (by omega);have hd:=Ch_drop (sz (nd l)) _ _ (r + 1) hch;have hs:=sum_take_succ (sz (nd l)) (kids (nd l) i) r (by omega);refine Ev.step (fun k=>impl_partNeeds.l0.eq_2 _ _ _ _ k) (ev_pos (by omega) (ev_pos (by omega) (ev_pos ?_ ?_)))
  ·rw [List.length_append,List.length_replicate,List.length_reverse,List.length_map,List.length_take];omega
  have ek:(i:Int) - 1 - ((((kids (nd l) i).take r).map (sz (nd l))).sum:Nat)=(((kids (nd l) i).getD r 0:Nat):Int):=by omega
  have hkr:(kids (nd l) i).getD r 0 < i:=by omega
  rw [ek];refine Ev.bind (size_ev l hl hg _ (by omega)) ?_
  have e1:wrap64 ((((kids (nd l) i).getD r 0:Nat):Int) - (sz (nd l) ((kids (nd l) i).getD r 0):Nat))=(i:Int) - 1 - ((((kids (nd l) i).take (r + 1)).map (sz (nd l))).sum:Nat):=by rw [w64 (by omega) (by omega)];omega
  have e2:wrap64 (((d + 1:Nat):Int) - 1 - 1)=(d:Int) - 1:=by rw [w64 (by omega) (by omega)];omega
  have e3:(((d + 1:Nat):Int) - 1).toNat=(kids (nd l) i).length - 1 - r:=by omega
  rw [e1,e2,e3,set_rev _ _ r _ (by omega) (by rw [List.length_map,List.length_take];omega)]
  have e4:(((kids (nd l) i).take r).map fun (j:Nat)=>(j:Int)) ++ [(((kids (nd l) i).getD r 0:Nat):Int)]=((kids (nd l) i).take (r + 1)).map fun (j:Nat)=>(j:Int):=by
   rw [List.take_succ_eq_append_getElem (by omega:r < (kids (nd l) i).length),List.map_append,List.getD_eq_getElem?_getD,List.getElem?_eq_getElem (by omega:r < (kids (nd l) i).length)];rfl
  rw [e4];exact ihd (r + 1) (by omega)
theorem needs_ev (l:List S94) (hl:l.length≤39) (hg:∀ j,j < l.length→goodAt l j) (i:Nat) (hi:i < l.length):Ev (fun n=>impl_partNeeds.f n l (i:Int)) (kidsI l i):=by
 unfold impl_partNeeds.f
 refine ev_pos (by omega) (ev_pos (by omega) ?_);rw [rdP];have hgd:=good_iff l i (hg i hi);have hk:=kids_len (nd l) i hgd.2.2;have hsl:=stk_len (nd l) i;refine Ev.bind (needsOf_ev _) ?_;rw [show ndI (l.getD i z94).f0=(nd l i:Int) from hgd.2.1];refine ev_pos (by omega) (ev_pos (by omega) ?_);simp only [Option.bind_some,List.length_replicate,toNat_nat];have h:=needs_l0 l i hl hg hi (nd l i) 0 (by omega);rw [hk] at h;rw [w64 (by omega) (by omega),w64 (by omega) (by omega)]
 simpa using h
def Same (q1 q2:Int × Bool):Prop:=q1.2=q2.2∧(q1.2=true→q1.1=q2.1∧-1000000000≤q1.1∧q1.1≤1000000000)
def chk (v:Int):Int × Bool:=if max v (-v) > 1000000000 then (0,false) else (v,true)
def chk2 (v:Int):Int × Bool:=(v,decide (max v (-v)≤1000000000))
theorem chk_same (v:Int):Same (chk v) (chk2 v):=by
 unfold Same chk chk2
 by_cases h:max v (-v) > 1000000000
 ·rw [if_pos h];exact ⟨(decide_eq_false (by omega)).symm,by simp⟩
 ·rw [if_neg h];exact ⟨(dTP (by omega)).symm,fun _=>⟨rfl,by show _≤v;omega,by show v≤_;omega⟩⟩
theorem abs_eq (v:Int) (h:-9223372036854775807≤v∧v≤9223372036854775807):impl_abs.f v=some (max v (-v)):=by
 unfold impl_abs.f mx
 rw [w64 (by omega) (by omega)]
 congr 1;omega
theorem abs2_eq (v:Int) (h:-9223372036854775807≤v∧v≤9223372036854775807):spec_l1Abs.f v=some (max v (-v)):=by
 unfold spec_l1Abs.f
 rw [w64 (by omega) (by omega),most_eq];rfl
theorem mul_bd (a b:Int) (ha:-1000000000≤a∧a≤1000000000) (hb:-1000000000≤b∧b≤1000000000):-1000000000000000000≤a * b∧a * b≤1000000000000000000:=by
 have h1:(a * b).natAbs=a.natAbs * b.natAbs:=Int.natAbs_mul a b;have h2:a.natAbs * b.natAbs≤1000000000 * 1000000000:=Nat.mul_le_mul (by omega) (by omega)
 omega
theorem tmod_pos {x y:Int} (h:0≤x):0≤Int.tmod x y:=by
 rw [Int.tmod_eq_emod_of_nonneg h]
 by_cases hy:y=0
 ·subst hy;simpa using h
 ·exact Int.emod_nonneg x hy
theorem tmod_neg {x y:Int} (h:x≤0):Int.tmod x y≤0:=by
 have:Int.tmod (-(-x)) y=-Int.tmod (-x) y:=Int.neg_tmod _ _
 rw [Int.neg_neg] at this
 have:=tmod_pos (x:=-x) (y:=y) (by omega)
 omega
theorem tdiv_bd (a b:Int) (ha:-1000000000≤a∧a≤1000000000):-1000000000≤Int.tdiv a b∧Int.tdiv a b≤1000000000:=by
 have h1:(Int.tdiv a b).natAbs=a.natAbs / b.natAbs:=Int.natAbs_tdiv a b;have h2:a.natAbs / b.natAbs≤a.natAbs:=Nat.div_le_self _ _
 omega
theorem div_both (a b:Int) (ha:-1000000000≤a∧a≤1000000000) (hb:-1000000000≤b∧b≤1000000000) (h0:b≠0):∃ v,(-1000000001≤v∧v≤1000000001)∧spec_ruDown.f a b=some v∧(0 < b→impl_floorDiv.f a b=some v)∧(b < 0→impl_floorDiv.f (-a) (-b)=some v):=by
 have hd:=tdiv_bd a b ha;have hp:=@tmod_pos a b;have hn:=@tmod_neg a b
 have e1:Int.tdiv (-a) (-b)=Int.tdiv a b:=by rw [Int.neg_tdiv,Int.tdiv_neg,Int.neg_neg]
 have e2:Int.tmod (-a) (-b)=- Int.tmod a b:=by rw [Int.neg_tmod,Int.tmod_neg]
 have w1:wrap64 (Int.tdiv a b)=Int.tdiv a b:=w64 (by omega) (by omega);have w2:wrap64 (Int.tdiv a b - 1)=Int.tdiv a b - 1:=w64 (by omega) (by omega)
 unfold spec_ruDown.f impl_floorDiv.f
 rw [e1,e2,w1,w2,if_neg h0,if_neg h0,if_neg (show ¬ -b=0 by omega)]
 by_cases hm:Int.tmod a b=0
 ·rw [if_pos hm]
  exact ⟨_,⟨by omega,by omega⟩,rfl,fun _=>by rw [if_neg (by omega)],fun _=>by rw [if_neg (by omega)]⟩
 ·rw [if_neg hm]
  by_cases hs:Int.tmod a b < 0
  ·have ha0:a < 0:=by
    by_cases h:a < 0
    ·exact h
    ·have:=hp (by omega);omega
   by_cases hb0:b < 0
   ·rw [if_neg (by simp [ha0,hb0])]
    exact ⟨_,⟨by omega,by omega⟩,rfl,fun _=>by omega,fun _=>by rw [if_neg (by omega)]⟩
   ·rw [if_pos (by simp [ha0,hb0])]
    exact ⟨_,⟨by omega,by omega⟩,rfl,fun _=>by rw [if_pos hs],fun _=>by omega⟩
  ·have ha0:¬ a < 0:=by
    intro h
    have:=hn (by omega);omega
   by_cases hb0:b < 0
   ·rw [if_pos (by simp [ha0,hb0])]
    exact ⟨_,⟨by omega,by omega⟩,rfl,fun _=>by omega,fun _=>by rw [if_pos (by omega)]⟩
   ·rw [if_neg (by simp [ha0,hb0])]
    exact ⟨_,⟨by omega,by omega⟩,rfl,fun _=>by rw [if_neg hs],fun _=>by omega⟩
theorem kid_at (l:List S94) (i r:Nat) (h:r < (kids (nd l) i).length):∃ k,rd (kidsI l i) (r:Int)=((k:Nat):Int)∧k < i:=by
 have hjl:r < (kids (nd l) i).reverse.length:=by rw [List.length_reverse];exact h
 refine ⟨(kids (nd l) i).reverse[r],?_,kids_lt (nd l) i _ (List.mem_reverse.1 (List.getElem_mem hjl))⟩
 rw [rd_nat];unfold kidsI;rw [List.getD_eq_getElem?_getD,List.getElem?_map,List.getElem?_eq_getElem hjl];rfl
theorem ev_if {α:Type} {c:Prop} [Decidable c] (x y:α):Ev (fun _=>if c then some x else some y) (if c then x else y):=ev_ite (fun h=>ev_some (if_pos h).symm) (fun h=>ev_some (if_neg h).symm)
theorem sign_eq (d:Int):spec_l1Sign.f d=some (if d > 0 then 1 else if d < 0 then -1 else 0):=by
 unfold spec_l1Sign.f
 split
 ·rfl
 ·split <;> rfl
theorem eval_both (l:List S94) (hl:l.length≤39) (hg:∀ j,j < l.length→goodAt l j) (f:List Int) (hf:f.length=5) (hb:∀ j,j < 5→0≤f.getD j 0∧f.getD j 0≤1000000000) (i:Nat) :
  i < l.length→∃ q1 q2,Ev (fun n=>impl_evalPart.f n l (i:Int) f) q1∧Ev (fun n=>spec_ruValue.f n l (treeI l l.length) (i:Int) f) q2∧Same q1 q2:=by
 induction i using Nat.strongRecOn with
 | ind i ih =>
  intro hi;have hgd:=good_iff l i (hg i hi)
  have htl:(treeI l l.length).length=l.length:=by unfold treeI;simp
  have e1:∀ n,impl_evalPart.f (n + 1) l (i:Int) f=_:=fun n=>impl_evalPart.f.eq_2 l i f n
  have e2:∀ n,spec_ruValue.f (n + 1) l (treeI l l.length) (i:Int) f=_:=fun n=>spec_ruValue.f.eq_2 l (treeI l l.length) i f n
  simp only [rdP,rdL,treeI_at l l.length i hi] at e1 e2
  change ∀ n,impl_evalPart.f (n + 1) l (i:Int) f=_ at e1
  obtain ⟨pk,hpk⟩:∃ z,z=(pt l i).f0:=⟨_,rfl⟩;obtain ⟨pv,hpv⟩:∃ z,z=(pt l i).f1:=⟨_,rfl⟩;have hp0:(l.getD i z94).f0=pk:=hpk.symm;have hp1:(l.getD i z94).f1=pv:=hpv.symm;rw [hp0,hp1] at e1 e2;rw [← hpk,← hpv] at hgd
  by_cases k0:pk=0
  ·refine ⟨(pv,true),(pv,true),Ev.step e1 (ev_pos (by omega) (ev_pos (by omega) (ev_pos k0 (ev_some rfl)))),Ev.step e2 (ev_pos (by omega) (ev_pos (by omega) (ev_pos (by omega) (ev_pos k0 (ev_some rfl))))),rfl,fun _=>⟨rfl,?_,?_⟩⟩
   ·show _≤pv;omega
   ·show pv≤_;omega
  by_cases k1:pk=1
  ·have hfb:=hb pv.toNat (by omega)
   have er:rd f pv=f.getD pv.toNat 0:=rfl;refine ⟨(rd f pv,true),(rd f pv,true),Ev.step e1 (ev_pos (by omega) (ev_pos (by omega) (ev_neg k0 (ev_pos k1 (ev_pos (by omega) (ev_pos (by omega) (ev_some rfl))))))),Ev.step e2 (ev_pos (by omega) (ev_pos (by omega) (ev_pos (by omega) (ev_neg k0 (ev_pos k1 (ev_pos (by omega) (ev_pos (by omega) (ev_some rfl)))))))),rfl,fun _=>⟨rfl,?_,?_⟩⟩
   ·show _≤rd f pv;rw [er];omega
   ·show rd f pv≤_;rw [er];omega
  have hkn:=kids_len (nd l) i hgd.2.2
  have hkI:(kidsI l i).length=nd l i:=by unfold kidsI;rw [List.length_map,List.length_reverse,hkn]
  have hn2:2≤nd l i:=by omega
  obtain ⟨j0,hj0,hj0l⟩:=kid_at l i 0 (by omega);obtain ⟨j1,hj1,hj1l⟩:=kid_at l i 1 (by omega);replace hj0:rd (kidsI l i) 0=(j0:Int):=hj0;replace hj1:rd (kidsI l i) 1=(j1:Int):=hj1;rw [hj0,hj1] at e2;obtain ⟨a1,a2,ha1,ha2,has⟩:=ih j0 hj0l (by omega);obtain ⟨b1,b2,hb1,hb2,hbs⟩:=ih j1 hj1l (by omega);obtain ⟨a1,oa⟩:=a1;obtain ⟨a2,oa2⟩:=a2;obtain ⟨b1,ob⟩:=b1;obtain ⟨b2,ob2⟩:=b2;obtain ⟨q0,has⟩:=has;obtain ⟨q1,hbs⟩:=hbs;replace q0:oa=oa2:=q0;replace q1:ob=ob2:=q1;subst q0 q1
  -- from the two tests on
  suffices ∃ r1 r2,Ev (fun n=>impl_evalPart.j0 n l f (kidsI l i) a1 b1 (!(oa && ob)) pk pv) r1∧Ev (fun n=>spec_ruValue.j0 n l (treeI l l.length) f (kidsI l i) a2 b2 (!(oa && ob)) pk pv) r2∧Same r1 r2 by
   obtain ⟨r1,r2,h1,h2,hs⟩:=this;refine ⟨r1,r2,Ev.step e1 (ev_pos (by omega) (ev_pos (by omega) (ev_neg k0 (ev_neg k1 (Ev.bind (needs_ev l hl hg i hi) (ev_pos (by omega) ?_)))))),Ev.step e2 (ev_pos (by omega) (ev_pos (by omega) (ev_pos (by omega) (ev_neg k0 (ev_neg k1 (ev_pos (by omega) (Ev.bind ha2 (ev_pos (by omega) (Ev.bind hb2 ?_))))))))),hs⟩
   ·rw [hj0,hj1]
    refine Ev.bind ha1 (ev_pos (by omega) (Ev.bind hb1 ?_))
    cases oa
    ·exact ev_neg (by simp) h1
    ·exact ev_pos rfl h1
   ·cases oa
    ·exact ev_neg (by simp) h2
    ·exact ev_pos rfl h2
  by_cases hoo:(!(oa && ob))=true
  ·exact ⟨(0,false),(0,false),Ev.step (fun n=>impl_evalPart.j0.eq_2 _ _ _ _ _ _ _ _ n) (ev_pos hoo (ev_some rfl)),Ev.step (fun n=>spec_ruValue.j0.eq_2 _ _ _ _ _ _ _ _ _ n) (ev_pos hoo (ev_some rfl)),rfl,by simp⟩
  have hoa:oa=true∧ob=true:=by cases oa <;> cases ob <;> simp_all
  obtain ⟨h1,h2,h3⟩:=has hoa.1;replace h1:a1=a2:=h1;obtain ⟨g1,g2,g3⟩:=hbs hoa.2;replace g1:b1=b2:=g1;subst h1 g1;replace h2:-1000000000≤a1:=h2;replace h3:a1≤1000000000:=h3;replace g2:-1000000000≤b1:=g2;replace g3:b1≤1000000000:=g3
  have simple:∀ v,(-9223372036854775807≤v∧v≤9223372036854775807)→Ev (fun _=>(impl_abs.f v).bind fun t=>if t > 1000000000 then some (0,false) else some (v,true)) (chk v)∧Ev (fun _=>(spec_l1Abs.f v).bind fun t=>some (v,decide (t≤1000000000))) (chk2 v):=fun v hv =>
   ⟨ev_bindc (abs_eq v hv) (ev_if _ _),ev_bindc (abs2_eq v hv) (ev_some rfl)⟩
  by_cases k2:pk=2
  ·have hs:=simple (wrap64 (a1 + b1)) (by rw [w64 (by omega) (by omega)];omega)
   exact ⟨_,_,Ev.step (fun n=>impl_evalPart.j0.eq_2 _ _ _ _ _ _ _ _ n) (ev_neg hoo (ev_pos k2 hs.1)),Ev.step (fun n=>spec_ruValue.j0.eq_2 _ _ _ _ _ _ _ _ _ n) (ev_neg hoo (ev_pos k2 hs.2)),chk_same _⟩
  by_cases k3:pk=3
  ·have hs:=simple (wrap64 (a1 - b1)) (by rw [w64 (by omega) (by omega)];omega)
   exact ⟨_,_,Ev.step (fun n=>impl_evalPart.j0.eq_2 _ _ _ _ _ _ _ _ n) (ev_neg hoo (ev_neg k2 (ev_pos k3 hs.1))),Ev.step (fun n=>spec_ruValue.j0.eq_2 _ _ _ _ _ _ _ _ _ n) (ev_neg hoo (ev_neg k2 (ev_pos k3 hs.2))),chk_same _⟩
  by_cases k4:pk=4
  ·have hm:=mul_bd a1 b1 ⟨h2,h3⟩ ⟨g2,g3⟩
   have hs:=simple (wrap64 (a1 * b1)) (by rw [w64 (by omega) (by omega)];omega);exact ⟨_,_,Ev.step (fun n=>impl_evalPart.j0.eq_2 _ _ _ _ _ _ _ _ n) (ev_neg hoo (ev_neg k2 (ev_neg k3 (ev_pos k4 hs.1)))),Ev.step (fun n=>spec_ruValue.j0.eq_2 _ _ _ _ _ _ _ _ _ n) (ev_neg hoo (ev_neg k2 (ev_neg k3 (ev_pos k4 hs.2)))),chk_same _⟩
  by_cases k5:pk=5
  ·by_cases hz:b1=0
   ·exact ⟨(0,false),(0,false),Ev.step (fun n=>impl_evalPart.j0.eq_2 _ _ _ _ _ _ _ _ n) (ev_neg hoo (ev_neg k2 (ev_neg k3 (ev_neg k4 (ev_pos k5 (ev_pos hz (ev_some rfl))))))),Ev.step (fun n=>spec_ruValue.j0.eq_2 _ _ _ _ _ _ _ _ _ n) (ev_neg hoo (ev_neg k2 (ev_neg k3 (ev_neg k4 (ev_pos k5 (ev_pos hz (ev_some rfl))))))),rfl,by simp⟩
   ·obtain ⟨v,hv,d1,d2,d3⟩:=div_both a1 b1 ⟨h2,h3⟩ ⟨g2,g3⟩ hz
    have hs:=simple v (by omega);refine ⟨_,_,Ev.step (fun n=>impl_evalPart.j0.eq_2 _ _ _ _ _ _ _ _ n) (ev_neg hoo (ev_neg k2 (ev_neg k3 (ev_neg k4 (ev_pos k5 (ev_neg hz (ev_ite (fun hn=>?_) (fun hn=>?_)))))))),Ev.step (fun n=>spec_ruValue.j0.eq_2 _ _ _ _ _ _ _ _ _ n) (ev_neg hoo (ev_neg k2 (ev_neg k3 (ev_neg k4 (ev_pos k5 (ev_neg hz (ev_bindc d1 hs.2))))))),chk_same v⟩
    ·rw [w64 (x:=-a1) (by omega) (by omega),w64 (x:=-b1) (by omega) (by omega)]
     exact Ev.step (fun n=>impl_evalPart.j1.eq_2 _ _ n) (ev_bindc (d3 hn) hs.1)
    ·exact Ev.step (fun n=>impl_evalPart.j1.eq_2 _ _ n) (ev_bindc (d2 (by omega)) hs.1)
  -- the choices
  have hn4:nd l i=4:=by omega
  obtain ⟨j2,hj2,hj2l⟩:=kid_at l i 2 (by omega);obtain ⟨j3,hj3,hj3l⟩:=kid_at l i 3 (by omega);replace hj2:rd (kidsI l i) 2=(j2:Int):=hj2;replace hj3:rd (kidsI l i) 3=(j3:Int):=hj3;obtain ⟨yes,hyes⟩:∃ y,y=decide ((pk=6∧a1 < b1) ∨ (pk=7∧a1=b1) ∨ (pk=8∧b1 < a1)):=⟨_,rfl⟩;obtain ⟨r1,r2,hr1,hr2,hrs⟩:∃ r1 r2,Ev (fun n=>impl_evalPart.f n l (if yes=true then (j2:Int) else j3) f) r1∧Ev (fun n=>spec_ruValue.f n l (treeI l l.length) (if yes=true then (j2:Int) else j3) f) r2∧Same r1 r2:=by
   cases yes
   ·simpa using ih j3 hj3l (by omega)
   ·simpa using ih j2 hj2l (by omega)
  have hJ:∀ b,b=yes→Ev (fun n=>impl_evalPart.j2 n l f (kidsI l i) b) r1:=by
   rintro b rfl;refine Ev.step (fun n=>impl_evalPart.j2.eq_2 _ _ _ _ n) ?_;rw [hj2,hj3]
   cases b
   ·exact ev_neg (by simp) (ev_pos (by omega) (Ev.bind (by simpa using hr1) (ev_some rfl)))
   ·exact ev_pos rfl (ev_pos (by omega) (Ev.bind (by simpa using hr1) (ev_some rfl)))
  refine ⟨r1,r2,Ev.step (fun n=>impl_evalPart.j0.eq_2 _ _ _ _ _ _ _ _ n) (ev_neg hoo (ev_neg k2 (ev_neg k3 (ev_neg k4 (ev_neg k5 ?_))))),Ev.step (fun n=>spec_ruValue.j0.eq_2 _ _ _ _ _ _ _ _ _ n) (ev_neg hoo (ev_neg k2 (ev_neg k3 (ev_neg k4 (ev_neg k5 (ev_pos (by omega) (ev_bindc (sign_eq _) ?_))))))),hrs⟩
  ·by_cases c6:pk=6
   ·refine ev_pos c6 (ev_ite (fun h=>hJ _ (by rw [hyes];exact (dTP (by omega)).symm)) (fun h=>ev_neg (by omega) (ev_neg (by omega) (hJ _ (by rw [hyes];exact (decide_eq_false (by omega)).symm)))))
   ·refine ev_neg c6 ?_
    by_cases c7:pk=7
    ·refine ev_pos c7 (ev_ite (fun h=>hJ _ (by rw [hyes];exact (dTP (by omega)).symm)) (fun h=>ev_neg (by omega) (hJ _ (by rw [hyes];exact (decide_eq_false (by omega)).symm))))
    ·refine ev_neg c7 (ev_pos (by omega) (hJ _ ?_))
     rw [hyes,decide_eq_decide];omega
  ·rw [w64 (x:=a1 - b1) (by omega) (by omega),w64 (x:=pk - 7) (by omega) (by omega),hj2,hj3]
   by_cases hy:yes=true
   ·rw [if_pos hy] at hr2
    rw [hyes,decide_eq_true_eq] at hy;refine ev_pos ?_ (ev_pos (by omega) (Ev.bind hr2 (ev_some rfl)))
    split
    ·omega
    ·split <;> omega
   ·rw [if_neg hy] at hr2
    rw [hyes,decide_eq_true_eq] at hy;refine ev_neg ?_ (Ev.bind hr2 (ev_some rfl))
    split
    ·omega
    ·split <;> omega
def fin (q:Int × Bool):Int × Bool:=if q.2=true∧-1000000≤q.1∧q.1≤1000000 then (q.1,true) else (0,false)
theorem fin_false (q:Int × Bool) (h:(fin q).2=false):fin q=(0,false):=by
 unfold fin at *
 split
 ·rename_i hc;rw [if_pos hc] at h;simp at h
 ·rfl
theorem grid_pos {x y z:Int} (h:gridOk x y z=true):1≤x∧1≤y∧1≤z:=by
 unfold gridOk at h
 have:=of_decide_eq_true h
 omega
theorem moHas_ev (x y z:Int) (t g r:List Int) (ht:t.length≤maxLen) (hg:g.length≤maxLen) (hr:r.length≤maxLen) (i:Int):Ev (fun k=>spec_moHas.f k x y z t g r i) (modelOk x y z t g r && decide (0≤i∧i < (t.length:Int))):=by
 unfold spec_moHas.f
 refine Ev.bind (moGood_ev x y z t g r ht hg hr) (ev_ite (fun h=>?_) (fun h=>ev_some ?_))
 ·have hb:=model_bd h
  refine ev_bindc (a:=x * y * z) (by unfold spec_grCount.f;rw [hb.2.2.2.2.2]) (ev_bindc (l1In_eq _ _ _) (ev_some ?_))
  rw [h,Bool.true_and,← hb.2.2.2.2.1,w64 (by omega) (by omega),decide_eq_decide];omega
 ·rw [Bool.not_eq_true] at h;rw [h,Bool.false_and]
theorem value_both (x y z:Int) (t g r:List Int) (l:List S94) (i:Int) (ht:t.length≤maxLen) (hg:g.length≤maxLen) (hr:r.length≤maxLen) (hm:modelOk x y z t g r=true) (hl:isRuleB l=true) (hi:0≤i∧i < (t.length:Int)) :
  ∃ q:Int × Bool,Ev (fun k=>spec_RuleValue.f k x y z t g r l i) q∧(∃ k,impl_ruleValue.f k x y z t g r l i=some q)∧(q.2=false→q=(0,false)):=by
 have hb:=model_bd hm;obtain ⟨hg1,hg2,hg3,hg4⟩:=(isRuleB_iff l).1 hl;obtain ⟨hgr,_,hcell⟩:=modelOk_iff.1 hm;have hxyz:=grid_pos hgr;have hc:=hcell i.toNat (by omega);have et:rd t i=t.getD i.toNat 0:=rfl;have eg:rd g i=g.getD i.toNat 0:=rfl;have er:rd r i=r.getD i.toNat 0:=rfl;have hmul:=mul_bd (rd t i) (rd g i) (by rw [et];omega) (by rw [eg];omega);have hmul0:0≤rd t i * rd g i:=Int.mul_nonneg (by rw [et];omega) (by rw [eg];omega);have hmul1:rd t i * rd g i≤10000 * 1000:=Int.mul_le_mul (by rw [et];omega) (by rw [eg];omega) (by rw [eg];omega) (by omega);have hd1:=tdiv_bd i x (by omega);have hd0:0≤Int.tdiv i x:=Int.tdiv_nonneg hi.1 (by omega);have w1:wrap64 (Int.tdiv i x)=Int.tdiv i x:=w64 (by omega) (by omega);have hd2:=tdiv_bd (Int.tdiv i x) y hd1;have hd3:0≤Int.tdiv (Int.tdiv i x) y:=Int.tdiv_nonneg hd0 (by omega);have w2:wrap64 (Int.tdiv (Int.tdiv i x) y)=Int.tdiv (Int.tdiv i x) y:=w64 (by omega) (by omega);have w3:wrap64 (rd t i * rd g i)=rd t i * rd g i:=w64 (by omega) (by omega);obtain ⟨F,hF⟩:∃ F:List Int,F=[rd t i,rd g i,rd r i,Int.tdiv (Int.tdiv i x) y,rd t i * rd g i]:=⟨_,rfl⟩
 have hFl:F.length=5:=by rw [hF];rfl
 have hFb:∀ j,j < 5→0≤F.getD j 0∧F.getD j 0≤1000000000:=by
  intro j hj
  have hj':j=0 ∨ j=1 ∨ j=2 ∨ j=3 ∨ j=4:=by omega
  rw [hF]
  rcases hj' with rfl|rfl|rfl|rfl|rfl
  ·show 0≤rd t i∧rd t i≤_;rw [et];omega
  ·show 0≤rd g i∧rd g i≤_;rw [eg];omega
  ·show 0≤rd r i∧rd r i≤_;rw [er];omega
  ·exact ⟨hd3,hd2.2⟩
  ·show 0≤rd t i * rd g i∧rd t i * rd g i≤_;omega
 obtain ⟨q1,q2,h1,h2,hs⟩:=eval_both l hg1.2 hg2 F hFl hFb (l.length - 1) (by omega)
 have en:wrap64 ((l.length:Int) - 1)=((l.length - 1:Nat):Int):=by rw [w64 (by omega) (by omega)];omega
 have hff:fin q1=fin q2:=by
  obtain ⟨s1,s2⟩:=hs
  unfold fin
  rw [← s1]
  by_cases c:q1.2=true
  ·rw [(s2 c).1]
  ·rw [if_neg (fun z=>c z.1),if_neg (fun z=>c z.1)]
 refine ⟨fin q1,?_,?_,fin_false q1⟩
 ·unfold spec_RuleValue.f
  refine Ev.bind (moHas_ev x y z t g r ht hg hr i) (ev_pos (by rw [hm,dTP hi];rfl) (Ev.bind (ruGood_ev l) ?_));refine Ev.step (fun k=>spec_RuleValue.j0.eq_2 _ _ _ _ _ _ _ _ _ k) (ev_neg (by rw [hl];simp) ?_);have hva:spec_vaFields.f x y z t g r i=some F:=by
   unfold spec_vaFields.f spec_grZ.f spec_moMetal.f
   rw [if_pos hi.1,if_pos hi.2,if_pos (show i < (g.length:Int) by omega),if_pos (show i < (r.length:Int) by omega),if_neg (by omega),if_neg (by omega),if_pos hi.1,if_pos hi.2,if_pos (show i < (g.length:Int) by omega),w1,w2,w3,hF];rfl
  refine ev_bindc hva ?_;refine Ev.bind (a:=if q2.2=true then (q2.1,true) else (0,false)) ?_ ?_
  ·unfold spec_ruEval.f
   rw [en];refine Ev.bind (ruTree_ev l hg1.2) ?_
   unfold treeR
   rw [if_pos hg2];exact Ev.bind h2 (ev_if _ _)
  ·rw [hff]
   unfold fin
   by_cases c:q2.2=true
   ·rw [if_pos c]
    refine ev_pos rfl (ev_bindc (l1In_eq _ _ _) (ev_ite (fun z=>ev_some ?_) (fun z=>ev_some ?_)))
    ·rw [if_pos ⟨c,(of_decide_eq_true z).1,(of_decide_eq_true z).2⟩]
    ·rw [if_neg (show ¬ (q2.2=true∧-1000000≤q2.1∧q2.1≤1000000) from fun y=>z (dTP y.2))]
   ·rw [if_neg c,if_neg (show ¬ (q2.2=true∧-1000000≤q2.1∧q2.1≤1000000) from fun z=>c z.1)]
    exact ev_neg (by simp) (ev_some rfl)
 ·refine Ev.rounds (g:=fun k=>impl_ruleValue.f k x y z t g r l i) ?_
  unfold impl_ruleValue.f
  refine ev_bindc (a:=(Int.tmod i x,Int.tmod (Int.tdiv i x) y,Int.tdiv (Int.tdiv i x) y)) (by unfold impl_placeOf.f;rw [if_neg (by omega),if_neg (by omega),w1,w2]) ?_;refine ev_pos hi.1 (ev_pos hi.2 (ev_pos (by omega) (ev_pos (by omega) ?_)));rw [en,w3]
  show Ev (fun k=>(impl_evalPart.f k l ((l.length - 1:Nat):Int) [rd t i,rd g i,rd r i,Int.tdiv (Int.tdiv i x) y,rd t i * rd g i]).bind _) _
  rw [← hF];refine Ev.bind h1 ?_
  unfold fin
  by_cases c:q1.2=true
  ·refine ev_pos c (ev_ite (fun z=>ev_some ?_) (fun z=>ev_ite (fun z2=>ev_some ?_) (fun z2=>ev_some ?_)))
   ·rw [if_neg (fun y=>by omega)]
   ·rw [if_neg (fun y=>by omega)]
   ·rw [if_pos ⟨c,by omega,by omega⟩]
  ·rw [if_neg (show ¬ (q1.2=true∧-1000000≤q1.1∧q1.1≤1000000) from fun z=>c z.1)]
   exact ev_neg c (ev_some rfl)
theorem value_none (x y z:Int) (t g r:List Int) (l:List S94) (i:Int) (ht:t.length≤maxLen) (hg:g.length≤maxLen) (hr:r.length≤maxLen) (h:¬ (modelOk x y z t g r=true∧isRuleB l=true∧0≤i∧i < (t.length:Int))):Ev (fun k=>spec_RuleValue.f k x y z t g r l i) (0,false):=by
 unfold spec_RuleValue.f
 refine Ev.bind (moHas_ev x y z t g r ht hg hr i) (ev_ite (fun h1=>Ev.bind (ruGood_ev l) ?_) (fun h1=>?_))
 ·rw [Bool.and_eq_true,decide_eq_true_eq] at h1
  exact Ev.step (fun k=>spec_RuleValue.j0.eq_2 _ _ _ _ _ _ _ _ _ k) (ev_pos (by cases hc:isRuleB l <;> simp_all) (ev_some rfl))
 ·exact Ev.step (fun k=>spec_RuleValue.j0.eq_2 _ _ _ _ _ _ _ _ _ k) (ev_pos rfl (ev_some rfl))
end Go.Proofs.Ytahhiedlkegkgaa.OwnRuleP
