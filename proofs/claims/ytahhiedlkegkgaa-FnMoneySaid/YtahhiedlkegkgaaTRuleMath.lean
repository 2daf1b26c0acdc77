namespace Go.Proofs.Ytahhiedlkegkgaa.RuleMath
/-- the roots of the parts told so far,the last one first -/
def stk (nd:Nat→Nat):Nat→List Nat
 | 0=>[]
 | i + 1=>i :: (stk nd i).drop (nd i)
/-- the parts that part i needs,the last one first -/
def kids (nd:Nat→Nat) (i:Nat):List Nat:=(stk nd i).take (nd i)
theorem stk_lt (nd:Nat→Nat) (i:Nat):∀ k ∈ stk nd i,k < i:=by
 induction i with
 | zero=>intro k hk;simp [stk] at hk
 | succ i ih =>
  intro k hk;simp only [stk,List.mem_cons] at hk
  rcases hk with rfl|hk
  ·omega
  ·have:=ih k (List.mem_of_mem_drop hk);omega
theorem kids_lt (nd:Nat→Nat) (i:Nat):∀ k ∈ kids nd i,k < i:=fun k hk=>stk_lt nd i k (List.mem_of_mem_take hk)
def szF (nd:Nat→Nat):Nat→Nat→Nat
 | 0,_=>0
 | f + 1,i=>1 + ((kids nd i).map (szF nd f)).sum
theorem szF_fuel (nd:Nat→Nat):∀ (f g i:Nat),i < f→i < g→szF nd f i=szF nd g i:=by
 intro f
 induction f with
 | zero=>intro g i h;omega
 | succ f ih =>
  intro g i hf hg
  cases g with
  | zero=>omega
  | succ g =>
   simp only [szF]
   congr 2
   exact List.map_congr_left (fun k hk=>by have:=kids_lt nd i k hk;exact ih g k (by omega) (by omega))
def sz (nd:Nat→Nat) (i:Nat):Nat:=szF nd (i + 1) i
theorem sz_eq (nd:Nat→Nat) (i:Nat):sz nd i=1 + ((kids nd i).map (sz nd)).sum:=by
 unfold sz
 simp only [szF]
 congr 2
 exact List.map_congr_left (fun k hk=>by have:=kids_lt nd i k hk;exact szF_fuel nd i (k + 1) k (by omega) (by omega))
/-- the roots lie one behind the other,down from e -/
def Ch (s:Nat→Nat):Nat→List Nat→Prop
 | _,[]=>True
 | e,r :: rs=>r + 1=e∧s r≤e∧Ch s (e - s r) rs
theorem Ch_take (s:Nat→Nat):∀ (l:List Nat) (e n:Nat),Ch s e l→Ch s e (l.take n):=by
 intro l
 induction l with
 | nil=>intro e n h;simp [Ch]
 | cons r rs ih =>
  intro e n h
  cases n with
  | zero=>simp [Ch]
  | succ n=>simp only [List.take_succ_cons,Ch];exact ⟨h.1,h.2.1,ih _ _ h.2.2⟩
theorem Ch_drop (s:Nat→Nat):∀ (l:List Nat) (e n:Nat),Ch s e l→((l.take n).map s).sum≤e∧Ch s (e - ((l.take n).map s).sum) (l.drop n):=by
 intro l
 induction l with
 | nil=>intro e n h;simp [Ch]
 | cons r rs ih =>
  intro e n h
  cases n with
  | zero=>simpa using h
  | succ n =>
   simp only [List.take_succ_cons,List.map_cons,List.sum_cons,List.drop_succ_cons];have h1:=h.2.1;have h2:=ih (e - s r) n h.2.2;refine ⟨by omega,?_⟩
   rw [← Nat.sub_sub];exact h2.2
theorem Ch_stk (nd:Nat→Nat) (i:Nat):Ch (sz nd) i (stk nd i):=by
 induction i with
 | zero=>simp [stk,Ch]
 | succ i ih =>
  have h:=Ch_drop (sz nd) _ _ (nd i) ih;simp only [stk,Ch,true_and];have e:sz nd i=1 + (((stk nd i).take (nd i)).map (sz nd)).sum:=sz_eq nd i;refine ⟨by omega,?_⟩;rw [show i + 1 - sz nd i=i - (((stk nd i).take (nd i)).map (sz nd)).sum by omega];exact h.2
theorem Ch_kids (nd:Nat→Nat) (i:Nat):Ch (sz nd) i (kids nd i):=Ch_take _ _ _ _ (Ch_stk nd i)
/-- depth of a part,the like -/
def dpF (nd:Nat→Nat):Nat→Nat→Int
 | 0,_=>0
 | f + 1,i=>((kids nd i).reverse.map (dpF nd f)).foldl max 0 + 1
theorem dpF_fuel (nd:Nat→Nat):∀ (f g i:Nat),i < f→i < g→dpF nd f i=dpF nd g i:=by
 intro f
 induction f with
 | zero=>intro g i h;omega
 | succ f ih =>
  intro g i hf hg
  cases g with
  | zero=>omega
  | succ g =>
   simp only [dpF]
   congr 2
   exact List.map_congr_left (fun k hk=>by have:=kids_lt nd i k (List.mem_reverse.1 hk);exact ih g k (by omega) (by omega))
def dp (nd:Nat→Nat) (i:Nat):Int:=dpF nd (i + 1) i
theorem dp_eq (nd:Nat→Nat) (i:Nat):dp nd i=((kids nd i).reverse.map (dp nd)).foldl max 0 + 1:=by
 unfold dp
 simp only [dpF]
 congr 2
 exact List.map_congr_left (fun k hk=>by have:=kids_lt nd i k (List.mem_reverse.1 hk);exact dpF_fuel nd i (k + 1) k (by omega) (by omega))
theorem Ch_at (s:Nat→Nat):∀ (l:List Nat) (e r:Nat),Ch s e l→r < l.length→l.getD r 0 + 1 + ((l.take r).map s).sum=e:=by
 intro l
 induction l with
 | nil=>intro e r _ h;simp at h
 | cons x xs ih =>
  intro e r h hr
  cases r with
  | zero=>simpa using h.1
  | succ r =>
   have:=ih (e - s x) r h.2.2 (by simpa using hr)
   have h2:=h.2.1;simp only [List.getD_cons_succ,List.take_succ_cons,List.map_cons,List.sum_cons]
   omega
theorem kids_len (nd:Nat→Nat) (i:Nat) (h:nd i≤(stk nd i).length):(kids nd i).length=nd i:=by unfold kids;rw [List.length_take];omega
theorem sum_take_succ (s:Nat→Nat) (l:List Nat) (r:Nat) (h:r < l.length):((l.take (r + 1)).map s).sum=((l.take r).map s).sum + s (l.getD r 0):=by
 rw [List.take_succ_eq_append_getElem h,List.map_append,List.sum_append,List.getD_eq_getElem?_getD,List.getElem?_eq_getElem h];simp
theorem stk_head (nd:Nat→Nat) (n:Nat) (h:(stk nd n).length=1) (hn:1≤n):stk nd n=[n - 1]:=by
 cases n with
 | zero=>omega
 | succ n =>
  simp only [stk] at h ⊢;simp only [List.length_cons] at h
  rw [List.length_eq_zero_iff.1 (by omega:((stk nd n).drop (nd n)).length=0)];simp
end Go.Proofs.Ytahhiedlkegkgaa.RuleMath
