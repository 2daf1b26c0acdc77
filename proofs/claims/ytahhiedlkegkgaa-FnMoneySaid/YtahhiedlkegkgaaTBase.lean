/- Small laws on rounds,whole numbers of 64 bits,and tests over ranges;nothing of the program. -/
import Derived.RowKit
import Derived.Test.YtahhiedlkegkgaaTWWords
import Derived.Test.YtahhiedlkegkgaaTWMore
namespace Go.Proofs.Ytahhiedlkegkgaa.B
open Go.RowKit Go.Proofs.YtahhiedlkegkgaaW.PrintWords Go.Proofs.YtahhiedlkegkgaaW.PrintMore
set_option linter.unusedVariables false
set_option linter.unusedSimpArgs false
theorem ev_pos {α:Type} {c:Prop} [Decidable c] {a b:Nat→Option α} {r:α} (h:c) (k:Ev a r):Ev (fun n=>if c then a n else b n) r:=by
 simp only [if_pos h];exact k
theorem ev_neg {α:Type} {c:Prop} [Decidable c] {a b:Nat→Option α} {r:α} (h:¬ c) (k:Ev b r):Ev (fun n=>if c then a n else b n) r:=by
 simp only [if_neg h];exact k
theorem ev_ite {α:Type} {c:Prop} [Decidable c] {a b:Nat→Option α} {r:α} (h:c→Ev a r) (k:¬ c→Ev b r):Ev (fun n=>if c then a n else b n) r:=by
 by_cases hc:c
 ·exact ev_pos hc (h hc)
 ·exact ev_neg hc (k hc)
theorem ev_some {α:Type} {r s:α} (h:s=r):Ev (fun _=>some s) r:=by subst h;exact Ev.now _
theorem ev_const {α:Type} {o:Option α} {r:α} (h:o=some r):Ev (fun _=>o) r:=by subst h;exact Ev.now _
theorem ev_eq {α:Type} {g:Nat→Option α} {r s:α} (h:r=s) (k:Ev g r):Ev g s:=by subst h;exact k
theorem ev_bindc {α β:Type} {o:Option α} {f:Nat→α→Option β} {a:α} {r:β} (h:o=some a) (k:Ev (fun n=>f n a) r):Ev (fun n=>o.bind (f n)) r:=by
 subst h;exact k
theorem ev_id {α:Type} {g:Nat→Option α} {r:α} (h:Ev g r):Ev (fun n=>(g n).bind fun t=>some t) r:=Ev.bind h (Ev.now _)
theorem w64 {x:Int} (h1:-9223372036854775808≤x) (h2:x≤9223372036854775807):wrap64 x=x:=by
 unfold wrap64;omega
theorem w_succ {i n:Nat} (h:i < n) (hn:n≤9223372036854775807):wrap64 ((i:Int) + 1)=((i + 1:Nat):Int):=by
 unfold wrap64;omega
theorem maxLen_le {n:Nat} (h:n≤maxLen):n≤9223372036854775807:=by unfold maxLen at h;omega
theorem maxLen_val {n:Nat} (h:n≤9223372036854775807):n≤maxLen:=by unfold maxLen;omega
theorem rd_nat (xs:List Int) (i:Nat):rd xs (i:Int)=xs.getD i 0:=by unfold rd;rw [Int.toNat_natCast]
theorem toNat_nat (i:Nat):((i:Int)).toNat=i:=Int.toNat_natCast i
def allR (p:Nat→Bool) (i n:Nat):Bool:=(List.range' i (n - i)).all p
theorem allR_step {p:Nat→Bool} {i n:Nat} (h:i < n):allR p i n=(p i && allR p (i + 1) n):=by
 unfold allR;rw [show n - i=(n - (i + 1)) + 1 by omega,List.range'_succ,List.all_cons]
theorem allR_end {p:Nat→Bool} {i n:Nat} (h:n≤i):allR p i n=true:=by
 unfold allR;rw [show n - i=0 by omega];rfl
theorem allR_iff {p:Nat→Bool} {i n:Nat}:allR p i n=true ↔ ∀ j,i≤j→j < n→p j=true:=by
 unfold allR;rw [List.all_eq_true]
 constructor
 ·intro h j h1 h2;exact h j (by rw [List.mem_range'_1];omega)
 ·intro h j hj;rw [List.mem_range'_1] at hj;exact h j (by omega) (by omega)
def foldR {σ:Type} (f:σ→Nat→σ) (i n:Nat) (s:σ):σ:=(List.range' i (n - i)).foldl f s
theorem foldR_end {σ:Type} {f:σ→Nat→σ} {i n:Nat} {s:σ} (h:n≤i):foldR f i n s=s:=by
 unfold foldR;rw [show n - i=0 by omega];rfl
theorem foldR_last {σ:Type} {f:σ→Nat→σ} {i n:Nat} {s:σ} (h:i≤n):foldR f i (n + 1) s=f (foldR f i n s) n:=by
 unfold foldR
 rw [show n + 1 - i=(n - i) + 1 by omega,List.range'_1_concat,List.foldl_append,show i + (n - i)=n by omega];rfl
/-- strictly increasing,and in 0..n - 1 -/
def ascAt (l:List Int) (n:Int) (j:Nat):Bool:=decide (0≤l.getD j 0∧l.getD j 0 < n∧(0 < j→l.getD (j - 1) 0 < l.getD j 0))
def asc (l:List Int) (n:Int):Bool:=allR (ascAt l n) 0 l.length
end Go.Proofs.Ytahhiedlkegkgaa.B
