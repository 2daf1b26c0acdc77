/- How data that can be read become the kinds' values that the printed contracts speak of: whole numbers,bools,strings,slices,structs of two to four fields. -/
import Derived.Test.YtahhiedlkegkgaaTWWords
import Derived.ChangeArms
import Derived.ChangeSlices
import Derived.ChangeSame
import Derived.Deep.Strs
import Derived.Lib.SmallJoins
namespace Go.Proofs.Ytahhiedlkegkgaa.Open
open Go Go.ChangeShapes Go.WideShapes Go.RowKit Go.Proofs.YtahhiedlkegkgaaW.PrintWords
set_option linter.unusedVariables false
set_option linter.unusedSimpArgs false
def Opens (P:Program) {α:Type} (t:TypeId) (d:Kd α) (G:α→Prop):Prop :=
 d.sz=P.cellsOf t∧∀ (H:Type) (enc:TypeId × Value→H) (w:World) (base:Nat) (held:Bool) (fuel:Nat) (cs:List Value) (x:DataW H × List MemPlace),
  DataW.trod enc P w base (fun _=>true) held fuel t cs=some x→∃ a:α,d.K w a cs∧G a
theorem opens_int {P:Program} {t:TypeId} {k:IntKind} (ht:P.underlying t=some (.int k)) (hc:P.cellsOf t=1):Opens P t (Kd.int k) (fun n=>(Lit.int k n).wf=true):=by
 refine ⟨hc.symm,?_⟩;intro H enc w base held fuel cs x h;obtain ⟨n,rfl,_,hw⟩:=DataW.trod_int ht h;exact ⟨n,rfl,hw⟩
theorem list_of {α:Type} {p:Nat→α→Prop}:∀ (n:Nat),(∀ i,i < n→∃ a,p i a)→∃ l:List α,l.length=n∧∀ i a,l[i]?=some a→p i a
 | 0,_=>⟨[],rfl,by intro i a h;simp at h⟩
 | n + 1,h=>by
  obtain ⟨l,hl,hp⟩:=list_of n (fun i hi=>h i (by omega));obtain ⟨a,ha⟩:=h n (by omega);refine ⟨l ++ [a],by simp [hl],?_⟩;intro i b hb
  by_cases hi:i < n
  ·rw [List.getElem?_append_left (by omega)] at hb
   exact hp i b hb
  ·have:i=n:=by
    have:=(List.getElem?_eq_some_iff.1 hb).1
    simp [hl] at this
    omega
   subst this;rw [List.getElem?_append_right (by omega),hl] at hb
   simp at hb
   subst hb;exact ha
theorem opens_slice {P:Program} {α:Type} {t e:TypeId} {d:Kd α} {G:α→Prop} (ht:P.underlying t=some (.slice e)) (hc:P.cellsOf t=1) (h:Opens P e d G) :
  Opens P t (Kd.slice e d) (fun l=>l.length≤maxLen∧∀ x ∈ l,G x):=by
 refine ⟨hc.symm,?_⟩;intro H enc w base held fuel cs x hx
 rcases DataW.trod_slice ht hx with ⟨rfl,_⟩|⟨a,len,cap,elems,rest,n,_,rfl,rfl,hb,hl,hm,hlen,hel,hsp,hns⟩
 ·refine ⟨[],⟨none,0,rfl,Nat.le_refl _,rfl,Nat.zero_le _,fun h=>absurd h (Nat.lt_irrefl 0)⟩,by simp,by simp⟩
 ·have each:∀ i,i < len→∃ (v:α),∃ c,c.length=d.sz∧d.K w v c∧G v∧∀ j u,c[j]?=some u→w.cell? (a.add (i * d.sz + j))=some u:=by
   intro i hi;have he:∃ y,elems[i]?=some y:=⟨elems[i]'(by omega),List.getElem?_eq_getElem (by omega)⟩;obtain ⟨y,hy⟩:=he;have h1:=hel i hi;rw [hy,Option.bind_eq_some_iff] at h1;obtain ⟨cs',hcs,h2⟩:=h1;obtain ⟨v,hv,hg⟩:=h.2 H enc w base held n cs' y h2;obtain ⟨_,hcl,hcell⟩:=World.cells?_some hcs;refine ⟨v,cs',by rw [hcl,h.1],hv,hg,?_⟩;intro j u hu;have hj:j < P.cellsOf e:=by
    have:=(List.getElem?_eq_some_iff.1 hu).1
    omega
   have:=hcell j hj
   rw [hu] at this;rw [h.1];rw [← add_add];exact this
  obtain ⟨l,hll,hp⟩:=list_of len each;refine ⟨l,⟨some a,cap,by rw [hll],by omega,rfl,?_,?_⟩,by omega,?_⟩
  ·rw [hll];unfold maxLen at hm;omega
  ·intro _
   refine ⟨a,rfl,?_⟩;intro j p hj;obtain ⟨c,h1,h2,_,h3⟩:=hp j p hj;exact ⟨c,h1,h2,h3⟩
  ·intro v hv
   obtain ⟨i,hi⟩:=List.getElem?_of_mem hv;obtain ⟨c,_,_,h3,_⟩:=hp i v hi;exact h3
/-- A slice argument,opened. -/
theorem opens_arg {P:Program} {α:Type} {t e:TypeId} {d:Kd α} {G:α→Prop} (ht:P.underlying t=some (.slice e)) (hc:P.cellsOf t=1) (h:Opens P e d G) {H:Type} {enc:TypeId × Value→H} {w:World} {base:Nat} {held:Bool} {A:Option Addr} {len cap:Nat} {dd:DataW H} {ps:List MemPlace}
  (ho:DataW.Trod enc P w base (fun _=>true) held t (.slice A len cap) dd ps):∃ l:List α,l.length=len∧l.length≤cap∧d.C w A l.length l∧l.length≤maxLen∧∀ x ∈ l,G x:=by
 obtain ⟨fuel,hf⟩:=ho;obtain ⟨l,⟨A',c',he,hle,hC⟩,hG⟩:=(opens_slice ht hc h).2 H enc w base held fuel _ _ hf;simp only [Value.cells,List.cons.injEq,and_true,Value.slice.injEq] at he;obtain ⟨rfl,rfl,rfl⟩:=he;exact ⟨l,rfl,hle,hC,hG.1,hG.2⟩
end Go.Proofs.Ytahhiedlkegkgaa.Open
