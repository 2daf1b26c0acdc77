/- What the drawing's small functions tell: something,while the cursor goes on by a bounded way and nothing else changes. -/
import Derived.Test.YtahhiedlkegkgaaTBase
import Derived.Test.YtahhiedlkegkgaaTMarks
import Derived.Test.YtahhiedlkegkgaaTFold
import Derived.Test.YtahhiedlkegkgaaTWTab
import Derived.Test.YtahhiedlkegkgaaTMFnMoneyx7
import Derived.Test.YtahhiedlkegkgaaTMFnMoneyx5
namespace Go.Proofs.Ytahhiedlkegkgaa.OwnRel
open Go.RowKit Go.Proofs.Ytahhiedlkegkgaa.PFnMoney Go.Proofs.YtahhiedlkegkgaaW.PrintWords Go.Proofs.YtahhiedlkegkgaaW.PrintLast Go.Proofs.YtahhiedlkegkgaaW.PrintMore Go.Proofs.Ytahhiedlkegkgaa.B
set_option linter.unusedVariables false
set_option linter.unusedSimpArgs false
theorem zRel_0 {P:Prop} (h:P:=by simp only [ByteArray.size_append,lit_size,List.length_cons,List.length_nil];omega):P:=h
/-- From some number of rounds on f tells a result with the property P. -/
def Tl {β:Type} (f:Nat→Option β) (P:β→Prop):Prop:=∃ r,Ev f r∧P r
theorem Tl.bind {α β:Type} {f:Nat→Option α} {g:Nat→α→Option β} {P:α→Prop} {Q:β→Prop} (h:Tl f P) (hg:∀ r,P r→Tl (fun k=>g k r) Q):Tl (fun k=>(f k).bind (g k)) Q:=by
 obtain ⟨r,e,p⟩:=h;obtain ⟨s,e2,q⟩:=hg r p;exact ⟨s,Ev.bind e e2,q⟩
theorem Tl.now {β:Type} {r:β} {P:β→Prop} (h:P r):Tl (fun _=>some r) P:=⟨r,Ev.now r,h⟩
theorem Tl.const {β:Type} {o:Option β} {P:β→Prop} (h:∃ r,o=some r∧P r):Tl (fun _=>o) P:=by
 obtain ⟨r,e,p⟩:=h;exact ⟨r,ev_const e,p⟩
theorem Tl.pos {α:Type} {c:Prop} [Decidable c] {a b:Nat→Option α} {P:α→Prop} (h:c) (k:Tl a P):Tl (fun n=>if c then a n else b n) P:=by
 simp only [if_pos h];exact k
theorem Tl.neg {α:Type} {c:Prop} [Decidable c] {a b:Nat→Option α} {P:α→Prop} (h:¬ c) (k:Tl b P):Tl (fun n=>if c then a n else b n) P:=by
 simp only [if_neg h];exact k
theorem Tl.ite {α:Type} {c:Prop} [Decidable c] {a b:Nat→Option α} {P:α→Prop} (h:c→Tl a P) (k:¬ c→Tl b P):Tl (fun n=>if c then a n else b n) P:=by
 by_cases hc:c
 ·exact Tl.pos hc (h hc)
 ·exact Tl.neg hc (k hc)
theorem Tl.step {α:Type} {g f:Nat→Option α} {P:α→Prop} (h:∀ k,g (k + 1)=f k) (k:Tl f P):Tl g P:=by
 obtain ⟨r,e,p⟩:=k;exact ⟨r,Ev.step h e,p⟩
theorem Tl.mono {α:Type} {f:Nat→Option α} {P Q:α→Prop} (h:Tl f P) (hq:∀ r,P r→Q r):Tl f Q:=by
 obtain ⟨r,e,p⟩:=h;exact ⟨r,e,hq r p⟩
theorem Tl.ev {α:Type} {f:Nat→Option α} {P:α→Prop} {r:α} (h:Ev f r) (p:P r):Tl f P:=⟨r,h,p⟩
/-- The bytes that a drawing goes by. -/
def Bytes (s:List Int):Prop:=(∀ x ∈ s,0≤x∧x < 256)∧s.length≤1048576
/-- Where the drawing stands. -/
abbrev At (a:Int) (n:Int):Prop:=0≤a∧a≤n
theorem u64_mod (n:Int):IntKind.u64.wrap n=n % 18446744073709551616:=by simp [IntKind.wrap,IntKind.bits,IntKind.signed]
theorem low_byte (x:Int) (h0:0≤x) (h1:x < 16777216):0≤Go.bits .and .u64 x 255∧Go.bits .and .u64 x 255 < 256:=by
 have h:=bits_mask .u64 24 (by decide) (fun n a b=>by rw [u64_mod];have:n < 16777216:=b;omega) 8 (by decide) x h0 h1;rw [show ((2:Int) ^ 8 - 1)=255 from rfl] at h;rw [h]
 have:(2:Int) ^ 8=256:=rfl
 omega
theorem next_tl {s:List Int} (hs:Bytes s) (a d:Int) (ha:At a 1152921504606846976):∃ r,spec_l1Cur_next.f s a d=some r∧0≤r.1∧r.1 < 256∧r.2.1=a + 1:=by
 have hw:wrap64 (a + 1)=a + 1:=w64 (by omega) (by omega);have hl:=hs.2;have hb:∀ z:Int,0≤wrap64 (Go.bits .and .u64 (IntKind.u64.wrap z / 1099511627776) 255)∧wrap64 (Go.bits .and .u64 (IntKind.u64.wrap z / 1099511627776) 255) < 256:=by
  intro z;rw [u64_mod];have h:=low_byte (z % 18446744073709551616 / 1099511627776) (by omega) (by omega);rw [w64 (by omega) (by omega)];exact h
 unfold spec_l1Cur_next.f
 rw [hw]
 by_cases h:a < (s.length:Int)
 ·have hr:0≤rd s a∧rd s a < 256:=hs.1 _ (by unfold rd;exact getD_mem (by omega))
  rw [if_pos h,if_pos ha.1]
  by_cases h2:a + 1≤(s.length:Int)
  ·rw [if_pos h2]
   exact ⟨_,rfl,by show 0≤wrap64 (rd s a);rw [w64 (by omega) (by omega)];exact hr.1,by show wrap64 (rd s a) < 256;rw [w64 (by omega) (by omega)];exact hr.2,rfl⟩
  ·rw [if_neg h2]
   exact ⟨_,rfl,(hb _).1,(hb _).2,rfl⟩
 ·rw [if_neg h]
  by_cases h2:a + 1≤(s.length:Int)
  ·omega
  ·rw [if_neg h2]
   exact ⟨_,rfl,(hb _).1,(hb _).2,rfl⟩
theorem pick_some {s:List Int} (hs:Bytes s) (a d n:Int) (ha:At a 576460752303423488):∃ r,spec_l1Cur_pick.f s a d n=some r∧0≤r.1∧(r.1 < n ∨ r.1=0)∧a≤r.2.1∧r.2.1≤a + 2:=by
 unfold spec_l1Cur_pick.f
 by_cases h:n≤1
 ·rw [if_pos h];exact ⟨_,rfl,Int.le_refl _,Or.inr rfl,Int.le_refl _,by show a≤a + 2;omega⟩
 ·rw [if_neg h]
  obtain ⟨x,ex,x0,x1,xa⟩:=next_tl hs a d (by omega);rw [ex,Option.bind_some]
  by_cases h2:n > 200
  ·rw [if_pos h2]
   obtain ⟨y,ey,y0,y1,ya⟩:=next_tl hs x.2.1 x.2.2 (by omega);rw [ey,Option.bind_some,if_neg (by omega)];have e1:wrap64 (x.1 * 256)=x.1 * 256:=w64 (by omega) (by omega);have e2:wrap64 (x.1 * 256 + y.1)=x.1 * 256 + y.1:=w64 (by omega) (by omega);refine ⟨_,rfl,?_,Or.inl ?_,?_,?_⟩
   ·show 0≤Int.tmod (wrap64 (wrap64 (x.1 * 256) + y.1)) n
    rw [e1,e2,Int.tmod_eq_emod_of_nonneg (by omega)];exact Int.emod_nonneg _ (by omega)
   ·show Int.tmod (wrap64 (wrap64 (x.1 * 256) + y.1)) n < n
    rw [e1,e2,Int.tmod_eq_emod_of_nonneg (by omega)];exact Int.emod_lt_of_pos _ (by omega)
   ·show a≤y.2.1;omega
   ·show y.2.1≤a + 2;omega
  ·rw [if_neg h2,if_neg (by omega)]
   refine ⟨_,rfl,?_,Or.inl ?_,?_,?_⟩
   ·show 0≤Int.tmod x.1 n
    rw [Int.tmod_eq_emod_of_nonneg (by omega)];exact Int.emod_nonneg _ (by omega)
   ·show Int.tmod x.1 n < n
    rw [Int.tmod_eq_emod_of_nonneg (by omega)];exact Int.emod_lt_of_pos _ (by omega)
   ·show a≤x.2.1;omega
   ·show x.2.1≤a + 2;omega
/-- pick(n) for n from 1 on -/
theorem pick_tl {s:List Int} (hs:Bytes s) (a d n:Int) (hn:1≤n) (ha:At a 576460752303423488):Tl (fun _=>spec_l1Cur_pick.f s a d n) (fun r=>(0≤r.1∧r.1 < n)∧a≤r.2.1∧r.2.1≤a + 2):=by
 obtain ⟨r,e,h0,h1,h2,h3⟩:=pick_some hs a d n ha;exact Tl.const ⟨r,e,⟨h0,by omega⟩,h2,h3⟩
theorem one_tl {s:List Int} (hs:Bytes s) (a d n:Int) (ha:At a 576460752303423488):Tl (fun _=>spec_l1Cur_one.f s a d n) (fun r=>a≤r.2.1∧r.2.1≤a + 2):=by
 unfold spec_l1Cur_one.f
 obtain ⟨r,e,h0,h1,h2,h3⟩:=pick_some hs a d n ha;rw [e];exact Tl.const ⟨_,rfl,h2,h3⟩
theorem among_tl {s:List Int} (hs:Bytes s) (a d:Int) (l:List Int) (hl:1≤l.length) (ha:At a 576460752303423488):Tl (fun _=>spec_l1Cur_among.f s a d l) (fun r=>r.1 ∈ l∧a≤r.2.1∧r.2.1≤a + 2):=by
 unfold spec_l1Cur_among.f
 obtain ⟨r,e,h0,h1,h2,h3⟩:=pick_some hs a d (l.length:Int) ha;rw [e];refine Tl.const ?_;rw [Option.bind_some,if_pos h0,if_pos (by omega)];exact ⟨_,rfl,by show rd l r.1 ∈ l;unfold rd;exact getD_mem (by omega),h2,h3⟩
theorem of_tl {s:List Int} (hs:Bytes s) (a d:Int) (l:List ByteArray) (hl:1≤l.length) (ha:At a 576460752303423488):Tl (fun _=>spec_l1Cur_of.f s a d l) (fun r=>r.1 ∈ l∧a≤r.2.1∧r.2.1≤a + 2):=by
 unfold spec_l1Cur_of.f
 obtain ⟨r,e,h0,h1,h2,h3⟩:=pick_some hs a d (l.length:Int) ha;rw [e];refine Tl.const ?_;rw [Option.bind_some,if_pos h0,if_pos (by omega)];exact ⟨_,rfl,by show rdOf ByteArray.empty l r.1 ∈ l;unfold rdOf;exact getD_mem (by omega),h2,h3⟩
/- Texts of rules. -/
def wB:Nat→Nat
 | 0=>7
 | n + 1=>4 * wB n + 40
def wC:Nat→Nat
 | 0=>4
 | n + 1=>4 * wC n + 10
theorem lit_size (l:List UInt8):(ByteArray.mk l.toArray).size=l.length:=by simp [ByteArray.size]
def WordP (a:Int) (b c:Nat) (r:ByteArray × Int × Int):Prop:=r.1.size≤b∧a≤r.2.1∧r.2.1≤a + c
theorem le_of_mem {l:List ByteArray} {u:ByteArray} {b:Nat} (h:u ∈ l) (hl:∀ v ∈ l,v.size≤b):u.size≤b:=hl u h
theorem word0 {s:List Int} (hs:Bytes s) (x a d:Int) (ha:At a 500000000000000000):Tl (fun k=>spec_l1Cur_wording.j0 k x true s a d) (WordP a 7 4):=by
 refine Tl.step (fun k=>spec_l1Cur_wording.j0.eq_2 x true s a d k) (Tl.pos rfl (Tl.bind (one_tl hs _ _ 2 (by omega)) (fun r p=>Tl.ite (fun c=>?_) (fun c=>?_))))
 ·refine Tl.bind (Tl.const ⟨_,rfl,rfl⟩:Tl (fun _=>spec_ruFields.f) (fun l=>l=_)) (fun l hl=>?_)
  subst hl;refine Tl.bind (of_tl hs _ _ _ (by simp) (by omega)) (fun r2 p2=>Tl.now ⟨le_of_mem p2.1 (by decide),by show a≤r2.2.1;omega,by show r2.2.1≤a + 4;omega⟩)
 ·exact Tl.bind (of_tl hs _ _ _ (by simp) (by omega)) (fun r2 p2=>Tl.now ⟨le_of_mem p2.1 (by decide),by show a≤r2.2.1;omega,by show r2.2.1≤a + 4;omega⟩)
theorem word_tl {s:List Int} (hs:Bytes s):∀ (n:Nat) (a d:Int),n≤3→At a (400000000000000000 - 100000 * (n:Int))→Tl (fun k=>spec_l1Cur_wording.f k s a d (n:Int)) (WordP a (wB n) (wC n)):=by
 intro n
 induction n with
 | zero =>
  intro a d hn ha
  have:wC 0=4:=rfl
  exact Tl.step (fun k=>spec_l1Cur_wording.f.eq_2 s a d _ k) (Tl.pos rfl (word0 hs _ a d (by omega)))
 | succ n ih =>
  intro a d hn ha;have e1:wC (n + 1)=4 * wC n + 10:=rfl;have e2:wB (n + 1)=4 * wB n + 40:=rfl;have hb:wB n≤5000:=by
   have:n=0 ∨ n=1 ∨ n=2:=by omega
   rcases this with rfl|rfl|rfl <;> decide
  have hc:wC n≤5000:=by
   have:n=0 ∨ n=1 ∨ n=2:=by omega
   rcases this with rfl|rfl|rfl <;> decide
  have h7:7≤wB (n + 1):=by omega
  have h4:2 + 4≤wC (n + 1):=by omega
  refine Tl.step (fun k=>spec_l1Cur_wording.f.eq_2 s a d _ k) (Tl.neg (by omega) (Tl.bind (one_tl hs _ _ 4 (by omega)) (fun r0 p0=>?_)))
  cases hr:r0.1 with
  | true=>exact (word0 hs _ _ _ (by omega)).mono (fun r h=>⟨Nat.le_trans h.1 h7,by have:=h.2;omega,by have:=h.2;omega⟩)
  | false =>
   have hw:wrap64 (((n + 1:Nat):Int) - 1)=(n:Int):=by rw [w64 (by omega) (by omega)];omega
   refine Tl.step (fun k=>spec_l1Cur_wording.j0.eq_2 _ false s _ _ k) (Tl.neg (by simp) ?_);rw [hw];refine Tl.bind (ih _ _ (by omega) (by omega)) (fun u pu=>Tl.bind (ih _ _ (by omega) (by have:=pu.2;omega)) (fun v pv=>?_));have hu1:=pu.1;have hu2:=pu.2;have hv1:=pv.1;have hv2:=pv.2;refine Tl.bind (pick_tl hs _ _ 7 (by omega) (by omega)) (fun r p=>Tl.ite (fun c=>?_) (fun c=>Tl.ite (fun c2=>?_) (fun c2=>Tl.ite (fun c3=>?_) (fun c3=>?_))))
   ·refine Tl.pos (by omega) (Tl.bind (of_tl hs _ _ _ (by simp) (by omega)) (fun q pq=>?_))
    have hq:q.1.size≤3:=le_of_mem pq.1 (by decide);refine Tl.pos (zRel_0) (Tl.pos (zRel_0) (Tl.pos (zRel_0) (Tl.bind (ih _ _ (by omega) (by omega)) (fun x px=>?_))));have hx1:=px.1;have hx2:=px.2;refine Tl.pos (zRel_0) (Tl.pos (zRel_0) (Tl.bind (ih _ _ (by omega) (by omega)) (fun y py=>?_)));have hy1:=py.1;have hy2:=py.2;exact Tl.pos (zRel_0) (Tl.now ⟨zRel_0,by show a≤y.2.1;omega,by show y.2.1≤_;omega⟩)
   ·exact Tl.pos (by omega) (Tl.pos (zRel_0) (Tl.now ⟨zRel_0,by show a≤r.2.1;omega,by show r.2.1≤_;omega⟩))
   ·refine Tl.pos (by omega) (Tl.pos (zRel_0) (Tl.bind (of_tl hs _ _ _ (by simp) (by omega)) (fun q pq=>?_)))
    have hq:q.1.size≤3:=le_of_mem pq.1 (by decide);exact Tl.pos (zRel_0) (Tl.pos (zRel_0) (Tl.pos (zRel_0) (Tl.pos (zRel_0) (Tl.now ⟨zRel_0,by show a≤q.2.1;omega,by show q.2.1≤_;omega⟩))))
   ·refine Tl.pos (by omega) (Tl.bind (of_tl hs _ _ _ (by simp) (by omega)) (fun q pq=>?_))
    have hq:q.1.size≤3:=le_of_mem pq.1 (by decide);exact Tl.pos (zRel_0) (Tl.pos (zRel_0) (Tl.pos (zRel_0) (Tl.now ⟨zRel_0,by show a≤q.2.1;omega,by show q.2.1≤_;omega⟩)))
/-- The cursor at g,on the bytes s,has gone at most n steps;since Wx nothing but the cursor changed. -/
structure St (w0:World) (g:Nat) (s:List Int) (Wx:World) (n:Nat) (W:World):Prop where
 cur:∃ a d,IsS50 w0 W g s a d∧0≤a∧a≤(n:Int)
 bel:Below w0.heap.size w0 W
 kp:KeepBut Wx W g none
 le:w0.heap.size≤Wx.heap.size
section
variable {w0 W Wx W1:World} {g n m:Nat} {s:List Int}
theorem St.re (h:St w0 g s Wx n W):St w0 g s W n W:=⟨h.cur,h.bel,KeepBut.refl _ _ _,h.bel.size⟩
theorem St.chain (h:St w0 g s Wx n W) (k:St w0 g s W m W1):St w0 g s Wx m W1:=⟨k.cur,k.bel,h.kp.trans k.kp (Or.inl rfl),h.le⟩
theorem St.mono (h:St w0 g s Wx n W) (hn:n≤m):St w0 g s Wx m W:=by
 obtain ⟨⟨a,d,hI,h0,h1⟩,h2,h3,h4⟩:=h;exact ⟨⟨a,d,hI,h0,by omega⟩,h2,h3,h4⟩
theorem St.below (h:St w0 g s Wx n W) (hb:Below W.heap.size W W1):St w0 g s Wx n W1:=by
 obtain ⟨⟨a,d,hI,h0,h1⟩,h2,h3,h4⟩:=h;exact ⟨⟨a,d,IsS50.below hI hb,h0,h1⟩,below_step h2 hb,h3.trans (KeepBut.of_below hb g none) (Or.inl rfl),h4⟩
theorem St.drew (h:St w0 g s Wx n W):St w0 g s Wx n W.drew:=h.below (below_drew (Below.refl _ _))
theorem St.lt (h:St w0 g s Wx n W):g < W.heap.size:=by
 obtain ⟨⟨a,d,hI,_⟩,_⟩:=h;exact IsS50.lt hI
theorem St.far (h:St w0 g s Wx n W) (b j:Nat) (hb:Wx.heap.size≤b) (hne:b≠g) (u:Value):St w0 g s Wx n (W.setCell ⟨b,j,none⟩ u):=by
 obtain ⟨⟨a,d,hI,h0,h1⟩,h2,h3,h4⟩:=h;exact ⟨⟨a,d,IsS50.far hI (fun e=>hne e.symm) _,h0,h1⟩,below_set h2 (Nat.le_trans h4 hb),keep_far h3 hb _,h4⟩
theorem St.grown (h:St w0 g s Wx n W) {row:Option Nat} (hg:W.grownBy W1 row) (hb:Below w0.heap.size w0 W1) (hne:some g≠row) (hr:∀ k,row=some k→Wx.heap.size≤k):St w0 g s Wx n W1:=by
 obtain ⟨⟨a,d,hI,h0,h1⟩,h2,h3,h4⟩:=h;refine ⟨⟨a,d,IsS50.grown hI hg hne,h0,h1⟩,hb,h3.trans (KeepBut.of_grown hg g) ?_,h4⟩
 cases row with
 | none=>exact Or.inl rfl
 | some k=>exact Or.inr ⟨k,rfl,hr k rfl⟩
theorem St.blk (h:St w0 g s Wx n W) {b:Nat} {o:Obj} (hb:Wx.heap[b]?=some o) (hne:b≠g):W.heap[b]?=some o:=h.kp.blk hb hne (by simp)
theorem St.R {α:Type} {k:Kd α} {e base:Nat} {ok:Nat→Prop} {v:Value} {xs:List α} (h:St w0 g s Wx n W) (hR:k.R e Wx base ok v xs) (hok:∀ q,ok q→q≠g):k.R e W base ok v xs:=Kd.R_keep hR h.kp hok
theorem St.ne {α:Type} {k:Kd α} {e base:Nat} {ok:Nat→Prop} {v:Value} {xs:List α} (h:St w0 g s Wx n W) (hR:k.R e W base ok v xs) (he:∀ q,q ∈ e :: k.E→q≠50):k.R e W base (fun q=>ok q∧q≠g) v xs:=by
 obtain ⟨⟨a,d,⟨A0,c0,hb,_⟩,_⟩,_⟩:=h;exact Kd.R_types hR hb he
end
end Go.Proofs.Ytahhiedlkegkgaa.OwnRel
