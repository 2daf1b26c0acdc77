/- spec.l1Cur's anyRule and priced tell a list of parts. -/
import Derived.Test.YtahhiedlkegkgaaTOwnRelC
namespace Go.Proofs.Ytahhiedlkegkgaa.OwnRelD
open Go.RowKit Go.Proofs.Ytahhiedlkegkgaa.PFnMoney Go.Proofs.YtahhiedlkegkgaaW.PrintWords Go.Proofs.YtahhiedlkegkgaaW.PrintLast Go.Proofs.YtahhiedlkegkgaaW.PrintMore Go.Proofs.Ytahhiedlkegkgaa.B Go.Proofs.Ytahhiedlkegkgaa.OwnRel Go.Proofs.Ytahhiedlkegkgaa.OwnRelC
set_option linter.unusedVariables false
set_option linter.unusedSimpArgs false
theorem aMD:type_of% @Aside0.mk:=@Aside0.mk
theorem dTD:type_of% @decide_eq_true:=@decide_eq_true
theorem zelD_0 {P:Prop} (h:P:=by first|(rw [eln,List.length_append];done)|(rw [eln,List.length_append];rfl)):P:=h
theorem zelD_1 {P:Prop} (h:P:=by have:=HB.out;omega):P:=h
theorem zelD_2 {P:Prop} (h:P:=by first|(go_simp;done)|(go_simp;rfl)):P:=h
theorem c_part {w:World} {base:Nat} {ok:Nat→Prop} {x:S94} {cs:List Value} (h:k94.K w x cs):k94.M w base ok x cs:=by
 obtain rfl:=k94_open h;exact k94_mkM _ _ _ x
/-- The bounds of a list that is doubled,and one more,while d rounds are left. -/
def pw:Nat→Nat
 | 0=>31
 | 1=>15
 | 2=>7
 | 3=>3
 | _=>1
section
variable {w0 W Wx:World} {g n:Nat} {s:List Int}
/-- A row of parts that an append has grown. -/
theorem grown_rel {W1 W2:World} {m:Nat} {v:Value} {l:PL} (h:St w0 g s W m W1) (hR:Kd.R k94 94 W1 w0.heap.size (fun q=>W.heap.size≤q∧q≠g) v l) (hb:Below w0.heap.size w0 W2) (hg:W1.grownBy W2 v.ownBlock):St w0 g s W m W2 :=
 h.grown hg hb (fun e=>(hR.1 g e.symm).2 rfl) (fun k hk=>(hR.1 k hk).1)
theorem keep_rel {W1 W2:World} {m:Nat} {v:Value} {l:PL} (h:St w0 g s W1 m W2) (hR:Kd.R k94 94 W1 w0.heap.size (fun q=>W.heap.size≤q∧q≠g) v l):Kd.R k94 94 W2 w0.heap.size (fun q=>W.heap.size≤q∧q≠g) v l:=Kd.R_keep hR h.kp (fun _ hq=>hq.2)
set_option maxHeartbeats 16000000 in
set_option maxRecDepth 100000 in
theorem anyRule_rel (hs:Bytes s) (h:St w0 g s Wx n W) (hn:n≤10000000000000000):Calls Try.prog 56 #[.pointer (some ⟨g,0,none⟩)] W fun e W'=>∃ (v:Value) (l:PL),e=.returned v∧Kd.R k94 94 W' w0.heap.size (fun q=>W.heap.size≤q∧q≠g) v l∧l.length≤200∧St w0 g s Wx (n + 100000) W':=by
 have hu:=Try.underlying94;have H:=aMD h;have HS:=aMD h.re;clear h;go_enter Try.func56,Try.ntmps56
 go_wp2_with fail
 refine (lrule_rel hs HS.out (by omega)).mono ?_;rintro e wa ⟨v,l,rfl,hR,hl,hS⟩;have HL:=aMD hl;clear HS;have HS:=aMD hS;obtain ⟨go,co,eo,_,_,_,_⟩:=Kd.R_form hR (by omega);subst eo;have HR:=aMD hR;clear hS hR hl
 go_wp2_with fail
 refine (pick_rel hs HS.out.re (l.length:Int) (by have:=HL.out;omega) (by omega)).mono ?_;rintro e wb ⟨k,rfl,hk,hS⟩;have n0_:=aMD (HS.out.chain hS);have n1_:=aMD (keep_rel (W:=W) hS HR.out);clear HS HR hS;have HS:=n0_;have HR:=n1_;clear n0_ n1_;have HK:=aMD hk;clear hk
 go_wp2_with fail
 refine (pick_rel hs HS.out.re 30 (by omega) (by omega)).mono ?_;rintro e wc ⟨r,rfl,hr,hS⟩;have n0_:=aMD (HS.out.chain hS);have n1_:=aMD (keep_rel (W:=W) hS HR.out);clear HS HR hS;have HS:=n0_;have HR:=n1_;clear n0_ n1_
 have hq:r=0 ∨ r=1 ∨ r=2 ∨ r=3 ∨ r=4 ∨ r=5 ∨ r=6 ∨ (r≠0∧r≠1∧r≠2∧r≠3∧r≠4∧r≠5∧r≠6):=by omega
 clear hr
 rcases hq with rfl|rfl|rfl|rfl|rfl|rfl|rfl|⟨h0,h1,h2,h3,h4,h5,h6⟩
 ·skip
  go_wp2_with fail
  refine (pick_rel hs HS.out.re 11 (by omega) (by omega)).mono ?_;rintro e wd ⟨x,rfl,hx,hS⟩;have n0_:=aMD (HS.out.chain hS);have n1_:=aMD (keep_rel (W:=W) hS HR.out);clear HS HR hS;have HS:=n0_;have HR:=n1_;clear n0_ n1_;obtain ⟨y,ey⟩:∃ y,wrap64 (x - 1)=y:=⟨_,rfl⟩;have ey2:IntKind.i64.wrap (x - 1)=y:=(i64_w _).trans ey;have k0:=HK.out.1;have k1:=HK.out.2;obtain ⟨ce,hcl,hM,hcc,hfr⟩:=Kd.R_elem HR.out z94 k k0 k1;obtain rfl:=k94_openM hM;have hx0:wd.cell? ⟨go,k.toNat * 2,none⟩=some (.int .i64 (l.getD k.toNat z94).f0):=hcc 0 _ rfl;have hx1:wd.cell? ⟨go,k.toNat * 2 + 1,none⟩=some (.int .i64 (l.getD k.toNat z94).f1):=hcc 1 _ rfl;have hf0:wd.frozen? ⟨go,k.toNat * 2,none⟩=false:=hfr 0;have hf1:wd.frozen? ⟨go,k.toNat * 2 + 1,none⟩=false:=hfr 1;have HP:=aMD (Kd.R_seg HR.out k k0 k1 (seg:=[.int .i64 y]) (j:=0) hcl hcc (show 0 + 1≤2 by decide) (x':=(⟨y,(l.getD k.toNat z94).f1⟩:S94)) (k94_mkM _ _ _ (⟨y,(l.getD k.toNat z94).f1⟩:S94)) (fun _ hk=>hk));have hgo:=HR.out.1 go rfl;have HN:Aside0 (St w0 g s W _ (wd.setCell ⟨go,k.toNat * 2,none⟩ (.int .i64 y))):=⟨HS.out.far go _ hgo.1 hgo.2 _⟩;have q0:=eq_true k0;have q1:=eq_true k1;clear hcl hcc hfr hM k0 k1 hgo
  go_wp2_with fail
  go_ret
  exact ⟨_,_,rfl,HP.out.1,by rw [List.length_set];have:=HL.out;omega,(H.out.chain HN.out).mono (by omega)⟩
 ·skip
  go_wp2_with (first|((with_reducible refine gate_dst (N:=31) rfl ?_);refine Kd.R_lit (Kd.int .i64) _ 3 ?hg (N:=31) ?hd (xs:=([(-1),(0),(1),(4),(5),(1000000),(1000001)]:List Int)) (inner:=[.int .i64 (-1),.int .i64 (0),.int .i64 (1),.int .i64 (4),.int .i64 (5),.int .i64 (1000000),.int .i64 (1000001)]) (ok:=fun _=>True) (okp:=fun _=>True) ?hr ?hp (fun _ hk=>hk) trivial (Below.refl _ _) (Nat.le_refl _) (by simp) ?_;(case hd=>rfl);(case hg=>rfl);(case hr=>exact zelD_2);(case hp=>exact (Reps.one (show Kd.M (Kd.int .i64) _ _ _ (-1) [.int .i64 (-1)] from rfl) (Reps.one (show Kd.M (Kd.int .i64) _ _ _ (0) [.int .i64 (0)] from rfl) (Reps.one (show Kd.M (Kd.int .i64) _ _ _ (1) [.int .i64 (1)] from rfl) (Reps.one (show Kd.M (Kd.int .i64) _ _ _ (4) [.int .i64 (4)] from rfl) (Reps.one (show Kd.M (Kd.int .i64) _ _ _ (5) [.int .i64 (5)] from rfl) (Reps.one (show Kd.M (Kd.int .i64) _ _ _ (1000000) [.int .i64 (1000000)] from rfl) (Reps.one (show Kd.M (Kd.int .i64) _ _ _ (1000001) [.int .i64 (1000001)] from rfl) (Reps.none _ _)))))))));intro vl wd ho hb hg_ hnew_;clear hg_ hnew_;have n0_:=aMD (HS.out.below hb);clear HS;have HS:=n0_;clear n0_;have n1_:=aMD (Kd.R_below HR.out hb);clear HR;have HR:=n1_;clear n1_;obtain ⟨Al,cl,el⟩:=Kd.R_slice ho;replace el:vl=.slice Al 7 cl:=el;subst el;have HO:=aMD ho;clear ho hb))
  refine (among_rel hs HS.out.re HO.out rfl (by simp) (by omega)).mono ?_;rintro e we ⟨y,rfl,_,hS⟩;have n0_:=aMD (HS.out.chain hS);have n1_:=aMD (keep_rel (W:=W) hS HR.out);clear HS HR hS HO;have HS:=n0_;have HR:=n1_;clear n0_ n1_;have k0:=HK.out.1;have k1:=HK.out.2;obtain ⟨ce,hcl,hM,hcc,hfr⟩:=Kd.R_elem HR.out z94 k k0 k1;obtain rfl:=k94_openM hM;have hx0:we.cell? ⟨go,k.toNat * 2,none⟩=some (.int .i64 (l.getD k.toNat z94).f0):=hcc 0 _ rfl;have hx1:we.cell? ⟨go,k.toNat * 2 + 1,none⟩=some (.int .i64 (l.getD k.toNat z94).f1):=hcc 1 _ rfl;have hf0:we.frozen? ⟨go,k.toNat * 2,none⟩=false:=hfr 0;have hf1:we.frozen? ⟨go,k.toNat * 2 + 1,none⟩=false:=hfr 1;have HP:=aMD (Kd.R_seg HR.out k k0 k1 (seg:=[.int .i64 y]) (j:=1) hcl hcc (show 1 + 1≤2 by decide) (x':=(⟨(l.getD k.toNat z94).f0,y⟩:S94)) (k94_mkM _ _ _ (⟨(l.getD k.toNat z94).f0,y⟩:S94)) (fun _ hk=>hk));have hgo:=HR.out.1 go rfl;have HN:Aside0 (St w0 g s W _ (we.setCell ⟨go,k.toNat * 2 + 1,none⟩ (.int .i64 y))):=⟨HS.out.far go _ hgo.1 hgo.2 _⟩;have q0:=eq_true k0;have q1:=eq_true k1;clear hcl hcc hfr hM k0 k1 hgo
  go_wp2_with fail
  go_ret
  exact ⟨_,_,rfl,HP.out.1,by rw [List.length_set];have:=HL.out;omega,(H.out.chain HN.out).mono (by omega)⟩
 ·skip
  obtain ⟨i0,hi0,_,_,_⟩:=info_parts OwnRu.infoP;have hcut:=cut_to (P:=Try.prog) 36 94 .i64 Try.underlying36 hi0 (some ⟨go,0,none⟩) l.length co k HK.out.1 (by have:=HK.out.2;omega) (Kd.R_reads' HR.out).2.1
  go_wp2_with fail
  go_ret
  exact ⟨_,l.take k.toNat,rfl,Kd.R_take HR.out (by have:=HK.out;omega),by rw [List.length_take];have:=HL.out;omega,(H.out.chain HS.out).mono (by omega)⟩
 ·skip
  go_wp2_with (first|((with_reducible refine gate_builtin (b:=.append) (xs:=#[.tmp 42,.tmp 44]) rfl ?_);at_builtin;refine Kd.R_append k94 (w0:=w0) w0.heap.size rfl (.tmp 42) (.tmp 44) 36 94 (.agg #[.int .i64 0,.int .i64 0]) 16 rfl Try.underlying36 OwnRu.infoP rfl (by decide) (by omega) (.slice (some ⟨go,0,none⟩) l.length co) l (⟨0,1⟩:S94) [.int .i64 0,.int .i64 1] (fun q=>W.heap.size≤q∧q≠g) (fun _=>False) rfl rfl ?aP (fun _ hk=>hk.elim) ?aF ?aO ?aB ?aS ?aL ?_;(case aP=>exact k94_mkM _ _ _ (⟨0,1⟩:S94));(case aF=>exact (fun q hq=>⟨Nat.le_trans HS.out.kp.1 hq,fun e_=>by have:=HS.out.lt;omega⟩));(case aO=>exact HR.out);(case aB=>exact HS.out.bel);(case aS=>exact HS.out.bel.size);(case aL=>have:=HL.out;omega);intro va wd ho hb hg hat;obtain ⟨ln,eln⟩:∃ q:PL,q=l ++ [⟨0,1⟩]:=⟨_,rfl⟩;rw [← eln] at ho;have Qln:Aside0 (ln.length=l.length + 1):=⟨by rw [eln,List.length_append,List.length_singleton]⟩;clear eln;have n0_:=aMD (grown_rel HS.out HR.out hb hg);have n1_:=aMD ho;clear HS HR ho hb hg hat;have HS:=n0_;have HR:=n1_;clear n0_ n1_;obtain ⟨Aq,cAq,ea⟩:=Kd.R_slice HR.out;subst ea))
  go_ret
  exact ⟨_,ln,rfl,HR.out,by have:=Qln.out;have:=HL.out;omega,(H.out.chain HS.out).mono (by omega)⟩
 ·skip
  clear HR
  go_wp2_with (first|((with_reducible refine gate_dst (N:=49) rfl ?_);refine Kd.R_lit k94 _ 94 ?hg (N:=49) ?hd (xs:=([⟨0,1⟩]:PL)) (inner:=[.int .i64 0,.int .i64 1]) (ok:=fun _=>True) (okp:=fun _=>True) ?hr ?hp (fun _ hk=>hk) trivial (Below.refl _ _) (Nat.le_refl _) (by simp) ?_;(case hd=>rfl);(case hg=>rfl);(case hr=>exact zelD_2);(case hp=>exact (Reps.c2 (show Kd.M k94 _ _ _ (⟨0,1⟩:S94) [.int .i64 0,.int .i64 1] from k94_mkM _ _ _ (⟨0,1⟩:S94)) (Reps.none _ _)));intro vl wd ho hb hg_ hnew_;clear hg_ hnew_;have n0_:=aMD (HS.out.below hb);have n1_:Aside0 (Kd.R k94 94 wd w0.heap.size (fun q=>W.heap.size≤q∧q≠g) vl ([⟨0,1⟩]:PL)):=⟨Kd.R_lower (Kd.R_mono (Kd.R_bound (n0_.out.ne ho (by decide))) (fun q hq=>⟨Nat.le_trans HS.out.kp.1 hq.2.1,hq.1.2⟩)) HS.out.bel.size⟩;clear HS ho hb;have HS:=n0_;have HR:=n1_;clear n0_ n1_;obtain ⟨Al,cl,el⟩:=Kd.R_slice HR.out;replace el:vl=.slice Al 1 cl:=el;subst el))
  go_loopg [3,5] 4 (fun k v3 v5 wr=>∃ (l1:PL) (A1:Option Addr) (c1:Nat),v3=.slice A1 l1.length c1∧v5=.int .i64 (k:Int)∧Aside0 (l1.length≤pw k∧k≤4)∧Aside0 (Kd.R k94 94 wr w0.heap.size (fun q=>W.heap.size≤q∧q≠g) (.slice A1 l1.length c1) l1)∧Aside0 (St w0 g s W (n + 80000) wr))
  case atStart=>exact ⟨[⟨0,1⟩],Al,cl,rfl,rfl,⟨by decide⟩,HR,⟨HS.out.mono (by omega)⟩⟩
  case round =>
   clear HR HS;obtain ⟨l1,A1,c1,rfl,rfl,HI,HR,HS⟩:=hrel
   cases gk with
   | zero =>
    have d1:decide (0 < ((0:Nat):Int))=false:=by decide
    have HLL:Aside0 (l1.length≤31):=⟨HI.out.1⟩
    go_wp2_with fail
    refine (pick_rel hs HS.out.re 2 (by omega) (by omega)).mono ?_;rintro e we ⟨x,rfl,hx,hS⟩;have n0_:=aMD (HS.out.chain hS);have n1_:=aMD (keep_rel (W:=W) hS HR.out);clear HS HR hS;have HS:=n0_;have HR:=n1_;clear n0_ n1_;obtain ⟨y,ey⟩:∃ q,wrap64 (2 * x)=q:=⟨_,rfl⟩
    have ey1:y=2 * x:=by rw [← ey];exact w64 (by omega) (by omega)
    obtain ⟨z,ez⟩:∃ q,wrap64 (39 + y)=q:=⟨_,rfl⟩;have HNN:Aside0 (z≤41):=⟨by rw [← ez,w64 (by omega) (by omega)];omega⟩;have ey2:IntKind.i64.wrap (2 * x)=y:=(i64_w _).trans ey;have ez2:IntKind.i64.wrap (39 + y)=z:=(i64_w _).trans ez;clear hx ey1
    go_wp2_with fail
    go_loopg [3] 45 (fun k v3 wr=>∃ (l1:PL) (A1:Option Addr) (c1:Nat),v3=.slice A1 l1.length c1∧Aside0 (l1.length≤160∧z≤l1.length + 2 * (k:Int))∧Aside0 (Kd.R k94 94 wr w0.heap.size (fun q=>W.heap.size≤q∧q≠g) (.slice A1 l1.length c1) l1)∧Aside0 (St w0 g s W (n + 90000) wr))
    case atStart=>exact ⟨l1,A1,c1,rfl,⟨by have:=HLL.out;have:=HNN.out;omega⟩,HR,⟨HS.out.mono (by omega)⟩⟩
    case round =>
     clear HR HS;obtain ⟨l1,A1,c1,rfl,HI,HR,HS⟩:=hrel
     by_cases hlt:(l1.length:Int) < z
     ·have d1:decide ((l1.length:Int) < z)=true:=dTD hlt
      have HLT:=aMD hlt;obtain ⟨k,rfl⟩:∃ k,gk=k + 1:=⟨gk - 1,by have:=HI.out;have:=HNN.out;omega⟩;have HL2:Aside0 (l1.length≤45):=⟨by have:=HNN.out;omega⟩;clear hlt
      go_wp2_with (first|((with_reducible refine gate_dst (N:=72) rfl ?_);refine Kd.R_lit k94 _ 94 ?hg (N:=72) ?hd (xs:=([⟨0,1⟩,⟨3,0⟩]:PL)) (inner:=[.int .i64 0,.int .i64 1,.int .i64 3,.int .i64 0]) (ok:=fun _=>True) (okp:=fun _=>True) ?hr ?hp (fun _ hk=>hk) trivial (Below.refl _ _) (Nat.le_refl _) (by simp) ?_;(case hd=>rfl);(case hg=>rfl);(case hr=>exact zelD_2);(case hp=>exact (Reps.c2 (show Kd.M k94 _ _ _ (⟨0,1⟩:S94) [.int .i64 0,.int .i64 1] from k94_mkM _ _ _ (⟨0,1⟩:S94)) (Reps.c2 (show Kd.M k94 _ _ _ (⟨3,0⟩:S94) [.int .i64 3,.int .i64 0] from k94_mkM _ _ _ (⟨3,0⟩:S94)) (Reps.none _ _))));intro vl wy ho hb hg_ hnew_;clear hg_ hnew_;have n0_:=aMD (HS.out.below hb);have n1_:=aMD (Kd.R_below HR.out hb);clear HS HR;have HS:=n0_;have HR:=n1_;clear n0_ n1_;obtain ⟨Ay,cy,ey⟩:=Kd.R_slice ho;replace ey:vl=.slice Ay 2 cy:=ey;subst ey;have HY:=aMD ho;clear ho hb)|((with_reducible refine gate_builtin (b:=.append) (xs:=#[.tmp 69,.tmp 72]) rfl ?_);at_builtin;refine Kd.R_append_rows k94 (w0:=w0) w0.heap.size rfl (.tmp 69) (.tmp 72) 36 94 (.agg #[.int .i64 0,.int .i64 0]) 16 rfl Try.underlying36 OwnRu.infoP rfl (by decide) (by omega) (.slice A1 l1.length c1) l1 ([⟨0,1⟩,⟨3,0⟩]:PL) Ay 2 cy (fun q=>W.heap.size≤q∧q≠g) (fun _=>False) rfl rfl ?aO ?aR (fun _ _ h_=>c_part h_) (fun _ h_=>h_.elim) ?aF ?aB ?aS ?aL ?_;(case aO=>exact HR.out);(case aR=>exact (Kd.R_reads' HY.out).2.2);(case aF=>exact (fun q hq=>⟨Nat.le_trans HS.out.kp.1 hq,fun e_=>by have:=HS.out.lt;omega⟩));(case aB=>exact HS.out.bel);(case aS=>exact HS.out.bel.size);(case aL=>have:=HL2.out;omega);intro va wz ho hb hg hat;obtain ⟨ln,eln⟩:∃ q:PL,q=l1 ++ ([⟨0,1⟩,⟨3,0⟩]:PL):=⟨_,rfl⟩;rw [← eln] at ho;have Qln:Aside0 (ln.length=l1.length + 2):=⟨zelD_0⟩;clear eln;have n0_:=aMD (grown_rel HS.out HR.out hb hg);have n1_:=aMD ho;clear HS HR ho hb hg hat;have HS:=n0_;have HR:=n1_;clear n0_ n1_;obtain ⟨A2,cA2,ea⟩:=Kd.R_slice HR.out;subst ea))
      go_roundg k
      case measure=>omega
      case rel=>exact ⟨ln,A2,cA2,rfl,⟨by have:=HI.out;have:=HL2.out;have:=Qln.out;omega⟩,HR,HS⟩
     ·have d1:decide ((l1.length:Int) < z)=false:=decide_eq_false hlt
      clear hlt
      go_wp2_with fail
      go_ret
      exact ⟨_,_,rfl,HR.out,by have:=HI.out;omega,(H.out.chain HS.out).mono (by omega)⟩
   | succ k =>
    have d1:decide (0 < ((k + 1:Nat):Int))=true:=dTD (by omega);have d2:decide (0 < (k:Int) + 1)=true:=dTD (by omega)
    have HB:Aside0 (l1.length + l1.length + 1≤pw k∧l1.length≤100∧k≤4):=⟨by
     have hk:k=0 ∨ k=1 ∨ k=2 ∨ k=3:=by have:=HI.out.2;omega
     have h1:=HI.out.1
     rcases hk with rfl|rfl|rfl|rfl <;> simp only [pw] at h1 ⊢ <;> omega⟩
    have hw:wrap64 (((k + 1:Nat):Int) - 1)=(k:Int):=by rw [w64 (zelD_1) (zelD_1)];omega
    have hw2:wrap64 ((k:Int) + 1 - 1)=(k:Int):=by rw [w64 (zelD_1) (zelD_1)];omega
    have hw3:wrap64 (k:Int)=(k:Int):=w64 (zelD_1) (zelD_1)
    go_wp2_with (first|((with_reducible refine gate_builtin (b:=.append) (xs:=#[.tmp 54,.tmp 55]) rfl ?_);at_builtin;refine Kd.R_append_rows k94 (w0:=w0) w0.heap.size rfl (.tmp 54) (.tmp 55) 36 94 (.agg #[.int .i64 0,.int .i64 0]) 16 rfl Try.underlying36 OwnRu.infoP rfl (by decide) (by omega) (.slice A1 l1.length c1) l1 l1 A1 l1.length c1 (fun q=>W.heap.size≤q∧q≠g) (fun _=>False) rfl rfl ?aO ?aR (fun _ _ h_=>c_part h_) (fun _ h_=>h_.elim) ?aF ?aB ?aS ?aL ?_;(case aO=>exact HR.out);(case aR=>exact (Kd.R_reads' HR.out).2.2);(case aF=>exact (fun q hq=>⟨Nat.le_trans HS.out.kp.1 hq,fun e_=>by have:=HS.out.lt;omega⟩));(case aB=>exact HS.out.bel);(case aS=>exact HS.out.bel.size);(case aL=>have:=HB.out;omega);intro va wy ho hb hg hat;obtain ⟨l2,eln⟩:∃ q:PL,q=l1 ++ l1:=⟨_,rfl⟩;rw [← eln] at ho;have Ql2:Aside0 (l2.length=l1.length + l1.length):=⟨zelD_0⟩;clear eln;have n0_:=aMD (grown_rel HS.out HR.out hb hg);have n1_:=aMD ho;clear HS HR ho hb hg hat;have HS:=n0_;have HR:=n1_;clear n0_ n1_;obtain ⟨A2,cA2,ea⟩:=Kd.R_slice HR.out;subst ea)|((with_reducible refine gate_builtin (b:=.append) (xs:=#[.tmp 57,.tmp 59]) rfl ?_);at_builtin;refine Kd.R_append k94 (w0:=w0) w0.heap.size rfl (.tmp 57) (.tmp 59) 36 94 (.agg #[.int .i64 0,.int .i64 0]) 16 rfl Try.underlying36 OwnRu.infoP rfl (by decide) (by omega) (.slice A2 l2.length cA2) l2 (⟨2,0⟩:S94) [.int .i64 2,.int .i64 0] (fun q=>W.heap.size≤q∧q≠g) (fun _=>False) rfl rfl ?aP (fun _ hk=>hk.elim) ?aF ?aO ?aB ?aS ?aL ?_;(case aP=>exact k94_mkM _ _ _ (⟨2,0⟩:S94));(case aF=>exact (fun q hq=>⟨Nat.le_trans HS.out.kp.1 hq,fun e_=>by have:=HS.out.lt;omega⟩));(case aO=>exact HR.out);(case aB=>exact HS.out.bel);(case aS=>exact HS.out.bel.size);(case aL=>have:=Ql2.out;have:=HB.out;omega);intro va wz ho hb hg hat;obtain ⟨ln,eln⟩:∃ q:PL,q=l2 ++ [⟨2,0⟩]:=⟨_,rfl⟩;rw [← eln] at ho;have Qln:Aside0 (ln.length=l2.length + 1):=⟨by rw [eln,List.length_append,List.length_singleton]⟩;clear eln;have n0_:=aMD (grown_rel HS.out HR.out hb hg);have n1_:=aMD ho;clear HS HR ho hb hg hat;have HS:=n0_;have HR:=n1_;clear n0_ n1_;obtain ⟨A3,cA3,ea⟩:=Kd.R_slice HR.out;subst ea))
    go_roundg k
    case measure=>omega
    case rel=>exact ⟨ln,A3,cA3,rfl,(by first|rfl|(simp;done)|(simp [*];done)),⟨by have:=Qln.out;have:=Ql2.out;have:=HB.out;omega⟩,HR,HS⟩
 ·skip
  clear HR
  go_wp2_with (first|((with_reducible refine gate_dst (N:=77) rfl ?_);refine Kd.R_lit k94 _ 94 ?hg (N:=77) ?hd (xs:=([⟨0,1⟩]:PL)) (inner:=[.int .i64 0,.int .i64 1]) (ok:=fun _=>True) (okp:=fun _=>True) ?hr ?hp (fun _ hk=>hk) trivial (Below.refl _ _) (Nat.le_refl _) (by simp) ?_;(case hd=>rfl);(case hg=>rfl);(case hr=>exact zelD_2);(case hp=>exact (Reps.c2 (show Kd.M k94 _ _ _ (⟨0,1⟩:S94) [.int .i64 0,.int .i64 1] from k94_mkM _ _ _ (⟨0,1⟩:S94)) (Reps.none _ _)));intro vl wd ho hb hg_ hnew_;clear hg_ hnew_;have n0_:=aMD (HS.out.below hb);have n1_:Aside0 (Kd.R k94 94 wd w0.heap.size (fun q=>W.heap.size≤q∧q≠g) vl ([⟨0,1⟩]:PL)):=⟨Kd.R_lower (Kd.R_mono (Kd.R_bound (n0_.out.ne ho (by decide))) (fun q hq=>⟨Nat.le_trans HS.out.kp.1 hq.2.1,hq.1.2⟩)) HS.out.bel.size⟩;clear HS ho hb;have HS:=n0_;have HR:=n1_;clear n0_ n1_;obtain ⟨Al,cl,el⟩:=Kd.R_slice HR.out;replace el:vl=.slice Al 1 cl:=el;subst el))
  obtain ⟨lf,elf⟩:∃ q:PL,q=[⟨0,1⟩]:=⟨_,rfl⟩;have HLF:Aside0 (lf.length=1):=⟨by rw [elf];rfl⟩;rw [← elf] at HR;clear elf;refine (pick_rel hs HS.out.re 2 (by omega) (by omega)).mono ?_;rintro e we ⟨x,rfl,hx,hS⟩;have n0_:=aMD (HS.out.chain hS);have n1_:=aMD (keep_rel (W:=W) hS HR.out);clear HS HR hS;have HS:=n0_;have HR:=n1_;clear n0_ n1_;obtain ⟨nn,enn⟩:∃ q:Nat,(q:Int)=wrap64 (11 + x):=⟨(11 + x).toNat,by rw [w64 (by omega) (by omega)];omega⟩;have HNN:Aside0 (nn≤12):=⟨by rw [w64 (by omega) (by omega)] at enn;omega⟩;have enn2:=enn.symm;have enn3:IntKind.i64.wrap (11 + x)=(nn:Int):=(i64_w _).trans enn.symm;clear hx enn
  go_wp2_with fail
  go_loopg [3,7] nn (fun k v3 v7 wr=>∃ (l1:PL) (A1:Option Addr) (c1:Nat),v3=.slice A1 l1.length c1∧v7=.int .i64 (k:Int)∧Aside0 (l1.length + 2 * k≤1 + 2 * nn∧k≤nn)∧Aside0 (Kd.R k94 94 wr w0.heap.size (fun q=>W.heap.size≤q∧q≠g) (.slice A1 l1.length c1) l1)∧Aside0 (St w0 g s W (n + 80000) wr))
  case atStart=>exact ⟨lf,Al,cl,(by rw [HLF.out]),rfl,⟨by have:=HLF.out;omega⟩,(by rw [HLF.out];exact HR),⟨HS.out.mono (by omega)⟩⟩
  case round =>
   clear HR HS;obtain ⟨l1,A1,c1,rfl,rfl,HI,HR,HS⟩:=hrel
   cases gk with
   | zero =>
    have d1:decide (0 < ((0:Nat):Int))=false:=by decide
    have HLL:Aside0 (l1.length≤25):=⟨by have:=HI.out;have:=HNN.out;omega⟩
    go_wp2_with fail
    go_ret
    exact ⟨_,_,rfl,HR.out,by have:=HLL.out;omega,(H.out.chain HS.out).mono (by omega)⟩
   | succ k =>
    have d1:decide (0 < ((k + 1:Nat):Int))=true:=dTD (by omega);have d2:decide (0 < (k:Int) + 1)=true:=dTD (by omega);have HB:Aside0 (l1.length + 2 * (k + 1)≤1 + 2 * nn∧k + 1≤nn∧nn≤20):=⟨by have:=HI.out;have:=HNN.out;omega⟩;have HB2:Aside0 (l1.length≤100):=⟨zelD_1⟩;have HQ:Aside0 (∀ q:Nat,q=l1.length + 2→q + 2 * k≤1 + 2 * nn∧k≤nn):=⟨fun q hq=>zelD_1⟩
    have hw:wrap64 (((k + 1:Nat):Int) - 1)=(k:Int):=by rw [w64 (zelD_1) (zelD_1)];omega
    have hw2:wrap64 ((k:Int) + 1 - 1)=(k:Int):=by rw [w64 (zelD_1) (zelD_1)];omega
    have hw3:wrap64 (k:Int)=(k:Int):=w64 (zelD_1) (zelD_1)
    go_wp2_with (first|((with_reducible refine gate_dst (N:=88) rfl ?_);refine Kd.R_lit k94 _ 94 ?hg (N:=88) ?hd (xs:=([⟨0,2⟩,⟨2,0⟩]:PL)) (inner:=[.int .i64 0,.int .i64 2,.int .i64 2,.int .i64 0]) (ok:=fun _=>True) (okp:=fun _=>True) ?hr ?hp (fun _ hk=>hk) trivial (Below.refl _ _) (Nat.le_refl _) (by simp) ?_;(case hd=>rfl);(case hg=>rfl);(case hr=>exact zelD_2);(case hp=>exact (Reps.c2 (show Kd.M k94 _ _ _ (⟨0,2⟩:S94) [.int .i64 0,.int .i64 2] from k94_mkM _ _ _ (⟨0,2⟩:S94)) (Reps.c2 (show Kd.M k94 _ _ _ (⟨2,0⟩:S94) [.int .i64 2,.int .i64 0] from k94_mkM _ _ _ (⟨2,0⟩:S94)) (Reps.none _ _))));intro vl wy ho hb hg_ hnew_;clear hg_ hnew_;have n0_:=aMD (HS.out.below hb);have n1_:=aMD (Kd.R_below HR.out hb);clear HS HR;have HS:=n0_;have HR:=n1_;clear n0_ n1_;obtain ⟨Ay,cy,ey⟩:=Kd.R_slice ho;replace ey:vl=.slice Ay 2 cy:=ey;subst ey;have HY:=aMD ho;clear ho hb)|((with_reducible refine gate_builtin (b:=.append) (xs:=#[.tmp 85,.tmp 88]) rfl ?_);at_builtin;refine Kd.R_append_rows k94 (w0:=w0) w0.heap.size rfl (.tmp 85) (.tmp 88) 36 94 (.agg #[.int .i64 0,.int .i64 0]) 16 rfl Try.underlying36 OwnRu.infoP rfl (by decide) (by omega) (.slice A1 l1.length c1) l1 ([⟨0,2⟩,⟨2,0⟩]:PL) Ay 2 cy (fun q=>W.heap.size≤q∧q≠g) (fun _=>False) rfl rfl ?aO ?aR (fun _ _ h_=>c_part h_) (fun _ h_=>h_.elim) ?aF ?aB ?aS ?aL ?_;(case aO=>exact HR.out);(case aR=>exact (Kd.R_reads' HY.out).2.2);(case aF=>exact (fun q hq=>⟨Nat.le_trans HS.out.kp.1 hq,fun e_=>by have:=HS.out.lt;omega⟩));(case aB=>exact HS.out.bel);(case aS=>exact HS.out.bel.size);(case aL=>have:=HB2.out;omega);intro va wz ho hb hg hat;obtain ⟨ln,eln⟩:∃ q:PL,q=l1 ++ ([⟨0,2⟩,⟨2,0⟩]:PL):=⟨_,rfl⟩;rw [← eln] at ho;have Qln:Aside0 (ln.length=l1.length + 2):=⟨zelD_0⟩;clear eln;have n0_:=aMD (grown_rel HS.out HR.out hb hg);have n1_:=aMD ho;clear HS HR ho hb hg hat;have HS:=n0_;have HR:=n1_;clear n0_ n1_;obtain ⟨A2,cA2,ea⟩:=Kd.R_slice HR.out;subst ea))
    go_roundg k
    case measure=>omega
    case rel=>exact ⟨ln,A2,cA2,rfl,(by first|rfl|(simp;done)|(simp [*];done)),⟨HQ.out _ Qln.out⟩,HR,HS⟩
 ·skip
  clear HR
  go_wp2_with (first|((with_reducible refine gate_dst (N:=97) rfl ?_);refine Kd.R_lit k94 _ 94 ?hg (N:=97) ?hd (xs:=([⟨0,0⟩,⟨0,0⟩,⟨0,0⟩,⟨0,0⟩,⟨7,0⟩]:PL)) (inner:=[.int .i64 0,.int .i64 0,.int .i64 0,.int .i64 0,.int .i64 0,.int .i64 0,.int .i64 0,.int .i64 0,.int .i64 7,.int .i64 0]) (ok:=fun _=>True) (okp:=fun _=>True) ?hr ?hp (fun _ hk=>hk) trivial (Below.refl _ _) (Nat.le_refl _) (by simp) ?_;(case hd=>rfl);(case hg=>rfl);(case hr=>exact zelD_2);(case hp=>exact (Reps.c2 (show Kd.M k94 _ _ _ (⟨0,0⟩:S94) [.int .i64 0,.int .i64 0] from k94_mkM _ _ _ (⟨0,0⟩:S94)) (Reps.c2 (show Kd.M k94 _ _ _ (⟨0,0⟩:S94) [.int .i64 0,.int .i64 0] from k94_mkM _ _ _ (⟨0,0⟩:S94)) (Reps.c2 (show Kd.M k94 _ _ _ (⟨0,0⟩:S94) [.int .i64 0,.int .i64 0] from k94_mkM _ _ _ (⟨0,0⟩:S94)) (Reps.c2 (show Kd.M k94 _ _ _ (⟨0,0⟩:S94) [.int .i64 0,.int .i64 0] from k94_mkM _ _ _ (⟨0,0⟩:S94)) (Reps.c2 (show Kd.M k94 _ _ _ (⟨7,0⟩:S94) [.int .i64 7,.int .i64 0] from k94_mkM _ _ _ (⟨7,0⟩:S94)) (Reps.none _ _)))))));intro vl wd ho hb hg_ hnew_;clear hg_ hnew_;have n0_:=aMD (HS.out.below hb);have n1_:Aside0 (Kd.R k94 94 wd w0.heap.size (fun q=>W.heap.size≤q∧q≠g) vl ([⟨0,0⟩,⟨0,0⟩,⟨0,0⟩,⟨0,0⟩,⟨7,0⟩]:PL)):=⟨Kd.R_lower (Kd.R_mono (Kd.R_bound (n0_.out.ne ho (by decide))) (fun q hq=>⟨Nat.le_trans HS.out.kp.1 hq.2.1,hq.1.2⟩)) HS.out.bel.size⟩;clear HS ho hb;have HS:=n0_;have HR:=n1_;clear n0_ n1_;obtain ⟨Al,cl,el⟩:=Kd.R_slice HR.out;replace el:vl=.slice Al 5 cl:=el;subst el))
  obtain ⟨lf,elf⟩:∃ q:PL,q=[⟨0,0⟩,⟨0,0⟩,⟨0,0⟩,⟨0,0⟩,⟨7,0⟩]:=⟨_,rfl⟩;have HLF:Aside0 (lf.length=5):=⟨by rw [elf];rfl⟩;rw [← elf] at HR;clear elf;refine (pick_rel hs HS.out.re 2 (by omega) (by omega)).mono ?_;rintro e we ⟨x,rfl,hx,hS⟩;have n0_:=aMD (HS.out.chain hS);have n1_:=aMD (keep_rel (W:=W) hS HR.out);clear HS HR hS;have HS:=n0_;have HR:=n1_;clear n0_ n1_;obtain ⟨nn,enn⟩:∃ q:Nat,(q:Int)=wrap64 (8 + x):=⟨(8 + x).toNat,by rw [w64 (by omega) (by omega)];omega⟩;have HNN:Aside0 (nn≤9):=⟨by rw [w64 (by omega) (by omega)] at enn;omega⟩;have enn2:=enn.symm;have enn3:IntKind.i64.wrap (8 + x)=(nn:Int):=(i64_w _).trans enn.symm;clear hx enn
  go_wp2_with fail
  go_loopg [3,8] nn (fun k v3 v8 wr=>∃ (l1:PL) (A1:Option Addr) (c1:Nat),v3=.slice A1 l1.length c1∧v8=.int .i64 (k:Int)∧Aside0 (l1.length + 4 * k≤5 + 4 * nn∧k≤nn)∧Aside0 (Kd.R k94 94 wr w0.heap.size (fun q=>W.heap.size≤q∧q≠g) (.slice A1 l1.length c1) l1)∧Aside0 (St w0 g s W (n + 80000) wr))
  case atStart=>exact ⟨lf,Al,cl,(by rw [HLF.out]),rfl,⟨by have:=HLF.out;omega⟩,(by rw [HLF.out];exact HR),⟨HS.out.mono (by omega)⟩⟩
  case round =>
   clear HR HS;obtain ⟨l1,A1,c1,rfl,rfl,HI,HR,HS⟩:=hrel
   cases gk with
   | zero =>
    have d1:decide (0 < ((0:Nat):Int))=false:=by decide
    have HLL:Aside0 (l1.length≤41):=⟨by have:=HI.out;have:=HNN.out;omega⟩
    go_wp2_with fail
    go_loopg [3] 45 (fun k v3 wr=>∃ (l1:PL) (A1:Option Addr) (c1:Nat),v3=.slice A1 l1.length c1∧Aside0 (l1.length≤160∧39≤l1.length + 2 * (k:Int))∧Aside0 (Kd.R k94 94 wr w0.heap.size (fun q=>W.heap.size≤q∧q≠g) (.slice A1 l1.length c1) l1)∧Aside0 (St w0 g s W (n + 90000) wr))
    case atStart=>exact ⟨l1,A1,c1,rfl,⟨by have:=HLL.out;omega⟩,HR,⟨HS.out.mono (by omega)⟩⟩
    case round =>
     clear HR HS;obtain ⟨l1,A1,c1,rfl,HI,HR,HS⟩:=hrel
     by_cases hlt:(l1.length:Int) < 39
     ·have d1:decide ((l1.length:Int) < 39)=true:=dTD hlt
      have d2:decide (l1.length < 39)=true:=dTD (by omega);have HLT:=aMD hlt;obtain ⟨k,rfl⟩:∃ k,gk=k + 1:=⟨gk - 1,by have:=HI.out;have:=trivial;omega⟩;have HL2:Aside0 (l1.length≤45):=⟨by have:=trivial;omega⟩;clear hlt
      go_wp2_with (first|((with_reducible refine gate_dst (N:=118) rfl ?_);refine Kd.R_lit k94 _ 94 ?hg (N:=118) ?hd (xs:=([⟨0,0⟩,⟨2,0⟩]:PL)) (inner:=[.int .i64 0,.int .i64 0,.int .i64 2,.int .i64 0]) (ok:=fun _=>True) (okp:=fun _=>True) ?hr ?hp (fun _ hk=>hk) trivial (Below.refl _ _) (Nat.le_refl _) (by simp) ?_;(case hd=>rfl);(case hg=>rfl);(case hr=>exact zelD_2);(case hp=>exact (Reps.c2 (show Kd.M k94 _ _ _ (⟨0,0⟩:S94) [.int .i64 0,.int .i64 0] from k94_mkM _ _ _ (⟨0,0⟩:S94)) (Reps.c2 (show Kd.M k94 _ _ _ (⟨2,0⟩:S94) [.int .i64 2,.int .i64 0] from k94_mkM _ _ _ (⟨2,0⟩:S94)) (Reps.none _ _))));intro vl wy ho hb hg_ hnew_;clear hg_ hnew_;have n0_:=aMD (HS.out.below hb);have n1_:=aMD (Kd.R_below HR.out hb);clear HS HR;have HS:=n0_;have HR:=n1_;clear n0_ n1_;obtain ⟨Ay,cy,ey⟩:=Kd.R_slice ho;replace ey:vl=.slice Ay 2 cy:=ey;subst ey;have HY:=aMD ho;clear ho hb)|((with_reducible refine gate_builtin (b:=.append) (xs:=#[.tmp 115,.tmp 118]) rfl ?_);at_builtin;refine Kd.R_append_rows k94 (w0:=w0) w0.heap.size rfl (.tmp 115) (.tmp 118) 36 94 (.agg #[.int .i64 0,.int .i64 0]) 16 rfl Try.underlying36 OwnRu.infoP rfl (by decide) (by omega) (.slice A1 l1.length c1) l1 ([⟨0,0⟩,⟨2,0⟩]:PL) Ay 2 cy (fun q=>W.heap.size≤q∧q≠g) (fun _=>False) rfl rfl ?aO ?aR (fun _ _ h_=>c_part h_) (fun _ h_=>h_.elim) ?aF ?aB ?aS ?aL ?_;(case aO=>exact HR.out);(case aR=>exact (Kd.R_reads' HY.out).2.2);(case aF=>exact (fun q hq=>⟨Nat.le_trans HS.out.kp.1 hq,fun e_=>by have:=HS.out.lt;omega⟩));(case aB=>exact HS.out.bel);(case aS=>exact HS.out.bel.size);(case aL=>have:=HL2.out;omega);intro va wz ho hb hg hat;obtain ⟨ln,eln⟩:∃ q:PL,q=l1 ++ ([⟨0,0⟩,⟨2,0⟩]:PL):=⟨_,rfl⟩;rw [← eln] at ho;have Qln:Aside0 (ln.length=l1.length + 2):=⟨zelD_0⟩;clear eln;have n0_:=aMD (grown_rel HS.out HR.out hb hg);have n1_:=aMD ho;clear HS HR ho hb hg hat;have HS:=n0_;have HR:=n1_;clear n0_ n1_;obtain ⟨A2,cA2,ea⟩:=Kd.R_slice HR.out;subst ea))
      go_roundg k
      case measure=>omega
      case rel=>exact ⟨ln,A2,cA2,rfl,⟨by have:=HI.out;have:=HL2.out;have:=Qln.out;omega⟩,HR,HS⟩
     ·have d1:decide ((l1.length:Int) < 39)=false:=decide_eq_false hlt
      have d2:decide (l1.length < 39)=false:=decide_eq_false (by omega);clear hlt
      go_wp2_with fail
      go_ret
      exact ⟨_,_,rfl,HR.out,by have:=HI.out;omega,(H.out.chain HS.out).mono (by omega)⟩
   | succ k =>
    have d1:decide (0 < ((k + 1:Nat):Int))=true:=dTD (by omega);have d2:decide (0 < (k:Int) + 1)=true:=dTD (by omega);have HB:Aside0 (l1.length + 4 * (k + 1)≤5 + 4 * nn∧k + 1≤nn∧nn≤20):=⟨by have:=HI.out;have:=HNN.out;omega⟩;have HB2:Aside0 (l1.length≤100):=⟨zelD_1⟩;have HQ:Aside0 (∀ q:Nat,q=l1.length + 4→q + 4 * k≤5 + 4 * nn∧k≤nn):=⟨fun q hq=>zelD_1⟩
    have hw:wrap64 (((k + 1:Nat):Int) - 1)=(k:Int):=by rw [w64 (zelD_1) (zelD_1)];omega
    have hw2:wrap64 ((k:Int) + 1 - 1)=(k:Int):=by rw [w64 (zelD_1) (zelD_1)];omega
    have hw3:wrap64 (k:Int)=(k:Int):=w64 (zelD_1) (zelD_1)
    go_wp2_with (first|((with_reducible refine gate_dst (N:=110) rfl ?_);refine Kd.R_lit k94 _ 94 ?hg (N:=110) ?hd (xs:=([⟨0,0⟩,⟨0,0⟩,⟨0,0⟩,⟨6,0⟩]:PL)) (inner:=[.int .i64 0,.int .i64 0,.int .i64 0,.int .i64 0,.int .i64 0,.int .i64 0,.int .i64 6,.int .i64 0]) (ok:=fun _=>True) (okp:=fun _=>True) ?hr ?hp (fun _ hk=>hk) trivial (Below.refl _ _) (Nat.le_refl _) (by simp) ?_;(case hd=>rfl);(case hg=>rfl);(case hr=>exact zelD_2);(case hp=>exact (Reps.c2 (show Kd.M k94 _ _ _ (⟨0,0⟩:S94) [.int .i64 0,.int .i64 0] from k94_mkM _ _ _ (⟨0,0⟩:S94)) (Reps.c2 (show Kd.M k94 _ _ _ (⟨0,0⟩:S94) [.int .i64 0,.int .i64 0] from k94_mkM _ _ _ (⟨0,0⟩:S94)) (Reps.c2 (show Kd.M k94 _ _ _ (⟨0,0⟩:S94) [.int .i64 0,.int .i64 0] from k94_mkM _ _ _ (⟨0,0⟩:S94)) (Reps.c2 (show Kd.M k94 _ _ _ (⟨6,0⟩:S94) [.int .i64 6,.int .i64 0] from k94_mkM _ _ _ (⟨6,0⟩:S94)) (Reps.none _ _))))));intro vl wy ho hb hg_ hnew_;clear hg_ hnew_;have n0_:=aMD (HS.out.below hb);have n1_:=aMD (Kd.R_below HR.out hb);clear HS HR;have HS:=n0_;have HR:=n1_;clear n0_ n1_;obtain ⟨Ay,cy,ey⟩:=Kd.R_slice ho;replace ey:vl=.slice Ay 4 cy:=ey;subst ey;have HY:=aMD ho;clear ho hb)|((with_reducible refine gate_builtin (b:=.append) (xs:=#[.tmp 105,.tmp 110]) rfl ?_);at_builtin;refine Kd.R_append_rows k94 (w0:=w0) w0.heap.size rfl (.tmp 105) (.tmp 110) 36 94 (.agg #[.int .i64 0,.int .i64 0]) 16 rfl Try.underlying36 OwnRu.infoP rfl (by decide) (by omega) (.slice A1 l1.length c1) l1 ([⟨0,0⟩,⟨0,0⟩,⟨0,0⟩,⟨6,0⟩]:PL) Ay 4 cy (fun q=>W.heap.size≤q∧q≠g) (fun _=>False) rfl rfl ?aO ?aR (fun _ _ h_=>c_part h_) (fun _ h_=>h_.elim) ?aF ?aB ?aS ?aL ?_;(case aO=>exact HR.out);(case aR=>exact (Kd.R_reads' HY.out).2.2);(case aF=>exact (fun q hq=>⟨Nat.le_trans HS.out.kp.1 hq,fun e_=>by have:=HS.out.lt;omega⟩));(case aB=>exact HS.out.bel);(case aS=>exact HS.out.bel.size);(case aL=>have:=HB2.out;omega);intro va wz ho hb hg hat;obtain ⟨ln,eln⟩:∃ q:PL,q=l1 ++ ([⟨0,0⟩,⟨0,0⟩,⟨0,0⟩,⟨6,0⟩]:PL):=⟨_,rfl⟩;rw [← eln] at ho;have Qln:Aside0 (ln.length=l1.length + 4):=⟨zelD_0⟩;clear eln;have n0_:=aMD (grown_rel HS.out HR.out hb hg);have n1_:=aMD ho;clear HS HR ho hb hg hat;have HS:=n0_;have HR:=n1_;clear n0_ n1_;obtain ⟨A2,cA2,ea⟩:=Kd.R_slice HR.out;subst ea))
    go_roundg k
    case measure=>omega
    case rel=>exact ⟨ln,A2,cA2,rfl,(by first|rfl|(simp;done)|(simp [*];done)),⟨HQ.out _ Qln.out⟩,HR,HS⟩
 ·skip
  have t0a:decide (r=0)=false:=decide_eq_false h0;have t0b:(r == 0)=false:=beq_eq_false_iff_ne.mpr h0;have t1a:decide (r=1)=false:=decide_eq_false h1;have t1b:(r == 1)=false:=beq_eq_false_iff_ne.mpr h1;have t2a:decide (r=2)=false:=decide_eq_false h2;have t2b:(r == 2)=false:=beq_eq_false_iff_ne.mpr h2;have t3a:decide (r=3)=false:=decide_eq_false h3;have t3b:(r == 3)=false:=beq_eq_false_iff_ne.mpr h3;have t4a:decide (r=4)=false:=decide_eq_false h4;have t4b:(r == 4)=false:=beq_eq_false_iff_ne.mpr h4;have t5a:decide (r=5)=false:=decide_eq_false h5;have t5b:(r == 5)=false:=beq_eq_false_iff_ne.mpr h5;have t6a:decide (r=6)=false:=decide_eq_false h6;have t6b:(r == 6)=false:=beq_eq_false_iff_ne.mpr h6
  go_wp2_with fail
  go_ret
  exact ⟨_,l,rfl,HR.out,by have:=HL.out;omega,(H.out.chain HS.out).mono (by omega)⟩
set_option maxHeartbeats 16000000 in
set_option maxRecDepth 100000 in
theorem priced_rel (hs:Bytes s) (h:St w0 g s Wx n W) (hn:n≤1000000000000000):Calls Try.prog 31 #[.pointer (some ⟨g,0,none⟩)] W fun e W'=>∃ (v:Value) (l:PL),e=.returned v∧Kd.R k94 94 W' w0.heap.size (fun q=>W.heap.size≤q∧q≠g) v l∧l.length≤200∧St w0 g s Wx (n + 200000) W':=by
 have hu:=Try.underlying94;have H:=aMD h;have HS:=aMD h.re;clear h;go_enter Try.func31,Try.ntmps31
 go_wp2_with (first|((with_reducible refine gate_dst (N:=7) rfl ?_);refine Kd.R_lit Kd.string _ 9 ?hg (N:=7) ?hd (xs:=([(⟨#[109,101,116,97,108,32,47,32,49,48,48,32,45,32,116,111,110,110,101,115,32,47,32,49,48]⟩:ByteArray),(⟨#[105,102,32,103,114,97,100,101,32,62,32,50,48,32,116,104,101,110,32,109,101,116,97,108,32,47,32,53,48,32,45,32,116,111,110,110,101,115,32,47,32,49,48,32,101,108,115,101,32,48,32,45,32,116,111,110,110,101,115,32,47,32,50,48]⟩:ByteArray),(⟨#[103,114,97,100,101,32,45,32,50,48,32,45,32,108,101,118,101,108,32,42,32,51]⟩:ByteArray),(⟨#[105,102,32,114,111,99,107,32,61,32,49,32,116,104,101,110,32,103,114,97,100,101,32,101,108,115,101,32,48,32,45,32,50]⟩:ByteArray),(⟨#[116,111,110,110,101,115,32,47,32,40,32,103,114,97,100,101,32,45,32,53,32,41]⟩:ByteArray)]:List ByteArray)) (inner:=[.string (⟨#[109,101,116,97,108,32,47,32,49,48,48,32,45,32,116,111,110,110,101,115,32,47,32,49,48]⟩:ByteArray),.string (⟨#[105,102,32,103,114,97,100,101,32,62,32,50,48,32,116,104,101,110,32,109,101,116,97,108,32,47,32,53,48,32,45,32,116,111,110,110,101,115,32,47,32,49,48,32,101,108,115,101,32,48,32,45,32,116,111,110,110,101,115,32,47,32,50,48]⟩:ByteArray),.string (⟨#[103,114,97,100,101,32,45,32,50,48,32,45,32,108,101,118,101,108,32,42,32,51]⟩:ByteArray),.string (⟨#[105,102,32,114,111,99,107,32,61,32,49,32,116,104,101,110,32,103,114,97,100,101,32,101,108,115,101,32,48,32,45,32,50]⟩:ByteArray),.string (⟨#[116,111,110,110,101,115,32,47,32,40,32,103,114,97,100,101,32,45,32,53,32,41]⟩:ByteArray)]) (ok:=fun _=>True) (okp:=fun _=>True) ?hr ?hp (fun _ hk=>hk) trivial (Below.refl _ _) (Nat.le_refl _) (by simp) ?_;(case hd=>rfl);(case hg=>rfl);(case hr=>exact zelD_2);(case hp=>exact (Reps.one (show Kd.M Kd.string _ _ _ (⟨#[109,101,116,97,108,32,47,32,49,48,48,32,45,32,116,111,110,110,101,115,32,47,32,49,48]⟩:ByteArray) [.string (⟨#[109,101,116,97,108,32,47,32,49,48,48,32,45,32,116,111,110,110,101,115,32,47,32,49,48]⟩:ByteArray)] from rfl) (Reps.one (show Kd.M Kd.string _ _ _ (⟨#[105,102,32,103,114,97,100,101,32,62,32,50,48,32,116,104,101,110,32,109,101,116,97,108,32,47,32,53,48,32,45,32,116,111,110,110,101,115,32,47,32,49,48,32,101,108,115,101,32,48,32,45,32,116,111,110,110,101,115,32,47,32,50,48]⟩:ByteArray) [.string (⟨#[105,102,32,103,114,97,100,101,32,62,32,50,48,32,116,104,101,110,32,109,101,116,97,108,32,47,32,53,48,32,45,32,116,111,110,110,101,115,32,47,32,49,48,32,101,108,115,101,32,48,32,45,32,116,111,110,110,101,115,32,47,32,50,48]⟩:ByteArray)] from rfl) (Reps.one (show Kd.M Kd.string _ _ _ (⟨#[103,114,97,100,101,32,45,32,50,48,32,45,32,108,101,118,101,108,32,42,32,51]⟩:ByteArray) [.string (⟨#[103,114,97,100,101,32,45,32,50,48,32,45,32,108,101,118,101,108,32,42,32,51]⟩:ByteArray)] from rfl) (Reps.one (show Kd.M Kd.string _ _ _ (⟨#[105,102,32,114,111,99,107,32,61,32,49,32,116,104,101,110,32,103,114,97,100,101,32,101,108,115,101,32,48,32,45,32,50]⟩:ByteArray) [.string (⟨#[105,102,32,114,111,99,107,32,61,32,49,32,116,104,101,110,32,103,114,97,100,101,32,101,108,115,101,32,48,32,45,32,50]⟩:ByteArray)] from rfl) (Reps.one (show Kd.M Kd.string _ _ _ (⟨#[116,111,110,110,101,115,32,47,32,40,32,103,114,97,100,101,32,45,32,53,32,41]⟩:ByteArray) [.string (⟨#[116,111,110,110,101,115,32,47,32,40,32,103,114,97,100,101,32,45,32,53,32,41]⟩:ByteArray)] from rfl) (Reps.none _ _)))))));intro vl wl ho hb hg_ hnew_;clear hg_ hnew_;have n0_:=aMD (HS.out.below hb);clear HS;have HS:=n0_;clear n0_;obtain ⟨Al,cl,el⟩:=Kd.R_slice ho;replace el:vl=.slice Al 5 cl:=el;subst el;have HO:=aMD ho;clear ho hb))
 refine (of_rel hs HS.out HO.out rfl (by simp) (by omega)).mono ?_;rintro e wa ⟨t,rfl,_,hS⟩;have n0_:=aMD hS;clear HS hS;have HS:=n0_;clear n0_ HO
 go_wp2_with fail
 refine (OwnRuQ.ParseRule_calls t wa).mono ?_;rintro e wb ⟨v,l,b,rfl,ho,hl,hb⟩;have n0_:=aMD (HS.out.below hb);have HR:Aside0 (Kd.R k94 94 wb w0.heap.size (fun q=>W.heap.size≤q∧q≠g) v l):=⟨Kd.R_lower (Kd.R_mono (Kd.R_bound (n0_.out.ne ho (by decide))) (fun q hq=>⟨Nat.le_trans HS.out.kp.1 hq.2.1,hq.1.2⟩)) HS.out.bel.size⟩;have HL:=aMD hl;clear HS ho hb hl;have HS:=n0_;clear n0_;obtain ⟨A,c,rfl⟩:=Kd.R_slice HR.out
 cases b with
 | false =>
  clear HR
  go_wp2_with fail
  refine (anyRule_rel hs HS.out (by omega)).mono ?_;rintro e wc ⟨v2,l2,rfl,hR2,hl2,hS2⟩;have HR2:=aMD (Kd.R_mono (ok':=(fun q=>W.heap.size≤q∧q≠g)) hR2 (fun q hq=>⟨Nat.le_trans HS.out.kp.1 hq.1,hq.2⟩));have HS2:=aMD hS2;have HL2:=aMD hl2;clear hR2 hS2 hl2 HS
  go_wp2
  go_ret
  exact ⟨_,l2,rfl,HR2.out,HL2.out,(H.out.chain HS2.out).mono (by omega)⟩
 | true =>
  go_wp2_with fail
  refine (one_rel hs HS.out.re 5 (by omega)).mono ?_;rintro e wd ⟨b2,rfl,hS⟩;have n0_:=aMD (HS.out.chain hS);have n1_:=aMD (keep_rel (W:=W) hS HR.out);clear HS HR hS;have HS:=n0_;have HR:=n1_;clear n0_ n1_
  cases b2 with
  | true =>
   clear HR
   go_wp2_with fail
   refine (anyRule_rel hs HS.out (by omega)).mono ?_;rintro e wc ⟨v2,l2,rfl,hR2,hl2,hS2⟩;have HR2:=aMD (Kd.R_mono (ok':=(fun q=>W.heap.size≤q∧q≠g)) hR2 (fun q hq=>⟨Nat.le_trans HS.out.kp.1 hq.1,hq.2⟩));have HS2:=aMD hS2;have HL2:=aMD hl2;clear hR2 hS2 hl2 HS
   go_wp2
   go_ret
   exact ⟨_,l2,rfl,HR2.out,HL2.out,(H.out.chain HS2.out).mono (by omega)⟩
  | false =>
   go_wp2
   go_ret
   exact ⟨_,l,rfl,HR.out,by have:=HL.out (by simp);omega,(H.out.chain HS.out).mono (by omega)⟩
end
end Go.Proofs.Ytahhiedlkegkgaa.OwnRelD
