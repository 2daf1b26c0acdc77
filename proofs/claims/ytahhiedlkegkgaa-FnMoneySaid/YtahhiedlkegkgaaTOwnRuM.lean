/- spec.ruState's methods atom,product,sum and rule: each ends,and adds no more parts than it takes words. -/
import Derived.Test.YtahhiedlkegkgaaTStepW
import Derived.Test.YtahhiedlkegkgaaTOwnRu
import Derived.Lib.SplitLaws
namespace Go.Proofs.Ytahhiedlkegkgaa.OwnRuM
open Go.RowKit Go.Proofs.Ytahhiedlkegkgaa.PFnMoney Go.Proofs.YtahhiedlkegkgaaW.PrintWords Go.Proofs.YtahhiedlkegkgaaW.PrintLast Go.Proofs.YtahhiedlkegkgaaW.PrintMore Go.Proofs.Ytahhiedlkegkgaa.B Go.Proofs.Ytahhiedlkegkgaa.OwnRu
set_option linter.unusedVariables false
set_option linter.unusedSimpArgs false
theorem aMM:type_of% @Aside0.mk:=@Aside0.mk
theorem uAM:type_of% @List.setIfInBounds_toArray.{0}:=@List.setIfInBounds_toArray.{0}
theorem zRuM_0 {P:Prop} (h:P:=by have:=HL2.out;have:=HO.out;have:=HP.out.bd;omega):P:=h
theorem zRuM_1 {P:Prop} (h:P:=by have:=HL2.out;have:=HO.out;rw [List.length_append,List.length_singleton];omega):P:=h
theorem zRuM_2 {P:Prop} (h:P:=by first|rfl|(simp;done)|(simp [*];done)):P:=h
theorem zRuM_3 {P:Prop} (h:P:=by have:=HL.out;have:=HQ.out;have:=HO.out;have:=HD.out;have:=L1.out;omega):P:=h
theorem zRuM_4 {P:Prop} (h:P:=by have:=HL.out;have:=HQ.out;have:=HO.out;have:=HD.out;have:=L1.out;have:=L3.out;omega):P:=h
theorem zRuM_5 {P:Prop} (h:P:=by have:=HL.out;have:=HQ.out;have:=HO.out;have:=HD.out;have:=L1.out;have:=L3.out;have:=L5.out;omega):P:=h
theorem l1In_eq (a b c:Int):spec_l1In.f a b c=some (decide (b≤a∧a≤c)):=by
 unfold spec_l1In.f
 by_cases h:a ≥ b
 ·rw [if_pos h];simp [show b≤a from h]
 ·rw [if_neg h];simp [show ¬ b≤a from h]
theorem bt_get (s:ByteArray) (i:Nat) (h:i < s.size):∃ b,s.data.toList[i]?=some b∧bt s (i:Int)=(b.toNat:Int):=by
 refine ⟨s[i],?_,?_⟩
 ·rw [Array.getElem?_toList]
  exact Array.getElem?_eq_getElem h
 ·unfold bt
  simp only [Int.toNat_natCast];rw [dif_pos h]
def rdL:List UInt8→Int→Int
 | [],n=>n
 | b :: r,n=>if (b.toNat:Int) < 48 then -1 else if (b.toNat:Int) > 57 then -1 else rdL r (wrap64 ((wrap64 (10 * n)) + (((b.toNat:Int) - 48) % 256)))
def rdS (l:List UInt8):Int:=if 1≤l.length∧l.length≤6 then (if l[0]?=some 48∧1 < l.length then -1 else rdL l 0) else -1
theorem read_l0 (s:ByteArray) (hs:s.size≤1048576):∀ (d i:Nat) (n:Int),i + d=s.size→Ev (fun k=>spec_l1Read.l0 k s n (i:Int)) (rdL (s.data.toList.drop i) n):=by
 have hL:s.data.toList.length=s.size:=(Lib.size_eq s).symm;intro d
 induction d with
 | zero =>
  intro i n hi;refine Ev.step (fun k=>spec_l1Read.l0.eq_2 s n i k) (ev_neg (by omega) (ev_some ?_));rw [List.drop_eq_nil_of_le (by omega)]
  rfl
 | succ d ih =>
  intro i n hi;obtain ⟨b,hb,hbt⟩:=bt_get s i (by omega);have h2:s.data.toList.drop i=b :: s.data.toList.drop (i + 1):=by
   rw [List.drop_eq_getElem_cons (by omega)];rw [List.getElem?_eq_getElem (by omega)] at hb
   injection hb with hb
   rw [hb]
  refine Ev.step (fun k=>spec_l1Read.l0.eq_2 s n i k) (ev_pos (by omega) (ev_pos (by omega) ?_));rw [hbt,h2,w_succ (n:=s.size) (by omega) (by omega),rdL];refine ev_ite (fun h=>?_) (fun h=>ev_ite (fun h3=>?_) (fun h3=>?_))
  ·rw [if_pos h];exact ev_some rfl
  ·rw [if_neg h,if_pos h3];exact ev_some rfl
  ·rw [if_neg h,if_neg h3];exact ih (i + 1) _ (by omega)
theorem read_ev (s:ByteArray) (hs:s.size≤1048576):Ev (fun k=>spec_l1Read.f k s) (rdS s.data.toList):=by
 have hL:s.data.toList.length=s.size:=(Lib.size_eq s).symm
 unfold spec_l1Read.f rdS
 refine ev_bindc (l1In_eq _ _ _) (ev_ite (fun h=>?_) (fun h=>?_))
 ·simp only [decide_eq_true_eq] at h
  obtain ⟨b,hb,hbt⟩:=bt_get s 0 (by omega);have hz:bt s 0=(b.toNat:Int):=hbt;have fin:Ev (fun k=>spec_l1Read.j0 k s false) (rdL s.data.toList 0):=by
   refine Ev.step (fun k=>spec_l1Read.j0.eq_2 s false k) (ev_neg (by simp) ?_)
   have:=read_l0 s hs s.size 0 0 (by omega)
   rw [List.drop_zero] at this;exact this
  rw [if_pos (show 1≤s.data.toList.length∧s.data.toList.length≤6 by omega),hz,hb];refine ev_pos (by omega) (ev_ite (fun h2=>?_) (fun h2=>?_))
  ·have hb48:b=48:=UInt8.toNat_inj.1 (by rw [show (48:UInt8).toNat=48 from rfl];omega)
   by_cases h3:(s.size:Int) > 1
   ·rw [decide_eq_true h3,if_pos (⟨by rw [hb48],by omega⟩)]
    exact Ev.step (fun k=>spec_l1Read.j0.eq_2 s true k) (ev_pos rfl (ev_some rfl))
   ·rw [decide_eq_false h3,if_neg (fun hq=>by omega)]
    exact fin
  ·rw [if_neg (fun hq=>by
    have:=Option.some.inj hq.1
    rw [this] at h2
    exact h2 rfl)]
   exact fin
 ·simp only [decide_eq_true_eq] at h
  rw [if_neg (show ¬ (1≤s.data.toList.length∧s.data.toList.length≤6) by omega)];exact Ev.step (fun k=>spec_l1Read.j0.eq_2 s true k) (ev_pos rfl (ev_some rfl))
def spec_ruState_atom_T3:Bool × List (List Nat × List Nat):=(true,[([],[]),([0],[0]),([1],[1]),([2],[2]),([],[]),([4],[4]),([5],[5]),([6],[6]),([7],[7]),([3,8],[3,8])])
def spec_ruState_atom_B3:List Nat:=[0,1,3,7,0,16,48,112,240,511]
theorem spec_ruState_atom_tab3:rtab .any (opsOf Try.f85 3)=spec_ruState_atom_T3:=by kernel_rfl
theorem spec_ruState_atom_bits3:waitsOk spec_ruState_atom_T3.2 spec_ruState_atom_B3=true:=by kernel_rfl
def spec_ruState_atom_T13:Bool × List (List Nat × List Nat):=(true,[([],[]),([0],[0]),([1],[1]),([2],[2]),([],[]),([4],[4]),([5],[5]),([6],[6]),([3,7],[3,7]),([8],[8]),([9,0,1,2,3,4,5,6,7,8,9],[9])])
def spec_ruState_atom_B13:List Nat:=[0,1,3,7,0,16,48,112,255,511,1023]
theorem spec_ruState_atom_tab13:rtab .any (opsOf Try.f85 13)=spec_ruState_atom_T13:=by kernel_rfl
theorem spec_ruState_atom_bits13:waitsOk spec_ruState_atom_T13.2 spec_ruState_atom_B13=true:=by kernel_rfl
/-- What each method tells: words are taken,and at most as many parts are added. -/
def Gain (W0:World) (g:Nat) (ws:List ByteArray) (p:Int) (out:PL) (e:Ending) (W':World):Prop :=
 ∃ (b:Bool) (p':Int) (out':PL),e=.returned (.bool b)∧p≤p'∧(out'.length:Int) + p≤out.length + p'∧PS W0 g ws p' out' W'
/-- The method f,wherever at most d words are left. -/
def Meth (f:Nat) (W0:World) (g:Nat) (ws:List ByteArray) (d:Int):Prop :=
 ∀ (p:Int) (out:PL) (W:World),PS W0 g ws p out W→(out.length:Int)≤p→(ws.length:Int) - p≤d→Calls Try.prog f #[.pointer (some ⟨g,0,none⟩)] W (Gain W0 g ws p out)
section
variable {W0:World} {g:Nat} {ws:List ByteArray} {d:Int}
set_option maxHeartbeats 16000000 in
set_option maxRecDepth 100000 in
theorem product_calls (hn:ws.length≤1000000) (ha:Meth 85 W0 g ws d):Meth 84 W0 g ws d:=by
 intro p out W h ho hd;have hu:=Try.underlying92;have HO:=aMM ho;have HD:=aMM hd;have H0:=aMM h.bd.1;go_enter Try.func84,Try.ntmps84
 go_wp2_with fail
 refine (ha p out W h ho hd).mono ?_;rintro e wa ⟨b,p1,out1,rfl,hle,hga,hP⟩;have HP:=aMM hP;have HL:Aside0 (p≤p1∧(out1.length:Int) + p≤out.length + p1):=⟨hle,hga⟩;clear h ho hd hle hga hP
 cases b with
 | false =>
  go_wp2
  go_ret
  exact ⟨false,p1,out1,rfl,HL.out.1,HL.out.2,HP.out⟩
 | true =>
  go_wp2_with fail
  go_loopg [3] (((ws.length:Int) - p1).toNat) (fun k v3 wr=>∃ (q:Int) (o1:PL),Aside0 (PS W0 g ws q o1 wr)∧Aside0 (p≤q∧(o1.length:Int)≤q∧(o1.length:Int) + p≤out.length + q)∧Aside0 ((ws.length:Int) - q≤k))
  case atStart=>exact ⟨p1,out1,HP,⟨by have:=HL.out;have:=HO.out;omega⟩,⟨by omega⟩⟩
  case round =>
   clear HP;obtain ⟨q,o1,HP,HI,HM⟩:=hrel
   go_wp2_with fail
   refine (is_calls HP.out hn _).mono ?_;rintro e wi ⟨b1,rfl,hb1,hP,_⟩;have n0_:=aMM hP;clear HP hP;have HP:=n0_;clear n0_
   cases b1 with
   | false =>
    clear hb1
    go_wp2_with fail
    refine (is_calls HP.out hn _).mono ?_;rintro e wj ⟨b2,rfl,hb2,hP,_⟩;have n0_:=aMM hP;clear HP hP;have HP:=n0_;clear n0_
    cases b2 with
    | false =>
     go_wp2
     go_ret
     exact ⟨true,q,o1,rfl,HI.out.1,HI.out.2.2,HP.out⟩
    | true =>
     have HLT:=aMM (hb2 rfl);clear hb2;obtain ⟨k,rfl⟩:∃ k,gk=k + 1:=⟨gk - 1,by have:=HLT.out;have:=HM.out;omega⟩
     go_wp2_with fail
     refine (is_calls HP.out hn _).mono ?_;rintro e wk ⟨b3,rfl,hb3,hP,_⟩;have n0_:=aMM hP;clear HP hb3 hP;have HP:=n0_;clear n0_;have e1:=HP.out.cell1;have hf:=HP.out.frozen 1;have hw:=w1 (by have:=HI.out.1;have:=H0.out;omega) HLT.out hn
     cases b3
     all_goals
      go_wp2_with fail
      refine (ha (q + 1) o1 _ (HP.out.step HLT.out) (by have:=HI.out.2.1;omega) (by have:=HI.out.1;have:=HD.out;omega)).mono ?_;rintro e wl ⟨b4,q2,o2,rfl,hle,hga,hP2⟩;have n0_:=aMM hP2;have HL2:Aside0 (p≤q2∧q + 1≤q2∧(o2.length:Int) + 1 + p≤out.length + q2):=⟨by have:=HI.out;omega⟩;clear e1 hf hw hle hga hP2 HP;have HP:=n0_;clear n0_
      cases b4
      ·go_wp2
       go_ret
       exact ⟨false,q2,o2,rfl,HL2.out.1,by have:=HL2.out;omega,HP.out⟩
      ·go_wp2_with fail
       refine (add_calls HP.out (zRuM_0) _ 0).mono ?_;rintro e wm ⟨rfl,hP3⟩;have HP3:=aMM hP3;clear hP3 HP
       go_wp2
       go_roundg k
       case measure=>omega
       case rel=>exact ⟨q2,_,HP3,⟨zRuM_1⟩,⟨by have:=HL2.out;have:=HM.out;omega⟩⟩
   | true =>
    have HLT:=aMM (hb1 rfl);clear hb1;obtain ⟨k,rfl⟩:∃ k,gk=k + 1:=⟨gk - 1,by have:=HLT.out;have:=HM.out;omega⟩
    go_wp2_with fail
    refine (is_calls HP.out hn _).mono ?_;rintro e wk ⟨b3,rfl,hb3,hP,_⟩;have n0_:=aMM hP;clear HP hb3 hP;have HP:=n0_;clear n0_;have e1:=HP.out.cell1;have hf:=HP.out.frozen 1;have hw:=w1 (by have:=HI.out.1;have:=H0.out;omega) HLT.out hn
    cases b3
    all_goals
     go_wp2_with fail
     refine (ha (q + 1) o1 _ (HP.out.step HLT.out) (by have:=HI.out.2.1;omega) (by have:=HI.out.1;have:=HD.out;omega)).mono ?_;rintro e wl ⟨b4,q2,o2,rfl,hle,hga,hP2⟩;have n0_:=aMM hP2;have HL2:Aside0 (p≤q2∧q + 1≤q2∧(o2.length:Int) + 1 + p≤out.length + q2):=⟨by have:=HI.out;omega⟩;clear e1 hf hw hle hga hP2 HP;have HP:=n0_;clear n0_
     cases b4
     ·go_wp2
      go_ret
      exact ⟨false,q2,o2,rfl,HL2.out.1,by have:=HL2.out;omega,HP.out⟩
     ·go_wp2_with fail
      refine (add_calls HP.out (zRuM_0) _ 0).mono ?_;rintro e wm ⟨rfl,hP3⟩;have HP3:=aMM hP3;clear hP3 HP
      go_wp2
      go_roundg k
      case measure=>omega
      case rel=>exact ⟨q2,_,HP3,⟨zRuM_1⟩,⟨by have:=HL2.out;have:=HM.out;omega⟩⟩
set_option maxHeartbeats 16000000 in
set_option maxRecDepth 100000 in
theorem sum_calls (hn:ws.length≤1000000) (ha:Meth 84 W0 g ws d):Meth 80 W0 g ws d:=by
 intro p out W h ho hd;have hu:=Try.underlying92;have HO:=aMM ho;have HD:=aMM hd;have H0:=aMM h.bd.1;go_enter Try.func80,Try.ntmps80
 go_wp2_with fail
 refine (ha p out W h ho hd).mono ?_;rintro e wa ⟨b,p1,out1,rfl,hle,hga,hP⟩;have HP:=aMM hP;have HL:Aside0 (p≤p1∧(out1.length:Int) + p≤out.length + p1):=⟨hle,hga⟩;clear h ho hd hle hga hP
 cases b with
 | false =>
  go_wp2
  go_ret
  exact ⟨false,p1,out1,rfl,HL.out.1,HL.out.2,HP.out⟩
 | true =>
  go_wp2_with fail
  go_loopg [3] (((ws.length:Int) - p1).toNat) (fun k v3 wr=>∃ (q:Int) (o1:PL),Aside0 (PS W0 g ws q o1 wr)∧Aside0 (p≤q∧(o1.length:Int)≤q∧(o1.length:Int) + p≤out.length + q)∧Aside0 ((ws.length:Int) - q≤k))
  case atStart=>exact ⟨p1,out1,HP,⟨by have:=HL.out;have:=HO.out;omega⟩,⟨by omega⟩⟩
  case round =>
   clear HP;obtain ⟨q,o1,HP,HI,HM⟩:=hrel
   go_wp2_with fail
   refine (is_calls HP.out hn _).mono ?_;rintro e wi ⟨b1,rfl,hb1,hP,_⟩;have n0_:=aMM hP;clear HP hP;have HP:=n0_;clear n0_
   cases b1 with
   | false =>
    clear hb1
    go_wp2_with fail
    refine (is_calls HP.out hn _).mono ?_;rintro e wj ⟨b2,rfl,hb2,hP,_⟩;have n0_:=aMM hP;clear HP hP;have HP:=n0_;clear n0_
    cases b2 with
    | false =>
     go_wp2
     go_ret
     exact ⟨true,q,o1,rfl,HI.out.1,HI.out.2.2,HP.out⟩
    | true =>
     have HLT:=aMM (hb2 rfl);clear hb2;obtain ⟨k,rfl⟩:∃ k,gk=k + 1:=⟨gk - 1,by have:=HLT.out;have:=HM.out;omega⟩
     go_wp2_with fail
     refine (is_calls HP.out hn _).mono ?_;rintro e wk ⟨b3,rfl,hb3,hP,_⟩;have n0_:=aMM hP;clear HP hb3 hP;have HP:=n0_;clear n0_;have e1:=HP.out.cell1;have hf:=HP.out.frozen 1;have hw:=w1 (by have:=HI.out.1;have:=H0.out;omega) HLT.out hn
     cases b3
     all_goals
      go_wp2_with fail
      refine (ha (q + 1) o1 _ (HP.out.step HLT.out) (by have:=HI.out.2.1;omega) (by have:=HI.out.1;have:=HD.out;omega)).mono ?_;rintro e wl ⟨b4,q2,o2,rfl,hle,hga,hP2⟩;have n0_:=aMM hP2;have HL2:Aside0 (p≤q2∧q + 1≤q2∧(o2.length:Int) + 1 + p≤out.length + q2):=⟨by have:=HI.out;omega⟩;clear e1 hf hw hle hga hP2 HP;have HP:=n0_;clear n0_
      cases b4
      ·go_wp2
       go_ret
       exact ⟨false,q2,o2,rfl,HL2.out.1,by have:=HL2.out;omega,HP.out⟩
      ·go_wp2_with fail
       refine (add_calls HP.out (zRuM_0) _ 0).mono ?_;rintro e wm ⟨rfl,hP3⟩;have HP3:=aMM hP3;clear hP3 HP
       go_wp2
       go_roundg k
       case measure=>omega
       case rel=>exact ⟨q2,_,HP3,⟨zRuM_1⟩,⟨by have:=HL2.out;have:=HM.out;omega⟩⟩
   | true =>
    have HLT:=aMM (hb1 rfl);clear hb1;obtain ⟨k,rfl⟩:∃ k,gk=k + 1:=⟨gk - 1,by have:=HLT.out;have:=HM.out;omega⟩
    go_wp2_with fail
    refine (is_calls HP.out hn _).mono ?_;rintro e wk ⟨b3,rfl,hb3,hP,_⟩;have n0_:=aMM hP;clear HP hb3 hP;have HP:=n0_;clear n0_;have e1:=HP.out.cell1;have hf:=HP.out.frozen 1;have hw:=w1 (by have:=HI.out.1;have:=H0.out;omega) HLT.out hn
    cases b3
    all_goals
     go_wp2_with fail
     refine (ha (q + 1) o1 _ (HP.out.step HLT.out) (by have:=HI.out.2.1;omega) (by have:=HI.out.1;have:=HD.out;omega)).mono ?_;rintro e wl ⟨b4,q2,o2,rfl,hle,hga,hP2⟩;have n0_:=aMM hP2;have HL2:Aside0 (p≤q2∧q + 1≤q2∧(o2.length:Int) + 1 + p≤out.length + q2):=⟨by have:=HI.out;omega⟩;clear e1 hf hw hle hga hP2 HP;have HP:=n0_;clear n0_
     cases b4
     ·go_wp2
      go_ret
      exact ⟨false,q2,o2,rfl,HL2.out.1,by have:=HL2.out;omega,HP.out⟩
     ·go_wp2_with fail
      refine (add_calls HP.out (zRuM_0) _ 0).mono ?_;rintro e wm ⟨rfl,hP3⟩;have HP3:=aMM hP3;clear hP3 HP
      go_wp2
      go_roundg k
      case measure=>omega
      case rel=>exact ⟨q2,_,HP3,⟨zRuM_1⟩,⟨by have:=HL2.out;have:=HM.out;omega⟩⟩
set_option maxHeartbeats 16000000 in
set_option maxRecDepth 100000 in
theorem atom_calls (hn:ws.length≤1000000) (hz:∀ u ∈ ws,u.size≤1048576) (hr:Meth 76 W0 g ws (d - 1)):Meth 85 W0 g ws d:=by
 intro p out W h ho hd;have hu:=Try.underlying92;have HO:=aMM ho;have HD:=aMM hd;have H0:=aMM h.bd;have HZ:=aMM hz;clear hz;go_enter Try.func85,Try.ntmps85
 go_wp2_with fail
 refine (take_calls h hn _).mono ?_;rintro e wa ⟨b,rfl,hb,_⟩;clear h ho hd
 rcases hb with ⟨rfl,hP⟩|⟨rfl,hp,hP⟩
 ·have h':=hP.drew
  have HP:=aMM h';obtain ⟨A,c,e0,hC⟩:=h'.cell0;have e1:=h'.cell1;have HC:=aMM hC
  by_cases hp:p=ws.length
  ·have d1:decide (p=(ws.length:Int))=true:=decide_eq_true hp
   have d2:(p == (ws.length:Int))=true:=beq_iff_eq.mpr hp;clear hP h' hC hp
   go_wp2
   refine start_ (n:=10) (S:=fun w'=>w'.cell? ⟨g,1,none⟩=some (.int .i64 p)∧w'.cell? ⟨g,0,none⟩=some (.slice A ws.length c)) (ds:=[]) #[false,false,false,false,false,false,false,false,false,false] (by kernel_rfl) rfl rfl ⟨e1,e0⟩ (fun hHeld=>?_);refine with_tabW spec_ruState_atom_tab3 spec_ruState_atom_bits3 (fun HT_ HW_=>?_);generalize wa.drew=wb at HP HC e0 e1 hHeld ⊢;refine wp_in [(0,15,1,0),(1,16,3,0),(2,17,7,0),(4,19,23,0),(5,20,55,0),(6,21,119,0),(3,18,127,1),(7,22,255,1),(8,23,511,0),(9,24,1023,0)] 10 ?_
   iterate 10 (first|(refine pn_ (oi:=?_) (v:=?_) (a':=?_) HT_.out ?_ ?_ ?_ ?_ ?_ ?_ ?_ ?_;rotate_left 3;rfl;rfl;kernel_rfl;exact fun _ _ _ h=>h;rfl;intro w';go_simp;with_reducible rfl;simp only [Act.put,uAM,List.set_cons_zero,List.set_cons_succ,i64_w,i32_w];rfl)|(refine tn_ (oi:=?_) (v:=?_) (a':=?_) HT_.out HW_.out hHeld ?_ ?_ ?_ ?_ ?_ ?_ ?_ ?_;rotate_left 3;rfl;rfl;kernel_rfl;exact fun _ _ _ h=>h;rfl;rintro w' ⟨s0,s1⟩;go_simp;with_reducible rfl;simp only [Act.put,uAM,List.set_cons_zero,List.set_cons_succ,i64_w,i32_w];rfl))
   refine wp_out ?_;refine done_ (done_of HT_.out (by kernel_rfl)) ?_
   try go_wp2
   go_ret
   exact ⟨false,p,out,rfl,by omega,by omega,HP.out⟩
  ·have hlt:p < ws.length:=by have:=H0.out;omega
   have HLT:=aMM hlt;have d1:decide (p=(ws.length:Int))=false:=decide_eq_false hp;have d2:(p == (ws.length:Int))=false:=beq_eq_false_iff_ne.mpr hp;obtain ⟨ad,ea,_⟩:=Kd.at_string hC p H0.out.1 hlt
   cases ea
   clear hP h' hC hp hlt
   go_wp2
   refine start_ (n:=10) (S:=fun w'=>w'.cell? ⟨g,1,none⟩=some (.int .i64 p)∧w'.cell? ⟨g,0,none⟩=some (.slice (some ad) ws.length c)) (ds:=[]) #[false,false,false,false,false,false,false,false,false,false] (by kernel_rfl) rfl rfl ⟨e1,e0⟩ (fun hHeld=>?_);refine with_tabW spec_ruState_atom_tab3 spec_ruState_atom_bits3 (fun HT_ HW_=>?_);generalize wa.drew=wb at HP HC e0 e1 hHeld ⊢;refine wp_in [(0,15,1,0),(1,16,3,0),(2,17,7,0),(4,19,23,0),(5,20,55,0),(6,21,119,0),(3,18,127,1),(7,22,255,1),(8,23,511,0),(9,24,1023,0)] 10 ?_
   iterate 10 (first|(refine pn_ (oi:=?_) (v:=?_) (a':=?_) HT_.out ?_ ?_ ?_ ?_ ?_ ?_ ?_ ?_;rotate_left 3;rfl;rfl;kernel_rfl;exact fun _ _ _ h=>h;rfl;intro w';go_simp;with_reducible rfl;simp only [Act.put,uAM,List.set_cons_zero,List.set_cons_succ,i64_w,i32_w];rfl)|(refine tn_ (oi:=?_) (v:=?_) (a':=?_) HT_.out HW_.out hHeld ?_ ?_ ?_ ?_ ?_ ?_ ?_ ?_;rotate_left 3;rfl;rfl;kernel_rfl;exact fun _ _ _ h=>h;rfl;rintro w' ⟨s0,s1⟩;go_simp;with_reducible rfl;simp only [Act.put,uAM,List.set_cons_zero,List.set_cons_succ,i64_w,i32_w];rfl))
   refine wp_out ?_;refine done_ (done_of HT_.out (by kernel_rfl)) ?_;clear e0 e1 HC
   go_wp2_with fail
   refine (spec_ruFields.calls _ _ rfl).mono ?_;rintro e wc ⟨v,rfl,ho,hb⟩;have n0_:=aMM (HP.out.below hb);clear HP;have HP:=n0_;clear n0_;obtain ⟨nm,enm⟩:∃ l:List ByteArray,l=[⟨#[116,111,110,110,101,115]⟩,⟨#[103,114,97,100,101]⟩,⟨#[114,111,99,107]⟩,⟨#[108,101,118,101,108]⟩,⟨#[109,101,116,97,108]⟩]:=⟨_,rfl⟩
   replace ho:Kd.R Kd.string 9 wc wb.heap.size (fun _=>True) v nm:=by rw [enm];exact ho
   have hnl:nm.length=5:=by rw [enm];rfl
   obtain ⟨Av,cv,rfl⟩:=Kd.R_slice ho;have HNL:=aMM hnl
   have HV:Aside0 (Kd.R Kd.string 9 wc wb.heap.size (fun k=>k≠g) (.slice Av nm.length cv) nm):=⟨by
    obtain ⟨A1,c1,A2,c2,hK,_⟩:=HP.out
    exact Kd.R_mono (Kd.R_types ho hK (by decide)) (fun _ hk=>hk.2)⟩
   clear ho hb enm hnl
   go_wp2_with fail
   go_loopg [27] (nm.length) (fun k v27 wr=>∃ i:Int,v27=.int .i64 i∧Aside0 (0≤i∧i + k=nm.length)∧Aside0 (PS W0 g ws p out wr)∧Aside0 (Kd.R Kd.string 9 wr wb.heap.size (fun k=>k≠g) (.slice Av nm.length cv) nm))
   case atStart=>exact ⟨0,rfl,⟨by omega⟩,HP,HV⟩
   case round =>
    clear HP HV;obtain ⟨i,rfl,HI,HP,HV⟩:=hrel
    cases gk with
    | zero =>
     have hd3:decide (i < (nm.length:Int))=false:=decide_eq_false (by have:=HI.out;omega);have h':=HP.out.drew;obtain ⟨A2,c2,e0,hC⟩:=h'.cell0;have e1:=h'.cell1;have h00:=H0.out.1;have hlt:=HLT.out;obtain ⟨ax,ea,hx⟩:=Kd.at_string hC p h00 hlt
     cases ea
     obtain ⟨y,ey⟩:∃ y,y=rdOf ByteArray.empty ws p:=⟨_,rfl⟩;rw [← ey] at hx;have HY:Aside0 (y.size≤1048576):=⟨by rw [ey];unfold rdOf;exact HZ.out _ (getD_mem (by omega))⟩;have HPd:=aMM h';have q0:=eq_true h00;have q1:=eq_true hlt;clear h' hC ey HP HV h00 hlt
     go_wp2
     refine start_ (n:=11) (S:=fun w'=>w'.cell? ⟨g,1,none⟩=some (.int .i64 p)∧w'.cell? ⟨g,0,none⟩=some (.slice (some ax) ws.length c2)∧w'.cell? (ax.add p.toNat)=some (.string y)) (ds:=[]) #[false,false,false,false,false,false,false,false,false,false,false] (by kernel_rfl) rfl rfl ⟨e1,e0,hx⟩ (fun hHeld=>?_);refine with_tabW spec_ruState_atom_tab13 spec_ruState_atom_bits13 (fun HT_ HW_=>?_);generalize wr.drew=wd at HPd e0 e1 hx hHeld ⊢;refine wp_in [(0,39,1,0),(1,40,3,0),(2,41,7,0),(4,43,23,0),(5,44,55,0),(6,45,119,0),(3,42,127,1),(7,46,255,1),(8,47,511,0),(9,48,1023,1),(10,6,2047,0)] 11 ?_
     iterate 11 (first|(refine pn_ (oi:=?_) (v:=?_) (a':=?_) HT_.out ?_ ?_ ?_ ?_ ?_ ?_ ?_ ?_;rotate_left 3;rfl;rfl;kernel_rfl;exact fun _ _ _ h=>h;rfl;intro w';go_simp;with_reducible rfl;simp only [Act.put,uAM,List.set_cons_zero,List.set_cons_succ,i64_w,i32_w];rfl)|(refine tn_ (oi:=?_) (v:=?_) (a':=?_) HT_.out HW_.out hHeld ?_ ?_ ?_ ?_ ?_ ?_ ?_ ?_;rotate_left 3;rfl;rfl;kernel_rfl;exact fun _ _ _ h=>h;rfl;rintro w' ⟨s0,s1,s2⟩;go_simp;with_reducible rfl;simp only [Act.put,uAM,List.set_cons_zero,List.set_cons_succ,i64_w,i32_w];rfl))
     refine wp_out ?_;refine done_ (done_of HT_.out (by kernel_rfl)) ?_;clear e0 e1 hx q0 q1
     by_cases hc:y.toList=([49,48,48,48,48,48,48]:List UInt8)
     ·have c1:(y.toList == ([49,48,48,48,48,48,48]:List UInt8))=true:=beq_iff_eq.mpr hc
      have e1:=HPd.out.cell1;have hf:=HPd.out.frozen 1;have hw:=w1 H0.out.1 HLT.out hn;clear hc
      go_wp2_with fail
      refine (add_calls (HPd.out.step HLT.out) (by have:=HO.out;have:=H0.out;omega) _ _).mono ?_;rintro e we ⟨rfl,hP3⟩;have HP3:=aMM hP3;clear hP3 e1 hf hw
      go_wp2
      go_ret
      exact ⟨true,p + 1,_,rfl,by omega,by rw [List.length_append,List.length_singleton];omega,HP3.out⟩
     ·have c1:(y.toList == ([49,48,48,48,48,48,48]:List UInt8))=false:=beq_eq_false_iff_ne.mpr hc
      obtain ⟨kr,hkr⟩:=(read_ev y HY.out).rounds;obtain ⟨n,en⟩:∃ n,n=rdS y.data.toList:=⟨_,rfl⟩;rw [← en] at hkr;clear hc en
      go_wp2_with fail
      refine (spec_l1Read.calls kr y n wd hkr).mono ?_;rintro e we hq;obtain ⟨rfl,hb⟩:=hq;have n0_:=aMM (HPd.out.below (by first|exact hb|exact hb.below));clear HPd;have HPd:=n0_;clear n0_ hb hkr
      by_cases hneg:n < 0
      ·have d3:decide (n < 0)=true:=decide_eq_true hneg
       clear hneg
       go_wp2
       go_ret
       exact ⟨false,p,out,rfl,by omega,by omega,HPd.out⟩
      ·have d3:decide (n < 0)=false:=decide_eq_false hneg
       have e1:=HPd.out.cell1;have hf:=HPd.out.frozen 1;have hw:=w1 H0.out.1 HLT.out hn;clear hneg
       go_wp2_with fail
       refine (add_calls (HPd.out.step HLT.out) (by have:=HO.out;have:=H0.out;omega) _ _).mono ?_;rintro e wf ⟨rfl,hP3⟩;have HP3:=aMM hP3;clear hP3 e1 hf hw
       go_wp2
       go_ret
       exact ⟨true,p + 1,_,rfl,by omega,by rw [List.length_append,List.length_singleton];omega,HP3.out⟩
    | succ k =>
     have hlt2:i < (nm.length:Int):=by have:=HI.out;omega
     have hd3:decide (i < (nm.length:Int))=true:=decide_eq_true hlt2;have hi0:=HI.out.1;obtain ⟨av,e0,hx⟩:=Kd.at_string (Kd.R_reads' HV.out).2.2 i hi0 hlt2
     cases e0
     obtain ⟨x,ex⟩:∃ x,x=rdOf ByteArray.empty nm i:=⟨_,rfl⟩;rw [← ex] at hx;have q0:=eq_true hi0;have q1:=eq_true hlt2;clear ex
     go_wp2_with fail
     refine (take_calls HP.out hn x).mono ?_;rintro e we ⟨b2,rfl,hb2,hkb⟩;have n0_:=aMM (Kd.R_keep HV.out hkb (fun _ hk=>hk));clear HV hkb HP hx;have HV:=n0_;clear n0_
     rcases hb2 with ⟨rfl,hP2⟩|⟨rfl,hp2,hP2⟩
     ·have HP:=aMM hP2
      have hw2:wrap64 (i + 1)=i + 1:=w64 (by omega) (by have:=HNL.out;omega);have hw3:IntKind.i64.wrap (i + 1)=i + 1:=(i64_w _).trans hw2;clear hP2
      go_wp2
      go_roundg k
      case measure=>omega
      case rel=>exact ⟨i + 1,(zRuM_2),⟨by have:=HI.out;omega⟩,HP,HV⟩
     ·have HP:=aMM hP2
      clear hP2 q0 q1 hlt2 hi0
      go_wp2_with fail
      refine (add_calls HP.out (by have:=HO.out;have:=H0.out;omega) _ _).mono ?_;rintro e wf ⟨rfl,hP3⟩;have HP3:=aMM hP3;clear hP3
      go_wp2
      go_ret
      exact ⟨true,p + 1,_,rfl,by omega,by rw [List.length_append,List.length_singleton];omega,HP3.out⟩
 ·have HP:=aMM hP
  have HLT:=aMM hp;clear hP hp
  go_wp2_with fail
  refine (hr (p + 1) out wa HP.out (by have:=HO.out;omega) (by have:=HD.out;omega)).mono ?_;rintro e wb ⟨b2,p2,out2,rfl,hle,hga,hP2⟩;have HP2:=aMM hP2;have HL:Aside0 (p + 1≤p2∧(out2.length:Int) + (p + 1)≤out.length + p2):=⟨hle,hga⟩;clear hP2 hle hga HP
  cases b2 with
  | false =>
   go_wp2
   go_ret
   exact ⟨false,p2,out2,rfl,by have:=HL.out;omega,by have:=HL.out;omega,HP2.out⟩
  | true =>
   go_wp2_with fail
   refine (take_calls HP2.out hn _).mono ?_;rintro e wc ⟨b3,rfl,hb3,_⟩
   rcases hb3 with ⟨rfl,hP3⟩|⟨rfl,hp3,hP3⟩
   ·have HP3:=aMM hP3
    clear hP3
    go_wp2
    go_ret
    exact ⟨false,p2,out2,rfl,by have:=HL.out;omega,by have:=HL.out;omega,HP3.out⟩
   ·have HP3:=aMM hP3
    clear hP3
    go_wp2
    go_ret
    exact ⟨true,p2 + 1,out2,rfl,by have:=HL.out;omega,by have:=HL.out;omega,HP3.out⟩
set_option maxHeartbeats 16000000 in
set_option maxRecDepth 100000 in
theorem rule_calls (hn:ws.length≤1000000) (hr:Meth 76 W0 g ws (d - 1)) (hs:Meth 80 W0 g ws d):Meth 76 W0 g ws d:=by
 intro p out W h ho hd;have hu:=Try.underlying92;have HO:=aMM ho;have HD:=aMM hd;have H0:=aMM h.bd;go_enter Try.func76,Try.ntmps76
 go_wp2_with fail
 refine (take_calls h hn _).mono ?_;rintro e wa ⟨b,rfl,hb,_⟩;clear h
 rcases hb with ⟨rfl,hP⟩|⟨rfl,hp,hP⟩
 ·have HP:=aMM hP
  clear hP
  go_wp2_with fail
  refine (hs p out wa HP.out HO.out HD.out).mono ?_;rintro e wb ⟨b2,p2,out2,rfl,hle,hga,hP2⟩;have HP2:=aMM hP2;clear hP2
  go_wp2
  go_ret
  exact ⟨b2,p2,out2,rfl,hle,hga,HP2.out⟩
 ·have HP:=aMM hP
  have HLT:=aMM hp;clear hP hp ho hd
  go_wp2_with fail
  refine (hs (p + 1) out wa HP.out (by have:=HO.out;omega) (by have:=HD.out;omega)).mono ?_;rintro e wb ⟨b2,p2,out2,rfl,hle,hga,hP2⟩;have HP2:=aMM hP2;have HL:Aside0 (p + 1≤p2∧(out2.length:Int) + (p + 1)≤out.length + p2):=⟨hle,hga⟩;clear hP2 hle hga HP
  cases b2 with
  | false =>
   go_wp2
   go_ret
   exact ⟨false,p2,out2,rfl,by have:=HL.out;omega,by have:=HL.out;omega,HP2.out⟩
  | true =>
   go_wp2_with (first|((with_reducible refine gate_dst (N:=14) rfl ?_);refine Kd.R_lit Kd.string _ 9 ?hg (N:=14) ?hd (xs:=([⟨#[60]⟩,⟨#[61]⟩,⟨#[62]⟩]:List ByteArray)) (inner:=[.string ⟨#[60]⟩,.string ⟨#[61]⟩,.string ⟨#[62]⟩]) (ok:=fun _=>True) (okp:=fun _=>True) ?hr ?hp (fun _ hk=>hk) trivial (Below.refl _ _) (Nat.le_refl _) (by simp) ?_;(case hd=>rfl);(case hg=>rfl);(case hr=>first|(go_simp;done)|(go_simp;rfl));(case hp=>exact (Reps.one (show Kd.M Kd.string _ _ _ (⟨#[60]⟩:ByteArray) [.string ⟨#[60]⟩] from rfl) (Reps.one (show Kd.M Kd.string _ _ _ (⟨#[61]⟩:ByteArray) [.string ⟨#[61]⟩] from rfl) (Reps.one (show Kd.M Kd.string _ _ _ (⟨#[62]⟩:ByteArray) [.string ⟨#[62]⟩] from rfl) (Reps.none _ _)))));intro vs w3 ho hb hg_ hnew_;clear hg_ hnew_;have n0_:=aMM (HP2.out.below hb);clear HP2;have HP2:=n0_;clear n0_;obtain ⟨Av,cv,ev⟩:=Kd.R_slice ho;replace ev:vs=.slice Av 3 cv:=ev;subst ev;have HV:Aside0 (Kd.R Kd.string 9 w3 wb.heap.size (fun k=>k≠g) (.slice Av 3 cv) [⟨#[60]⟩,⟨#[61]⟩,⟨#[62]⟩]):=⟨by obtain ⟨A1,c1,A2,c2,hK,_⟩:=HP2.out;exact Kd.R_mono (Kd.R_types ho hK (by decide)) (fun _ hk=>hk.2)⟩;clear ho hb))
   obtain ⟨nm,enm⟩:∃ l:List ByteArray,l=[⟨#[60]⟩,⟨#[61]⟩,⟨#[62]⟩]:=⟨_,rfl⟩;rw [← enm] at HV;have HNL:Aside0 (nm.length=3):=⟨by rw [enm];rfl⟩;clear enm
   go_loopg [3,16] 3 (fun k v3 v16 wr=>∃ (kd i q:Int),v3=.int .i64 kd∧v16=.int .i64 i∧Aside0 (0≤i∧i + k=3)∧Aside0 (p2≤q)∧Aside0 (PS W0 g ws q out2 wr)∧Aside0 (Kd.R Kd.string 9 wr wb.heap.size (fun k=>k≠g) (.slice Av 3 cv) nm))
   case atStart=>exact ⟨-1,0,p2,rfl,rfl,⟨by omega⟩,⟨by omega⟩,HP2,HV⟩
   case round =>
    clear HP2 HV;obtain ⟨kd,i,q,rfl,rfl,HI,HQ,HP,HV⟩:=hrel
    cases gk with
    | zero =>
     have hd3:decide (i < 3)=false:=decide_eq_false (by have:=HI.out;omega);clear HV
     by_cases hk:kd < 0
     ·have d4:decide (kd < 0)=true:=decide_eq_true hk
      clear hk
      go_wp2
      go_ret
      exact ⟨false,q,out2,rfl,by have:=HL.out;have:=HQ.out;omega,by have:=HL.out;have:=HQ.out;omega,HP.out⟩
     ·have d4:decide (kd < 0)=false:=decide_eq_false hk
      clear hk
      go_wp2_with fail
      refine (hs q out2 _ HP.out (by have:=HL.out;have:=HQ.out;have:=HO.out;have:=HD.out;omega) (by have:=HL.out;have:=HQ.out;have:=HO.out;have:=HD.out;omega)).mono ?_;rintro e wm1 ⟨bm1,q1,o1,rfl,hle,hga,hP⟩;clear HP;have HP:=aMM hP;have L1:Aside0 (q≤q1∧(o1.length:Int) + q≤out2.length + q1):=⟨hle,hga⟩;clear hP hle hga
      cases bm1 with
      | false =>
       go_wp2
       go_ret
       exact ⟨false,q1,o1,rfl,zRuM_3,zRuM_3,HP.out⟩
      | true =>
       go_wp2_with fail
       refine (take_calls HP.out hn _).mono ?_;rintro e wt2 ⟨bt2,rfl,ht2,_⟩;clear HP
       rcases ht2 with ⟨rfl,hP⟩|⟨rfl,_,hP⟩
       ·have HP:=aMM hP
        clear hP
        go_wp2
        go_ret
        exact ⟨false,q1,o1,rfl,zRuM_3,zRuM_3,HP.out⟩
       ·have HP:=aMM hP
        clear hP
        go_wp2_with fail
        refine (hr (q1 + 1) o1 _ HP.out (zRuM_3) (zRuM_3)).mono ?_;rintro e wm3 ⟨bm3,q3,o3,rfl,hle,hga,hP⟩;clear HP;have HP:=aMM hP;have L3:Aside0 ((q1 + 1)≤q3∧(o3.length:Int) + (q1 + 1)≤o1.length + q3):=⟨hle,hga⟩;clear hP hle hga
        cases bm3 with
        | false =>
         go_wp2
         go_ret
         exact ⟨false,q3,o3,rfl,zRuM_4,zRuM_4,HP.out⟩
        | true =>
         go_wp2_with fail
         refine (take_calls HP.out hn _).mono ?_;rintro e wt4 ⟨bt4,rfl,ht4,_⟩;clear HP
         rcases ht4 with ⟨rfl,hP⟩|⟨rfl,_,hP⟩
         ·have HP:=aMM hP
          clear hP
          go_wp2
          go_ret
          exact ⟨false,q3,o3,rfl,zRuM_4,zRuM_4,HP.out⟩
         ·have HP:=aMM hP
          clear hP
          go_wp2_with fail
          refine (hr (q3 + 1) o3 _ HP.out (zRuM_4) (zRuM_4)).mono ?_;rintro e wm5 ⟨bm5,q5,o5,rfl,hle,hga,hP⟩;clear HP;have HP:=aMM hP;have L5:Aside0 ((q3 + 1)≤q5∧(o5.length:Int) + (q3 + 1)≤o3.length + q5):=⟨hle,hga⟩;clear hP hle hga
          cases bm5 with
          | false =>
           go_wp2
           go_ret
           exact ⟨false,q5,o5,rfl,zRuM_5,zRuM_5,HP.out⟩
          | true =>
           go_wp2_with fail
           refine (add_calls HP.out (by have:=HP.out.bd;have:=HL.out;have:=HQ.out;have:=HO.out;have:=HD.out;have:=L1.out;have:=L3.out;have:=L5.out;omega) _ _).mono ?_;rintro e wz ⟨rfl,hP⟩;have HP3:=aMM hP;clear hP
           go_wp2
           go_ret
           exact ⟨true,q5,_,rfl,zRuM_5,by rw [List.length_append,List.length_singleton];have:=HL.out;have:=HQ.out;have:=HO.out;have:=HD.out;have:=L1.out;have:=L3.out;have:=L5.out;omega,HP3.out⟩
    | succ k =>
     have hlt2:i < 3:=by have:=HI.out;omega
     have hd3:decide (i < 3)=true:=decide_eq_true hlt2;have hi0:=HI.out.1;obtain ⟨av,e0,hx⟩:=Kd.at_string (Kd.R_reads' HV.out).2.2 i hi0 (by have:=HNL.out;omega)
     cases e0
     obtain ⟨x,ex⟩:∃ x,x=rdOf ByteArray.empty nm i:=⟨_,rfl⟩;rw [← ex] at hx;have q0:=eq_true hi0;have q1:=eq_true hlt2;have hw2:wrap64 (i + 1)=i + 1:=w64 (by omega) (by omega);have hw3:IntKind.i64.wrap (i + 1)=i + 1:=(i64_w _).trans hw2;clear ex
     by_cases hk:kd < 0
     ·have d4:decide (kd < 0)=true:=decide_eq_true hk
      clear hk
      go_wp2_with fail
      refine (take_calls HP.out hn x).mono ?_;rintro e we ⟨b2,rfl,hb2,hkb⟩;have n0_:=aMM (Kd.R_keep HV.out hkb (fun _ hk=>hk));clear HV hkb HP hx;have HV:=n0_;clear n0_
      rcases hb2 with ⟨rfl,hP2⟩|⟨rfl,hp2,hP2⟩
      ·have HP:=aMM hP2
       clear hP2
       go_wp2
       go_roundg k
       case measure=>omega
       case rel=>exact ⟨kd,i + 1,q,(zRuM_2),(zRuM_2),⟨by have:=HI.out;omega⟩,HQ,HP,HV⟩
      ·have HP:=aMM hP2
       clear hP2
       go_wp2
       go_roundg k
       case measure=>omega
       case rel=>exact ⟨_,i + 1,q + 1,rfl,(zRuM_2),⟨by have:=HI.out;omega⟩,⟨by have:=HQ.out;omega⟩,HP,HV⟩
     ·have d4:decide (kd < 0)=false:=decide_eq_false hk
      clear hk
      go_wp2
      go_roundg k
      case measure=>omega
      case rel=>exact ⟨kd,i + 1,q,(zRuM_2),(zRuM_2),⟨by have:=HI.out;omega⟩,HQ,HP,HV⟩
theorem all_rule (hn:ws.length≤1000000) (hz:∀ u ∈ ws,u.size≤1048576):∀ n:Nat,Meth 76 W0 g ws (n:Int)
 | 0=>rule_calls hn (fun p out W h _ hd=>by have:=h.bd;omega) (sum_calls hn (product_calls hn (atom_calls hn hz (fun p out W h _ hd=>by have:=h.bd;omega))))
 | n + 1=>by
  have ih:=all_rule hn hz n
  have e:(((n + 1:Nat):Int) - 1)=(n:Int):=by omega
  exact rule_calls hn (by rw [e];exact ih) (sum_calls hn (product_calls hn (atom_calls hn hz (by rw [e];exact ih))))
end
end Go.Proofs.Ytahhiedlkegkgaa.OwnRuM
