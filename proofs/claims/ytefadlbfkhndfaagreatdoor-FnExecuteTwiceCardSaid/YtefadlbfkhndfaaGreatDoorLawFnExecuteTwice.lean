/-
  The walk of the law FnExecuteTwice.
-/
import Derived.Test.YtefadlbfkhndfaaGreatDoorPlainE
import Derived.Test.YtefadlbfkhndfaaGreatDoorLastL
import Derived.Test.YtefadlbfkhndfaaGreatDoorSpecExec
import Derived.Test.YtefadlbfkhndfaaGreatDoorDrawExec
import Derived.Test.YtefadlbfkhndfaaGreatDoorGC
import Derived.Test.YtefadlbfkhndfaaGreatDoorGA
import Derived.BigQuiet
namespace Go.Proofs.YtefadlbfkhndfaaGreatDoor
open Go.RowKit
set_option linter.unusedSimpArgs false
set_option linter.unusedVariables false

set_option maxRecDepth 100000 in
set_option maxHeartbeats 4000000 in
theorem walk_FnExecuteTwice (w : World) (A : Option Addr) (n c : Nat) (l : List Int) (h : Arr BB 1 w w.heap.size A n l) (hby : ∀ x ∈ l, 0 ≤ x ∧ x ≤ 255) (hc : n ≤ c) (hT : Tab w) (hE : Errs w) :
    Calls Tryz.prog 7 #[.slice A n c] w fun e w' => e = .returned (.bool true) ∧ Below w.heap.size w w' := by
  have C := Lib.hid (DrawExecute_any A n c l w h hby hc)
  have HT := Lib.hid hT
  have HE := Lib.hid hE
  clear hby h hT hE
  by_cases hb : 1048576 < n
  · go_enter Tryz.func7, Tryz.ntmps7
    go_wp2_with fail
    go_ret
    exact ⟨rfl, Below.refl _ _⟩
  go_enter Tryz.func7, Tryz.ntmps7
  go_wp2_with fail
  refine C.out.mono ?_
  rintro e w1 ⟨S, rfl, hS, b1⟩
  clear C
  obtain ⟨t, hSt⟩ : ∃ t, S = tx t := ⟨S.data.toList, by cases S; rfl⟩
  have hz := tx_size t
  rw [← hSt] at hz
  have KS0 := fun W => specExecute_all t (by omega) W
  have KI0 := fun W hT hE => implExecute_all t (by omega) W hT hE
  have KC0 := fun W => complete_any t (by omega) W
  rw [← hSt] at KS0 KI0 KC0
  obtain ⟨R, hR⟩ : ∃ R, R = tx (execT t) := ⟨_, rfl⟩
  rw [← hR] at KS0 KI0
  have KS := Lib.hid KS0
  have KI := Lib.hid KI0
  have KC := Lib.hid KC0
  have HR := Lib.hid hR
  have HZ := Lib.hid hz
  have HS := Lib.hid hS
  have HB1 := Lib.hid b1
  clear KS0 KI0 KC0 hR hSt hz hS
  go_wp2_with fail
  refine (KI.out w1 (HT.out.below b1 (Nat.le_refl _)) (HE.out.below b1 (Nat.le_refl _))).mono ?_
  rintro e w2 ⟨rfl, b2⟩
  have B2 := Lib.hid (b1.trans (b2.mono b1.size))
  go_wp2_with fail
  refine (KS.out w2).mono ?_
  rintro e w3 ⟨rfl, b3⟩
  have B3 := Lib.hid (B2.out.trans (b3.mono B2.out.size))
  have HT3 := Lib.hid (HT.out.below B3.out (Nat.le_refl _))
  have HE3 := Lib.hid (HE.out.below B3.out (Nat.le_refl _))
  clear b1 b2 b3 KS KI
  go_wp2_with fail
  refine (KC.out w3).mono ?_
  rintro e w' ⟨r, rfl, hr, rfl⟩
  have hzr := tx_size r
  obtain ⟨RR, hRR⟩ : ∃ V, V = tx r := ⟨_, rfl⟩
  rw [← hRR] at hzr ⊢
  have HRR := Lib.hid hRR
  clear hRR
  by_cases hbig : 490 < r.length
  · have f0 : (490 : Int) < (RR.size : Int) := by omega
    go_wp2_with fail
    go_ret
    exact ⟨rfl, B3.out⟩
  have f0 : ¬ ((490 : Int) < (RR.size : Int)) := by omega
  obtain ⟨o, e, s, hsaid⟩ := said hr.1 (by omega)
  have ol := hsaid.ol
  have el := hsaid.el
  have hrl : r.length ≤ 490 := by omega
  obtain ⟨Aa, hAa⟩ : ∃ V, V = tx (execT r) := ⟨_, rfl⟩
  obtain ⟨E, hEe⟩ : ∃ V, V = tx e := ⟨_, rfl⟩
  obtain ⟨O, hO⟩ : ∃ V, V = tx o := ⟨_, rfl⟩
  obtain ⟨p, hp⟩ : ∃ p : Nat, p = o.length := ⟨_, rfl⟩
  have za : (Aa.size : Int) - (E.size : Int) = (p : Int) := by rw [hAa, hEe, tx_size, tx_size, hsaid.ans, List.length_append]; omega
  have zb : (p : Int) ≤ (Aa.size : Int) := by rw [hAa, tx_size, hsaid.ans, List.length_append]; omega
  have zA : Aa.size ≤ 700000 := by rw [hAa, tx_size, hsaid.ans, List.length_append]; omega
  have zE : E.size ≤ 40 := by rw [hEe, tx_size]; omega
  have p0 : (0 : Int) ≤ (p : Int) := by omega
  have zx : Aa.extract 0 p = O := by rw [hAa, txdx, hO, hsaid.ans, hp]; simp
  have KA0 := fun W hT hE => implExecute_all r (by omega) W hT hE
  have KL0 := fun W => lastLine_any (execT r) e hsaid.last (by rw [hsaid.ans, List.length_append]; omega) W
  rw [← HRR.out, ← hAa] at KA0
  rw [← hAa, ← hEe] at KL0
  have hadd := hsaid.add wCore (coreT s.core) (by decide) (by simp [wCore]; omega) (line_core1 s)
  have hadd2 := hsaid.add2 wCore (coreT s.core) (by decide) (by simp [wCore]; omega) (line_core1 s)
  have hm := coreT_len s.core
  obtain ⟨m, hmm⟩ : ∃ m, m = coreT s.core ++ [10] := ⟨_, rfl⟩
  have hml : m.length ≤ 281 := by rw [hmm]; simp; omega
  rw [← hmm] at hadd hadd2
  obtain ⟨q, hq⟩ : ∃ q : Nat, q = o.length + m.length := ⟨_, rfl⟩
  obtain ⟨M1, hM1⟩ : ∃ V, V = tx (r ++ (wCore ++ [10])) := ⟨_, rfl⟩
  have MA1 : ∀ W : World, (Op.stringOp .add RR (ByteArray.mk #[99, 111, 114, 101, 10])).run Tryz.prog W = .ok (.string M1) W := by rw [HRR.out, hM1]; exact add_tx _ [99, 111, 114, 101, 10] _ (by simp [wCore]) (by simp [wCore]; omega)
  obtain ⟨M2, hM2⟩ : ∃ V, V = tx (r ++ (wCore ++ 10 :: (wCore ++ [10]))) := ⟨_, rfl⟩
  have MA2 : ∀ W : World, (Op.stringOp .add RR (ByteArray.mk #[99, 111, 114, 101, 10, 99, 111, 114, 101, 10])).run Tryz.prog W = .ok (.string M2) W := by rw [HRR.out, hM2]; exact add_tx _ [99, 111, 114, 101, 10, 99, 111, 114, 101, 10] _ (by simp [wCore]) (by simp [wCore]; omega)
  obtain ⟨Bb, hBb⟩ : ∃ V, V = tx (o ++ m ++ e) := ⟨_, rfl⟩
  obtain ⟨One, hOne⟩ : ∃ V, V = tx m := ⟨_, rfl⟩
  obtain ⟨O1, hO1⟩ : ∃ V, V = tx (o ++ m) := ⟨_, rfl⟩
  obtain ⟨O2, hO2⟩ : ∃ V, V = tx (o ++ m ++ m) := ⟨_, rfl⟩
  obtain ⟨O3, hO3⟩ : ∃ V, V = tx (o ++ m ++ m ++ e) := ⟨_, rfl⟩
  have MA3 : ∀ W : World, (Op.stringOp .add O One).run Tryz.prog W = .ok (.string O1) W := by rw [hO, hOne, hO1]; exact add_tx _ m _ rfl (by simp; omega)
  have MA4 : ∀ W : World, (Op.stringOp .add O1 One).run Tryz.prog W = .ok (.string O2) W := by rw [hO1, hOne, hO2]; exact add_tx _ m _ rfl (by simp; omega)
  have MA5 : ∀ W : World, (Op.stringOp .add O2 E).run Tryz.prog W = .ok (.string O3) W := by rw [hO2, hEe, hO3]; exact add_tx _ e _ rfl (by simp; omega)
  have yb : (Bb.size : Int) - (E.size : Int) = (q : Int) := by rw [hBb, hEe, tx_size, tx_size, List.length_append, List.length_append]; omega
  have yc : (q : Int) ≤ (Bb.size : Int) := by rw [hBb, tx_size, List.length_append, List.length_append]; omega
  have yd : (p : Int) ≤ (q : Int) := by omega
  have yB : Bb.size ≤ 700000 := by rw [hBb, tx_size, List.length_append, List.length_append]; omega
  have yx : Bb.extract p q = One := by rw [hBb, txdx, hOne, hp, hq]; simp
  have KB0 := fun W hT hE => implExecute_all (r ++ (wCore ++ [10])) (by simp [wCore]; omega) W hT hE
  have KD0 := fun W hT hE => implExecute_all (r ++ (wCore ++ 10 :: (wCore ++ [10]))) (by simp [wCore]; omega) W hT hE
  rw [hadd, ← hM1, ← hBb] at KB0
  rw [hadd2, ← hM2, ← hO3] at KD0
  have KA := Lib.hid KA0
  have KL := Lib.hid KL0
  have KB := Lib.hid KB0
  have KD := Lib.hid KD0
  clear KA0 KL0 KB0 KD0 hadd hadd2 hsaid hM1 hM2 hO1 hO2 hO3 hOne hBb hO hEe hAa hp hq ol el hr KC HR HZ HS hmm hml hm
  go_wp2_with fail
  refine (KA.out w3 HT3.out HE3.out).mono ?_
  rintro e4 w4 ⟨rfl, b4⟩
  have B4 := Lib.hid (B3.out.trans (b4.mono B3.out.size))
  have HT4 := Lib.hid (HT.out.below B4.out (Nat.le_refl _))
  have HE4 := Lib.hid (HE.out.below B4.out (Nat.le_refl _))
  clear b4
  go_wp2_with fail
  refine (KL.out w4).mono ?_
  rintro e5 w5 ⟨rfl, rfl⟩
  go_wp2_with fail
  refine (KB.out w4 HT4.out HE4.out).mono ?_
  rintro e5 w5 ⟨rfl, b5⟩
  have B5 := Lib.hid (B4.out.trans (b5.mono B4.out.size))
  have HT5 := Lib.hid (HT.out.below B5.out (Nat.le_refl _))
  have HE5 := Lib.hid (HE.out.below B5.out (Nat.le_refl _))
  clear b5
  go_wp2_with fail
  have KDu := Lib.hid (fun u : Later w5.heap.size w5 => KD.out u.1 (HT5.out.below u.2 (Nat.le_refl _)) (HE5.out.below u.2 (Nat.le_refl _)))
  have zs1 : IntKind.i64.wrap ((Aa.size : Int) - (E.size : Int)) = (p : Int) := by rw [za]; exact IntWalk.i64_in _ (by omega)
  have zs2 : wrap64 ((Aa.size : Int) - (E.size : Int)) = (p : Int) := by rw [za]; unfold wrap64; omega
  clear HT5 HE5 HT4 HE4 KB KD KA KL B3 HT3 HE3 yb yc yd yB yx
  refine wp_region_under (B := w5.heap.size) (w0 := w5) (by kernel_rfl) (by kernel_rfl) (Below.refl _ _) ?_
  repeat (go_big_quiet_step ((go_at_call 15; with_reducible exact Calls.under (Nat.le_refl _) (KDu.out _))))
  refine wpQuiet_nil ?_
  rintro w6 ⟨q6, hq6⟩
  have B6 := Lib.hid (B5.out.trans ((show Below w5.heap.size w5 w6 by rw [hq6]; exact q6.2).mono B5.out.size))
  clear hq6
  go_wp2_with fail
  go_ret
  exact ⟨ret_bool (by simp), B6.out⟩
end Go.Proofs.YtefadlbfkhndfaaGreatDoor
