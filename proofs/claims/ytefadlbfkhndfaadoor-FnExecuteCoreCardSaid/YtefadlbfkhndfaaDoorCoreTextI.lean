/-
  Contract: CoreText of the program.
-/
import Derived.Test.YtefadlbfkhndfaaDoorCoreText
namespace Go.Proofs.YtefadlbfkhndfaaDoor
open Go.RowKit
set_option linter.unusedSimpArgs false
set_option linter.unusedVariables false

def pieceTexts (l : List Pc) : List ByteArray := l.map fun p => tx (pcT p)
theorem pieceTexts_len (l : List Pc) : (pieceTexts l).length = l.length := by simp [pieceTexts]
theorem pieceTexts_snoc {l : List Pc} {k : Nat} {p : Pc} (h : l[k]? = some p) : pieceTexts (l.take (k + 1)) = pieceTexts (l.take k) ++ [tx (pcT p)] := by
  unfold pieceTexts; rw [take_snoc h, List.map_append]; rfl
theorem pieceTexts_join (l : List Pc) : Lib.join ((pieceTexts l).map (·.data.toList)) (tx [32]).data.toList = rowsT l := by
  unfold pieceTexts rowsT
  rw [List.map_map]
  congr 1
theorem rowsT_len {l : List Pc} (h : coreFrom 0 l = true) : (rowsT l).length ≤ 14 * l.length := by
  have key : ∀ k, k ≤ l.length → (rowsT (l.take k)).length ≤ 14 * k := by
    intro k
    induction k with
    | zero => intro _; simp [rowsT, Lib.join_nil]
    | succ k ih =>
      intro hk
      have hx : l[k]? = some l[k] := List.getElem?_eq_getElem (by omega)
      have hm := coreFrom_mem h _ (List.getElem_mem (show k < l.length by omega))
      have hp : (pcT l[k]).length ≤ 13 := by
        unfold pcT
        have a1 := dec_short (u := l[k].1.toNat) (by omega)
        have a2 := dec_short (u := l[k].2.toNat) (by omega)
        simp only [List.length_append, List.length_cons, List.length_nil]
        omega
      have := ih (by omega)
      by_cases hk0 : k = 0
      · subst hk0
        rw [rowsT_one hx]; omega
      · rw [rowsT_snoc hx (by omega)]
        simp only [List.length_append, List.length_cons, List.length_nil]
        omega
  have := key l.length (Nat.le_refl _)
  rwa [List.take_of_length_le (Nat.le_refl _)] at this

set_option maxRecDepth 100000 in
set_option maxHeartbeats 4000000 in
theorem implCoreText_any (A : Option Addr) (n c : Nat) (l : List Pc) (w : World) (h : Arr PP 2 w w.heap.size A n l) (hn : n ≤ 1099511627776) (hT : Tab w) :
    Calls Tryd.prog 17 #[.slice A n c] w fun e w' => e = .returned (.string (tx (coreT l))) ∧ Below w.heap.size w w' := by
  have C := implCoreValid_any A n c l w h hn
  have hln := Lib.hid h.1
  have hl1 := h.1
  have HT := Lib.hid hT
  clear hT
  cases hB : coreB l with
  | false =>
    rw [hB] at C
    have C' := Lib.hid C
    have hL := Lib.hid (show coreT l = [] by unfold coreT; rw [hB]; rfl)
    clear C hB hl1
    go_enter Tryd.func17, Tryd.ntmps17
    go_wp2_with fail
    refine C'.out.mono ?_
    rintro e w1 ⟨rfl, b1⟩
    go_wp2
    go_ret
    exact ⟨ret_str (by rw [hL.out]; rfl), b1⟩
  | true =>
    rw [hB] at C
    have C' := Lib.hid C
    obtain ⟨hF, h20⟩ := (coreB_iff l).1 hB
    have hF' := Lib.hid hF
    rw [hl1] at h20
    by_cases h0 : n = 0
    · have hL := Lib.hid (show coreT l = [45] by unfold coreT; rw [if_pos hB, if_pos (by rw [hl1]; exact h0)])
      have f0 : ((n : Int) == 0) = true := by simp; omega
      clear C hB hl1 hF h0
      go_enter Tryd.func17, Tryd.ntmps17
      go_wp2_with fail
      refine C'.out.mono ?_
      rintro e w1 ⟨rfl, b1⟩
      go_wp2
      go_ret
      exact ⟨ret_str (by rw [hL.out]; rfl), b1⟩
    · have hL := Lib.hid (show coreT l = rowsT l by unfold coreT; rw [if_pos hB, if_neg (by rw [hl1]; exact h0)])
      have f0 : ((n : Int) == 0) = false := by simp; omega
      have hn0 : 0 < n := by omega
      obtain ⟨i0, hi, hz0, hz1, hz2⟩ := info_parts infoStr
      clear C hB hl1 hF h0
      go_enter Tryd.func17, Tryd.ntmps17
      go_wp2_with fail
      refine C'.out.mono ?_
      rintro e w1 ⟨rfl, b1⟩
      clear C'
      go_wp2_with fail
      clear f0
      go_loopw [3, 14] (fun s i wr => ∃ (k : Nat), k ≤ n ∧ i = .int .i64 k ∧ Own ST 1 wr w.heap.size 9 s k (pieceTexts (l.take k)) ∧ Below w.heap.size w wr) (fun _ i _ => n - (intOf i).toNat)
      case atStart => exact ⟨0, Nat.zero_le _, rfl, Own.nil_ _ _ _ _ _, b1⟩
      case round =>
        obtain ⟨k, hk, rfl, hw, hb⟩ := hrel
        by_cases hlt : k < n
        · obtain ⟨b, off, x, y, rfl, hbB, hx, c1, c2⟩ := h.pair hlt
          have hm := coreFrom_mem hF'.out _ (List.mem_of_getElem? hx)
          have hm1 : (0 : Int) ≤ x ∧ x < y ∧ y ≤ 30000 := hm
          obtain ⟨u, rfl⟩ : ∃ u : Nat, x = u := ⟨x.toNat, by omega⟩
          obtain ⟨v, rfl⟩ : ∃ v : Nat, y = v := ⟨y.toNat, by omega⟩
          have hu : u ≤ 100000 := by omega
          have hv : v ≤ 100000 := by omega
          obtain ⟨T1, hT1⟩ : ∃ T, T = tx (Lib.decDigits u) ++ tx [45] := ⟨_, rfl⟩
          obtain ⟨T2, hT2⟩ : ∃ T, T = T1 ++ tx (Lib.decDigits v) := ⟨_, rfl⟩
          have q1 := dec_tx hu
          have q2 := dec_tx hv
          have z1 : T1.size = (tx (Lib.decDigits u)).size + 1 := by rw [hT1, ByteArray.size_append, tx_size [45]]; rfl
          have HF := Lib.hid (show pieceTexts (l.take k) ++ [T2] = pieceTexts (l.take (k + 1)) by
            rw [pieceTexts_snoc hx, hT2, hT1, ByteArray.append_assoc, tx_add, tx_add]; rfl)
          have A1 : ∀ W : World, (Op.stringOp .add (tx (Lib.decDigits u)) ⟨#[45]⟩).run Tryd.prog W = .ok (.string T1) W := add_at (tx (Lib.decDigits u)) (tx [45]) T1 (by rw [tx_size [45]]; simp; omega) hT1.symm
          have A2 := add_at T1 (tx (Lib.decDigits v)) T2 (by omega) hT2.symm
          have c1' := (hb.cell (by exact hbB)).trans c1
          have c2' := (hb.cell (by exact hbB)).trans c2
          have ik : (k : Int) < (n : Int) := by omega
          have ik0 : (0 : Int) ≤ (k : Int) := by omega
          have hsz := hb.size
          have M1 : k + 1 ≤ maxLen := by unfold maxLen; omega
          have M2 : (k + 1) * 16 ≤ 140737488355328 := by omega
          have HW := Lib.hid hw
          have HTr := Lib.hid (HT.out.below hb (Nat.le_refl _))
          clear hT1 hT2 q1 q2 z1 hx hm hm1 c1 c2 hw
          go_wp2_with fail
          obtain ⟨d1, d2⟩ := (new_two wr (.int .i64 (u : Int)) (.int .i64 (v : Int)) 59)
          have HWp := HW.out.alloc (.cells #[.int .i64 (u : Int), .int .i64 (v : Int)] 59)
          have HTp := HTr.out.alloc (.cells #[.int .i64 (u : Int), .int .i64 (v : Int)] 59)
          have Bp := hb.alloc hsz (.cells #[.int .i64 (u : Int), .int .i64 (v : Int)] 59)
          have hG := fun g hg => HW.out.2.lt g hg
          have hPl : wr.heap.size < (wr.alloc (.cells #[.int .i64 (u : Int), .int .i64 (v : Int)] 59)).heap.size := by simp
          generalize wr.alloc (.cells #[.int .i64 (u : Int), .int .i64 (v : Int)] 59) = wp at d1 d2 HWp HTp Bp hPl ⊢
          generalize wr.heap.size = P at d1 d2 hPl hG ⊢
          have HG := Lib.hid hG
          clear hG
          have hszp := Bp.size
          have HO := Lib.hid HWp
          have HTq := Lib.hid HTp.drew
          clear HWp HTp c1' c2' HW HTr
          go_region_held3 (fun w' => w'.cell? ⟨P, 0, none⟩ = some (.int .i64 (u : Int)) ∧ w'.cell? ⟨P, 1, none⟩ = some (.int .i64 (v : Int))) (first | (go_keep; done) | (refine ⟨(Below.cell (B := wp.heap.size) (p := ⟨P, 0, none⟩) ?_ (by exact hPl)).trans d1, (Below.cell (B := wp.heap.size) (p := ⟨P, 1, none⟩) ?_ (by exact hPl)).trans d2⟩ <;> (go_grown; done)) | (exact K4)) (first
            | (go_at_call 24; refine (itoa_any _ (by first | exact hu | exact hv) wp.drew HTq.out).mono ?_; rintro e w2 ⟨rfl, b2⟩; have S2 : Below wp.heap.size wp w2 := ((Below.refl wp.heap.size wp).drew).trans b2; have T2' := Lib.hid (HTq.out.below b2 (Nat.le_refl _)); have z2 := S2.size)
            | (go_at_call 24; refine (itoa_any _ (by first | exact hu | exact hv) w2 T2'.out).mono ?_; rintro e w3 ⟨rfl, b3⟩; have S3 : Below wp.heap.size wp w3 := S2.trans (b3.mono z2); have z3 := S3.size)
            | (refine step_append_arr _ rfl (.tmp 18) (.tmp 27) 47 rfl w.heap.size 9 i0 (.string ⟨#[]⟩) 1 16 Tryd.underlying47 hi hz0 hz1 hz2 rfl (by decide) ST_length one_ST u3 k (pieceTexts (l.take k)) (by simp [Act.eval, Act.put]) ((HO.out.below S3 (Nat.le_refl _)).alloc _) _ (some ⟨w3.heap.size, 0, none⟩) 1 1 [T2] (by simp [Act.eval, Act.put]) (Own.arr (Own.litST w3 w3.heap.size 9 T2 (Nat.le_refl _)) ST_length) M1 M2 (by simp; omega) ?_; intro v4 w4 hO4 hg4 hat4; have S5 := S3.alloc (by omega) (.cells #[.string T2] 9); have K4 := And.intro (hg4.cell ((S5.cell (p := ⟨P, 0, none⟩) (by exact hPl)).trans d1) (fun e => absurd (HG.out _ e.symm).2 (Nat.lt_irrefl _))) (hg4.cell ((S5.cell (p := ⟨P, 1, none⟩) (by exact hPl)).trans d2) (fun e => absurd (HG.out _ e.symm).2 (Nat.lt_irrefl _))); have S4 : Below w.heap.size w w4 := (Bp.trans (S5.mono hszp)).grown hg4 (by simp; omega) (fun g hg => (HG.out g hg).1)))
          all_goals
            have hO5 : Own ST 1 w4 w.heap.size 9 v4 (k + 1) (pieceTexts (l.take (k + 1))) := by rw [← HF.out]; exact hO4
            clear hO4 K4 hg4 hat4 S5 S3 b3 S2 b2 A1 A2 d1 d2
            go_wp2
            go_roundw
            case rel => exact ⟨k + 1, by omega, by go_num, hO5, S4⟩
            case measure => simp [intOf]; omega
        · obtain rfl : k = n := by omega
          obtain ⟨g, c3, rfl, hg1, hg2, hg3⟩ := hw.head hn0
          have hxs : pieceTexts (l.take k) = pieceTexts l := by rw [List.take_of_length_le (by rw [hln.out]; exact Nat.le_refl _)]
          rw [hxs] at hw
          have J := Tryd.strings_Join g 0 c3 (pieceTexts l) (tx [32]) wr (fun j x hx => by
            have hj : j < k := by have := (List.getElem?_eq_some_iff.1 hx).1; rw [pieceTexts_len, hln.out] at this; exact this
            have q0 := hw.2.cellAt j (by omega)
            have q1 := getElem?_flatMap ST_length (pieceTexts l) j x 0 hx (by omega)
            rw [Nat.zero_add]
            simp only [Nat.mul_one, Nat.add_zero] at q1
            exact q0.trans q1) hg2 (by rw [pieceTexts_len, hln.out]; omega) (by rw [pieceTexts_len, hln.out]; exact hg3) (by rw [pieceTexts_join]; have := rowsT_len hF'.out; rw [hln.out] at this; omega)
          rw [pieceTexts_join, pieceTexts_len, hln.out] at J
          have J' := Lib.hid J
          clear J hw hxs
          go_wp2_with fail
          refine J'.out.mono ?_
          rintro e w2 ⟨rfl, b2⟩
          go_wp2
          go_ret
          exact ⟨ret_str (by rw [hL.out]; rfl), hb.trans (b2.mono hb.size)⟩
end Go.Proofs.YtefadlbfkhndfaaDoor
