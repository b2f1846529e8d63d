/-
  The walk of the law FnLayersText.
-/
import Derived.Test.YtjbdoohpljffnaaDoorLayersFromI
import Derived.Test.YtjbdoohpljffnaaDoorDrawLy
import Derived.Test.YtjbdoohpljffnaaDoorSameKn
import Derived.Test.YtjbdoohpljffnaaDoorDrawFrom
namespace Go.Proofs.YtjbdoohpljffnaaDoor
open Go.RowKit
set_option linter.unusedSimpArgs false
set_option linter.unusedVariables false

def unsure (l : List Ly) : Nat := l.countP fun p => !p.2
theorem unsure_snoc {l : List Ly} {k : Nat} {x : Int} {y : Bool} (h : l[k]? = some (x, y)) : unsure (l.take (k + 1)) = unsure (l.take k) + (if y = true then 0 else 1) := by
  unfold unsure
  rw [take_snoc h, List.countP_append]
  cases y <;> rfl
theorem count_lyT (p : Ly) : (lyT p).count 63 = if p.2 = true then 0 else 1 := by
  unfold lyT
  have h0 : (Lib.decDigits p.1.toNat).count 63 = 0 := List.count_eq_zero.2 (not_dec (by decide) _)
  rw [List.count_append, List.count_append, h0]
  cases p.2 <;> rfl
theorem count_laysT (l : List Ly) : (laysT l).count 63 = unsure l := by
  induction l with
  | nil => rfl
  | cons p l ih =>
    have e : laysT (p :: l) = lyT p ++ laysT l := rfl
    rw [e, List.count_append, ih, count_lyT]
    unfold unsure
    rw [List.countP_cons]
    cases p.2 <;> simp <;> omega
theorem count_snoc {s : List UInt8} {k : Nat} {b : UInt8} (h : s[k]? = some b) : (s.take (k + 1)).count 63 = (s.take k).count 63 + (if b = 63 then 1 else 0) := by
  rw [take_snoc h, List.count_append]
  congr 1
  by_cases hb : b = 63
  · rw [if_pos hb, hb]; rfl
  · rw [if_neg hb]; simp [List.count_cons, hb]
theorem unsure_le (l : List Ly) : unsure l ≤ l.length := List.countP_le_length
theorem lyxToList (l : List UInt8) : (tx l).toList = l := by unfold tx; exact ByteArray.toList_mk l

set_option maxRecDepth 100000 in
set_option maxHeartbeats 4000000 in
theorem walk_FnLayersText (w : World) (A : Option Addr) (n c : Nat) (l : List Int) (h : Arr BB 1 w w.heap.size A n l) (hby : ∀ x ∈ l, 0 ≤ x ∧ x ≤ 255) (hc : n ≤ c) (hT : Tab w) (hE : Errs w) :
    Calls Tryd.prog 11 #[.slice A n c] w fun e w' => e = .returned (.bool true) ∧ Below w.heap.size w w' := by
  have C := Lib.hid (DrawLayersText_any A n c l w h hby hc)
  have HT := Lib.hid hT
  have HE := Lib.hid hE
  clear hby h hT hE
  by_cases hb : 1048576 < n
  · go_enter Tryd.func11, Tryd.ntmps11
    go_wp2_with fail
    go_ret
    exact ⟨rfl, Below.refl _ _⟩
  go_enter Tryd.func11, Tryd.ntmps11
  go_wp2_with fail
  refine C.out.mono ?_
  rintro e w1 ⟨A1, n1, c1, L, rfl, o1, hn1, BB⟩
  clear C
  have a1 := o1.arr LL_length
  have hl1 := o1.1
  have KI0 := Lib.hid (fun W h hT => implLayersText_any A1 n1 c1 L W h (by omega) hT)
  have KS0 := Lib.hid (fun W h => specLayersText_any A1 n1 c1 L W h (by omega))
  have hTl := layersT_short L
  clear o1
  by_cases hE0 : layersT L = []
  · rw [hE0] at KI0 KS0
    have f0 : (tx []).toList.isEmpty = true := by rw [lyxToList]; rfl
    clear hTl hE0
    go_wp2_with fail
    refine (KI0.out w1 a1 (HT.out.below BB (Nat.le_refl _))).mono ?_
    rintro e w2 ⟨rfl, b2⟩
    have a2 := (a1.below' b2).more b2.size
    have BB2 := BB.trans (b2.mono BB.size)
    clear a1 b2 BB KI0
    go_wp2_with fail
    refine (KS0.out w2 a2).mono ?_
    rintro e w3 ⟨rfl, b3⟩
    have BB3 := BB2.trans (b3.mono BB2.size)
    clear b3 BB2 KS0
    go_wp2
    go_ret
    exact ⟨ret_bool (by simp), BB3⟩
  have hB : layB L = true := by
    cases hB : layB L with
    | true => rfl
    | false => exact absurd (show layersT L = [] by unfold layersT; rw [hB]; rfl) hE0
  have hFr : fromL (layersT L) = some L := fromL_some ⟨hB, by unfold layersT; rw [if_pos hB]⟩
  have hCt := count_laysT L
  rw [show laysT L = layersT L by unfold layersT; rw [if_pos hB]] at hCt
  generalize layersT L = T at *
  have KF := fun W hT hE => implLayersFrom_any T (by omega) W hT hE
  rw [hFr] at KF
  simp only [Option.getD_some, Option.isSome_some] at KF
  have KF' := Lib.hid KF
  have zS : (tx T).size = T.length := tx_size T
  have hne' : (tx T).toList.isEmpty = false := by rw [lyxToList]; simpa using hE0
  have HCt := Lib.hid hCt
  have HL1 := Lib.hid hl1
  clear hFr KF hE0 hB hCt hl1
  go_wp2_with fail
  refine (KI0.out w1 a1 (HT.out.below BB (Nat.le_refl _))).mono ?_
  rintro e w2 ⟨rfl, b2⟩
  have a2 := (a1.below' b2).more b2.size
  have BB2 := BB.trans (b2.mono BB.size)
  clear a1 b2 BB KI0
  go_wp2_with fail
  refine (KS0.out w2 a2).mono ?_
  rintro e w3 ⟨rfl, b3⟩
  have a3 := (a2.below' b3).more b3.size
  have BB3 := BB2.trans (b3.mono BB2.size)
  clear b3 a2 BB2 KS0
  go_wp2_with fail
  refine (KF'.out w3 (HT.out.below BB3 (Nat.le_refl _)) (HE.out.below BB3 (Nat.le_refl _))).mono ?_
  rintro e w4 ⟨A4, n4, c4, rfl, o4, b4⟩
  have a4 := (a3.below' b4).more b4.size
  have B4 := BB3.trans (b4.mono BB3.size)
  have x4 := o4.arr LL_length
  clear b4 a3 BB3 o4 KF' HT HE
  go_wp2_with fail
  go_loopw [8, 9] (fun v i wr => ∃ k : Nat, k ≤ T.length ∧ i = .int .i64 k ∧ v = .int .i64 ((T.take k).count 63 : Nat) ∧ wr = w4) (fun _ i _ => T.length - (intOf i).toNat)
  case atStart => exact ⟨0, Nat.zero_le _, rfl, rfl, rfl⟩
  case round =>
    obtain ⟨k, hk, rfl, rfl, rfl⟩ := hrel
    have hck : (T.take k).count 63 ≤ 400 := Nat.le_trans List.count_le_length (by rw [List.length_take]; omega)
    by_cases hlt : k < T.length
    · obtain ⟨b, hbb⟩ : ∃ b, T[k]? = some b := ⟨T[k], List.getElem?_eq_getElem hlt⟩
      have hbk : ∀ h, (tx T)[k]'h = b := fun h => by
        obtain ⟨_, e⟩ := List.getElem?_eq_some_iff.1 hbb
        exact e
      have ik : (k : Int) < (T.length : Int) := by omega
      have ik0 : (0 : Int) ≤ (k : Int) := by omega
      have hs := count_snoc hbb
      obtain ⟨q, hq⟩ : ∃ q, q = (T.take k).count 63 := ⟨_, rfl⟩
      rw [← hq] at hs hck
      have Hs := Lib.hid hs
      have e1 : IntKind.i64.wrap ((q : Int) + 1) = (q : Int) + 1 := IntWalk.i64_in _ ⟨by omega, by omega⟩
      rw [← hq]
      clear hs hq hbb
      by_cases hb63 : b = 63
      · subst hb63
        go_wp2_with fail
        refine ⟨⟨k + 1, by omega, by go_num, ?_, trivial⟩, by simp [intOf]; omega⟩
        rw [Hs.out, if_pos rfl]; rfl
      · have f1 : ((b.toNat : Int) == 63) = false := by
          rw [beq_eq_false_iff_ne]
          intro e
          exact hb63 (UInt8.toNat_inj.1 (by have : (63 : UInt8).toNat = 63 := rfl; omega))
        go_wp2_with fail
        refine ⟨⟨k + 1, by omega, by go_num, ?_, trivial⟩, by simp [intOf]; omega⟩
        rw [Hs.out, if_neg hb63]; rfl
    · obtain rfl : k = T.length := by omega
      have hU : (T.take T.length).count 63 = unsure L := by rw [List.take_length]; exact HCt.out
      have hu40 := unsure_le L
      rw [HL1.out] at hu40
      rw [hU]
      clear hck hU hlt hk hTl
      obtain ⟨U, hUU⟩ : ∃ U, U = unsure L := ⟨_, rfl⟩
      rw [← hUU] at hu40 ⊢
      have HU := Lib.hid hUU
      clear hUU
      go_wp2_with fail
      go_loopw [8, 10] (fun v i w5 => ∃ j : Nat, j ≤ n1 ∧ i = .int .i64 j ∧ v = .int .i64 ((U : Int) - (unsure (L.take j) : Nat)) ∧ w5 = wr) (fun _ i _ => n1 - (intOf i).toNat)
      case atStart => exact ⟨0, Nat.zero_le _, rfl, by simp [unsure], rfl⟩
      case round =>
        obtain ⟨j, hj, rfl, rfl, rfl⟩ := hrel
        have hjk : unsure (L.take j) ≤ 9 := Nat.le_trans (unsure_le _) (by rw [List.length_take]; omega)
        by_cases hlt : j < n1
        · obtain ⟨b, off, x, y, rfl, hbB, hx, c1', c2'⟩ := a4.layer hlt
          have hs := Lib.hid (unsure_snoc hx)
          obtain ⟨q, hq⟩ : ∃ q, q = unsure (L.take j) := ⟨_, rfl⟩
          rw [← hq] at hs hjk ⊢
          have ik : (j : Int) < (n1 : Int) := by omega
          have ik0 : (0 : Int) ≤ (j : Int) := by omega
          have e1 : IntKind.i64.wrap ((U : Int) - (q : Int) - 1) = (U : Int) - (q : Int) - 1 := IntWalk.i64_in _ ⟨by omega, by omega⟩
          clear hq hx
          cases y with
          | true =>
            go_wp2_with fail
            refine ⟨⟨j + 1, by omega, by go_num, ?_, trivial⟩, by simp [intOf]; omega⟩
            rw [hs.out]; rfl
          | false =>
            go_wp2_with fail
            refine ⟨⟨j + 1, by omega, by go_num, ?_, trivial⟩, by simp [intOf]; omega⟩
            rw [hs.out]
            congr 1
            simp
            omega
        · obtain rfl : j = n1 := by omega
          have h0 : (U : Int) - ((unsure (L.take j) : Nat) : Int) = 0 := by rw [List.take_of_length_le (by rw [HL1.out]; exact Nat.le_refl _), HU.out]; omega
          rw [h0]
          clear h0 hjk hlt hj
          go_wp2_with (go_at_call 38; refine (sameLayers_yes x4 a4 (by have := x4.1; have := a4.1; omega)).mono ?_; rintro e w9 ⟨rfl, hb9⟩)
          go_ret
          exact ⟨rfl, B4.trans (hb9.mono B4.size)⟩
end Go.Proofs.YtjbdoohpljffnaaDoor
