/-
  The exact laws' own words on rows of numbers: sizes, copies, comparisons.
-/
import Derived.Test.YtfohfcpnhhiemaaEqIntS
import Derived.Test.YtfohfcpnhhiemaaOwnR
import Derived.Test.YtfohfcpnhhiemaaStackSum
import Derived.Test.YtfohfcpnhhiemaaDrawStack
namespace Go.Proofs.Ytfohfcpnhhiemaa
open Go.RowKit
set_option linter.unusedSimpArgs false
set_option linter.unusedVariables false

theorem szIntS_any (A : Option Addr) (n c : Nat) (left : Int) (w : World) (h0 : 0 ≤ left) (h1 : left ≤ 4611686018427387904) (hn : n ≤ 9223372036854775807) :
    Calls Try.prog 53 #[.slice A n c, .int .i64 left] w fun e w' => e = .returned (.int .i64 (if left < (n : Int) then -1 else left - n)) ∧ w = w' := by
  by_cases h : left < (n : Int)
  · have h2 : left - (n : Int) < 0 := by omega
    go_enter Try.func53, Try.ntmps53
    go_wp2
    go_ret
    exact ⟨rfl, rfl⟩
  · have h2 : ¬ left - (n : Int) < 0 := by omega
    go_enter Try.func53, Try.ntmps53
    go_wp2
    go_ret
    exact ⟨rfl, rfl⟩

def SzPost (n : Nat) (R : List (List Int)) (left : Int) (w : World) (e : Ending) (w' : World) : Prop :=
  ∃ r : Int, e = .returned (.int .i64 r) ∧ r ≤ left ∧ -1 ≤ r ∧ (0 ≤ r → (n : Int) ≤ left ∧ ∀ x ∈ R, (x.length : Int) ≤ left) ∧ w = w'

set_option maxHeartbeats 400000 in
theorem szIntSS_any (A : Option Addr) (n c : Nat) (R : List (List Int)) (left : Int) (w : World) (h : Rows2 w w.heap.size A n R) (h0 : 0 ≤ left) (h1 : left ≤ 4611686018427387904) (hn : n ≤ 9223372036854775807) (hr : ∀ r ∈ R, r.length ≤ 9223372036854775807) :
    Calls Try.prog 20 #[.slice A n c, .int .i64 left] w (SzPost n R left w) := by
  have hr' := Lib.hid hr
  have hln := Lib.hid h.len
  clear hr
  by_cases hl : left < (n : Int)
  · have h2 : left - (n : Int) < 0 := by omega
    go_enter Try.func20, Try.ntmps20
    go_wp2
    go_ret
    exact ⟨-1, rfl, by omega, by omega, fun h => by omega, rfl⟩
  · have h2 : ¬ left - (n : Int) < 0 := by omega
    have hnl : (n : Int) ≤ left := by omega
    go_enter Try.func20, Try.ntmps20
    go_wp2
    go_loop [1, 5] (fun t i => ∃ (k : Nat) (L : Int), k ≤ n ∧ i = .int .i64 k ∧ t = .int .i64 L ∧ 0 ≤ L ∧ L ≤ left ∧ Hid (∀ x ∈ R.take k, (x.length : Int) ≤ left)) (fun _ i => n - (intOf i).toNat)
    case atStart => exact ⟨0, left - n, Nat.zero_le _, rfl, rfl, by omega, by omega, Lib.hid (by simp)⟩
    case round =>
      obtain ⟨k, L, hk, rfl, rfl, L0, L1, HT⟩ := hrel
      by_cases hlt : k < n
      · obtain ⟨b, off, r, A', c', rfl, hbB, hx, d1, hc1, ha⟩ := h.row hlt
        have hrl := hr'.out r (List.mem_of_getElem? hx)
        have C := szIntS_any A' r.length c' L w L0 (by omega) hrl
        have HX := Lib.hid hx
        clear hx ha
        by_cases hs : L < (r.length : Int)
        · rw [if_pos hs] at C
          have C' := Lib.hid C
          clear C
          go_wp2_with fail
          refine C'.out.mono ?_
          rintro e w' ⟨rfl, rfl⟩
          go_wp2
          go_ret
          exact ⟨-1, rfl, by omega, by omega, fun h => by omega, rfl⟩
        · rw [if_neg hs] at C
          have C' := Lib.hid C
          have hs1 : 0 ≤ L - (r.length : Int) := by omega
          have hs2 : ¬ L - (r.length : Int) < 0 := by omega
          clear C
          go_wp2_with fail
          refine C'.out.mono ?_
          rintro e w' ⟨rfl, rfl⟩
          go_wp2
          go_round
          case rel => exact ⟨k + 1, L - r.length, by omega, by go_num, rfl, by omega, by omega, Lib.hid (by
            rw [take_snoc HX.out]
            intro x hx
            rcases List.mem_append.1 hx with h | h
            · exact HT.out x h
            · simp at h; subst h; omega)⟩
          case measure => simp [intOf]; omega
      · obtain rfl : k = n := by omega
        have HF := Lib.hid (show ∀ x ∈ R, (x.length : Int) ≤ left by have := HT.out; rw [List.take_of_length_le (by rw [hln.out]; exact Nat.le_refl _)] at this; exact this)
        clear HT
        go_wp2
        go_ret
        exact ⟨L, rfl, L1, by omega, fun _ => ⟨by omega, HF.out⟩, rfl⟩

set_option maxHeartbeats 400000 in
theorem toIntS_any (A : Option Addr) (n c : Nat) (l : List Int) (w : World) (h : Arr II 1 w w.heap.size A n l) (hn : n ≤ 1048576) :
    Calls Try.prog 54 #[.slice A n c] w (RetOwn II 1 3 w n l) := by
  obtain ⟨i0, hi, hz0, hz1, hz2⟩ := info_parts infoInt
  go_enter Try.func54, Try.ntmps54
  go_wp2_with (at_make; refine wpList_make_full _ rfl _ _ 28 rfl w.heap.size 3 i0 (.int .i64 0) 1 Try.underlying28 hi hz0 hz1 _ _ _ _ n rfl rfl (by omega) (by omega) ?b1 ?b2 ?b3 ?_)
  case b1 => rw [hz2]; omega
  case b2 => unfold maxLen; omega
  case b3 => exact Nat.le_refl _
  intro w1 hown hg
  go_wp2
  have hb1 : Below w.heap.size w w1 := below_of_grown hg (Nat.le_refl _) (by intro k hk; cases hk)
  have hO : Own II 1 w1 w.heap.size 3 (.slice (some ⟨w.heap.size, 0, none⟩) n n) n (List.replicate n 0) := ⟨by simp, by rw [zeros_II]; exact hown⟩
  have hs1 : w.heap.size < w1.heap.size := (Own.block hO).2
  clear hown
  go_loopw [4] (fun i wr => ∃ k : Nat, k ≤ n ∧ i = .int .i64 k ∧ Own II 1 wr w.heap.size 3 (.slice (some ⟨w.heap.size, 0, none⟩) n n) n (l.take k ++ List.replicate (n - k) 0) ∧ Below w.heap.size w wr) (fun i _ => n - (intOf i).toNat)
  case atStart => exact ⟨0, Nat.zero_le _, rfl, by simpa using hO, hb1⟩
  case round =>
    obtain ⟨k, hk, rfl, hw, hb⟩ := hrel
    by_cases hlt : k < n
    · obtain ⟨b, off, x, rfl, hbB, hx, c1⟩ := h.int hlt
      have hx' := Lib.hid hx; clear hx
      have c1' := (hb.cell (by exact hbB)).trans c1
      clear c1
      have d1 := hw.intAt (mid_zero 0 h.1 hlt)
      have e1 := hw.2.frozenAt k
      have HS := Lib.hid (hw.setInt (k := k) x)
      rw [mid_set h.1 hlt hx'.out] at HS
      have HB := Lib.hid (hb.setCell (p := ⟨w.heap.size, k, none⟩) (Nat.le_refl _) (.int .i64 x))
      clear hw hb
      go_wp2
      go_roundw
      case rel => exact ⟨k + 1, by omega, by go_num, HS.out, HB.out⟩
      case measure => simp [intOf]; omega
    · obtain rfl : k = n := by omega
      have hE := mid_end (0 : Int) h.1
      have hE' := Lib.hid hE
      clear hE
      go_wp2
      go_ret
      exact ⟨_, _, rfl, by rw [← hE'.out]; exact hw, hb⟩

theorem zeros_VV (n : Nat) : (List.replicate n (Value.slice none 0 0)).flatMap VV = (madeCells #[Value.slice none 0 0] n).toList := by
  apply List.ext_getElem?
  intro j
  rw [flatMap_VV]
  rcases Nat.lt_or_ge j n with h | h
  · simp [madeCells, h, Nat.mod_one]
  · rw [List.getElem?_eq_none (by simp; omega), List.getElem?_eq_none (by simp [madeCells]; omega)]
theorem rep_get {α : Type} {n k : Nat} {z u : α} (h : (List.replicate n z)[k]? = some u) : u = z := by
  rw [List.getElem?_replicate] at h
  split at h
  · exact (Option.some.inj h).symm
  · cases h
theorem OwnRR.made_nils {w : World} {base : Nat} {T T' : TypeId} {v : Value} {n : Nat} (h : Own VV 1 w base T v n (List.replicate n (.slice none 0 0))) :
    OwnRR w base T T' v n (List.replicate n (.slice none 0 0)) (List.replicate n []) := by
  refine ⟨h, by simp, fun k u r hu hr => ?_, fun k u hu g hg => ?_, fun i j u u' _ hu _ g hg => ?_⟩
  · obtain rfl := rep_get hu
    obtain rfl := rep_get hr
    exact Own.nil_ _ _ _ _ _
  · obtain rfl := rep_get hu
    simp [Value.ownBlock] at hg
  · obtain rfl := rep_get hu
    simp [Value.ownBlock] at hg
/-- A cell of the outer row. -/
theorem OwnRR.cellAt {w : World} {base g : Nat} {T T' : TypeId} {n c k : Nat} {vs : List Value} {R : List (List Int)} {u : Value} (h : OwnRR w base T T' (.slice (some ⟨g, 0, none⟩) n c) n vs R) (hk : vs[k]? = some u) : w.cell? ⟨g, k, none⟩ = some u := by
  have hl : k < n := by rw [← h.own.1]; exact (List.getElem?_eq_some_iff.1 hk).1
  have h0 := h.own.2.cellAt k (by omega)
  rw [flatMap_VV] at h0
  exact h0.trans hk
def RetRR (T T' : TypeId) (w : World) (n : Nat) (R : List (List Int)) (e : Ending) (w' : World) : Prop :=
  ∃ A c vs, e = .returned (.slice A n c) ∧ OwnRR w' w.heap.size T T' (.slice A n c) n vs R ∧ n ≤ c ∧ Below w.heap.size w w'

theorem mid_setG {α : Type} {l : List α} {n k : Nat} {z x : α} (hl : l.length = n) (hk : k < n) (hx : l[k]? = some x) : (l.take k ++ List.replicate (n - k) z).set k x = l.take (k + 1) ++ List.replicate (n - (k + 1)) z := mid_set hl hk hx

set_option maxHeartbeats 1000000 in
theorem toIntSS_any (A : Option Addr) (n c : Nat) (R : List (List Int)) (w : World) (h : Rows2 w w.heap.size A n R) (hn : n ≤ 1048576) (hr : ∀ r ∈ R, r.length ≤ 1048576) :
    Calls Try.prog 22 #[.slice A n c] w (RetRR 28 3 w n R) := by
  obtain ⟨j0, ji, jz0, jz1, jz2⟩ := info_parts infoRow
  have hr' := Lib.hid hr
  have hln := Lib.hid h.len
  clear hr
  go_enter Try.func22, Try.ntmps22
  go_wp2_with (at_make; refine wpList_make_full _ rfl _ _ 23 rfl w.heap.size 28 j0 (.slice none 0 0) 1 Try.underlying23 ji jz0 jz1 _ _ _ _ n rfl rfl (by omega) (by omega) ?b1 ?b2 ?b3 ?_)
  case b1 => rw [jz2]; omega
  case b2 => unfold maxLen; omega
  case b3 => exact Nat.le_refl _
  intro w1 hown hg
  go_wp2
  have hb1 : Below w.heap.size w w1 := below_of_grown hg (Nat.le_refl _) (by intro k hk; cases hk)
  have hO : Own VV 1 w1 w.heap.size 28 (.slice (some ⟨w.heap.size, 0, none⟩) n n) n (List.replicate n (.slice none 0 0)) := ⟨by simp, by rw [zeros_VV]; exact hown⟩
  have hOR := Lib.hid (OwnRR.made_nils (T' := 3) hO)
  clear hown hO
  go_loopw [4] (fun i wr => ∃ (k : Nat) (us : List Value), k ≤ n ∧ i = .int .i64 k ∧ OwnRR wr w.heap.size 28 3 (.slice (some ⟨w.heap.size, 0, none⟩) n n) n us (R.take k ++ List.replicate (n - k) []) ∧ Hid (∀ j, k ≤ j → j < n → us[j]? = some (.slice none 0 0)) ∧ Below w.heap.size w wr) (fun i _ => n - (intOf i).toNat)
  case atStart => exact ⟨0, _, Nat.zero_le _, rfl, by simpa using hOR.out, Lib.hid (fun j _ hj => by simp [hj]), hb1⟩
  case round =>
    obtain ⟨k, us, hk, rfl, hw, hus, hb⟩ := hrel
    by_cases hlt : k < n
    · obtain ⟨b, off, r, A', c', rfl, hbB, hx, d1, hc1, ha⟩ := h.row hlt
      have hrl := hr'.out r (List.mem_of_getElem? hx)
      have HX := Lib.hid hx
      have d1' := (hb.cell (by exact hbB)).trans d1
      have K := Lib.hid (toIntS_any A' r.length c' r wr ((ha.below' hb).more hb.size) hrl)
      have HW := Lib.hid hw
      clear hx d1 ha hw
      go_wp2_with fail
      refine K.out.mono ?_
      rintro e w2 ⟨A2, c2, rfl, o2, b2⟩
      have B2 := hb.trans (b2.mono hb.size)
      have uk := hus.out k (Nat.le_refl _) hlt
      have hw2 := HW.out.below b2 (Nat.le_refl _)
      have q0 := hw2.cellAt uk
      have q1 := hw2.own.2.frozenAt k
      have hat : (Value.slice A2 r.length c2).ownBlock = (Value.slice none 0 0).ownBlock ∨ (∃ g', (Value.slice A2 r.length c2).ownBlock = some g' ∧ wr.heap.size ≤ g') := by
        cases A2 with
        | none => exact .inl rfl
        | some a => exact .inr ⟨a.block, rfl, (o2.2.lt a.block rfl).1⟩
      have HT := Lib.hid (HW.out.turn uk (o2.less hb.size) (grown_of_below b2 (Nat.le_refl _) _) hat)
      rw [mid_setG hln.out hlt HX.out] at HT
      have HU := Lib.hid (show ∀ j, k + 1 ≤ j → j < n → (us.set k (.slice A2 r.length c2))[j]? = some (.slice none 0 0) from fun j h1 h2 => by
        rw [List.getElem?_set_ne (by omega)]; exact hus.out j (by omega) h2)
      have HB := Lib.hid (B2.setCell (p := ⟨w.heap.size, k, none⟩) (Nat.le_refl _) (.slice A2 r.length c2))
      clear hw2 o2 b2 B2 hat uk HW hus
      go_wp2
      go_roundw
      case rel => exact ⟨k + 1, _, by omega, by go_num, HT.out, HU, HB.out⟩
      case measure => simp [intOf]; omega
    · obtain rfl : k = n := by omega
      have hE' := Lib.hid (mid_end ([] : List Int) hln.out)
      go_wp2
      go_ret
      exact ⟨_, _, us, rfl, by rw [← hE'.out]; exact hw, Nat.le_refl _, hb⟩

theorem eqIntS_yes {A A' : Option Addr} {n c n' c' : Nat} {l : List Int} {w : World} (h : Arr II 1 w w.heap.size A n l) (h' : Arr II 1 w w.heap.size A' n' l) (hn : n ≤ 1099511627776) :
    Calls Try.prog 44 #[.slice A n c, .slice A' n' c'] w fun e w' => e = .returned (.bool true) ∧ Below w.heap.size w w' := by
  have C := eqIntS_any A n c l A' n' c' l w h h' hn (by have := h.1; have := h'.1; omega)
  rw [decide_eq_true rfl] at C
  exact C
/-- Two rows that read alike, at any later world. -/
theorem eqIntS_later {A A' : Option Addr} {n c n' c' : Nat} {xs : List Int} {w : World} (h : Arr II 1 w w.heap.size A n xs) (h' : Arr II 1 w w.heap.size A' n' xs) (hn : xs.length ≤ 1099511627776 := by first | omega | simp) :
    ∀ W, Below w.heap.size w W → Calls Try.prog 44 #[.slice A n c, .slice A' n' c'] W fun e w' => e = .returned (.bool true) ∧ Below w.heap.size w w' := by
  intro W hW
  have S := eqIntS_any A n c xs A' n' c' xs W ((h.below' hW).more hW.size) ((h'.below' hW).more hW.size) (by rw [← h.1]; exact hn) (by rw [← h'.1]; exact hn)
  rw [decide_eq_true rfl] at S
  exact S.mono fun e w' ⟨he, hb⟩ => ⟨he, hW.trans (hb.mono hW.size)⟩

set_option maxHeartbeats 1000000 in
theorem eqIntSS_yes (A : Option Addr) (n c : Nat) (A' : Option Addr) (n' c' : Nat) (R : List (List Int)) (w : World) (h : Rows2 w w.heap.size A n R) (h' : Rows2 w w.heap.size A' n' R) (hn : n ≤ 1099511627776) (hr : ∀ r ∈ R, r.length ≤ 1099511627776) :
    Calls Try.prog 24 #[.slice A n c, .slice A' n' c'] w fun e w' => e = .returned (.bool true) ∧ Below w.heap.size w w' := by
  obtain rfl : n = n' := by rw [← h.len, h'.len]
  have hr' := Lib.hid hr
  clear hr
  go_enter Try.func24, Try.ntmps24
  go_wp2
  go_loopw [5] (fun i wr => ∃ k : Nat, k ≤ n ∧ i = .int .i64 k ∧ Below w.heap.size w wr) (fun i _ => n - (intOf i).toNat)
  case atStart => exact ⟨0, Nat.zero_le _, rfl, Below.refl _ _⟩
  case round =>
    obtain ⟨k, hk, rfl, hb⟩ := hrel
    by_cases hlt : k < n
    · obtain ⟨b, off, r, A1, c1, rfl, hbB, hx, d1, hc1, a1⟩ := h.row hlt
      obtain ⟨b', off', r', A2, c2, rfl, hbB', hx', d2, hc2, a2⟩ := h'.row hlt
      rw [hx] at hx'
      injection hx' with hx'
      subst hx'
      have hrl := hr'.out r (List.mem_of_getElem? hx)
      have K := Lib.hid (eqIntS_later (c := c1) (c' := c2) ((a1.below' hb).more hb.size) ((a2.below' hb).more hb.size) hrl)
      have hsz := hb.size
      have e1 := (hb.cell (by exact hbB)).trans d1
      have e2 := (hb.cell (by exact hbB')).trans d2
      have ik : (k : Int) < (n : Int) := by omega
      have ik0 : (0 : Int) ≤ (k : Int) := by omega
      have D1 := Later.cell (B := wr.heap.size) (w0 := wr) (by exact Nat.lt_of_lt_of_le hbB hsz) e1
      have D2 := Later.cell (B := wr.heap.size) (w0 := wr) (by exact Nat.lt_of_lt_of_le hbB' hsz) e2
      clear hx d1 d2 a1 a2 e1 e2
      go_wp2_with fail
      refine wp_region_under (B := wr.heap.size) (w0 := wr) (by kernel_rfl) (by kernel_rfl) (Below.refl _ _) ?_
      repeat (go_big_quiet_step ((go_at_call 44; refine (K.out _ (Subtype.property _)).mono fun _ w' ⟨he, hb⟩ => ⟨he, ⟨w', hb⟩, rfl⟩)))
      refine wpQuiet_nil ?_
      rintro w2 ⟨u, hu⟩
      have hb2 := u.2
      rw [← hu] at hb2
      clear hu D1 D2 K
      go_wp2
      go_roundw
      case rel => exact ⟨k + 1, by omega, by go_num, hb.trans (hb2.mono hsz)⟩
      case measure => simp [intOf]; omega
    · obtain rfl : k = n := by omega
      go_wp2
      go_ret
      exact ⟨rfl, hb⟩
end Go.Proofs.Ytfohfcpnhhiemaa
