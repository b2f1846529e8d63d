/-
  Contract: DrawExecute of the reference, by the length of what it returns.
-/
import Derived.Test.YtefadlbfkhndfaaGreatDoorDrawCoreP
import Derived.Test.YtefadlbfkhndfaaGreatDoorDrawLine
import Derived.Test.YtefadlbfkhndfaaGreatDoorDrawMany
import Derived.Test.YtefadlbfkhndfaaGreatDoorGE
import Derived.Test.YtefadlbfkhndfaaGreatDoorLayersText
import Derived.Test.YtefadlbfkhndfaaGreatDoorPlainLy
import Derived.Test.YtefadlbfkhndfaaGreatDoorDecB
import Derived.Test.YtefadlbfkhndfaaGreatDoorGD
import Derived.Deep.RegionHeld3
import Derived.BigQuiet
import Derived.Test.YtefadlbfkhndfaaGreatDoorGA
namespace Go.Proofs.YtefadlbfkhndfaaGreatDoor
open Go.RowKit
set_option linter.unusedSimpArgs false
set_option linter.unusedVariables false

theorem arr_newL (w : World) (x : Int) (y : Bool) (T : TypeId) : Arr LL 2 (w.alloc (.cells #[.int .i64 x, .bool y] T)).drew (w.alloc (.cells #[.int .i64 x, .bool y] T)).drew.heap.size (some ⟨w.heap.size, 0, none⟩) 1 [(x, y)] := by
  obtain ⟨h0, h1⟩ := new_two w (.int .i64 x) (.bool y) T
  refine ⟨rfl, fun _ => ⟨w.heap.size, 0, rfl, ?_, fun k z hz j v hv => ?_⟩⟩
  · show w.heap.size < (w.alloc (.cells #[.int .i64 x, .bool y] T)).heap.size
    simp
  · show (w.alloc (.cells #[.int .i64 x, .bool y] T)).cell? _ = _
    match k, j, hz, hv with
    | 0, 0, hz, hv => simp at hz; subst hz; simp [LL] at hv; subst hv; exact h0
    | 0, 1, hz, hv => simp at hz; subst hz; simp [LL] at hv; subst hv; exact h1
    | 0, j + 2, hz, hv => simp at hz; subst hz; simp [LL] at hv
    | k + 1, _, hz, _ => simp at hz
theorem below_newL (w : World) (x : Int) (y : Bool) (T : TypeId) : Below w.heap.size w (w.alloc (.cells #[.int .i64 x, .bool y] T)).drew :=
  ((Below.refl w.heap.size w).alloc (Nat.le_refl _) _).drew
set_option maxRecDepth 100000 in
set_option maxHeartbeats 8000000 in
theorem DrawExecute_any (A : Option Addr) (n c : Nat) (l : List Int) (w : World) (h : Arr BB 1 w w.heap.size A n l) (hby : ∀ x ∈ l, 0 ≤ x ∧ x ≤ 255) (hc : n ≤ c) :
    Calls Tryz.prog 16 #[.slice A n c] w fun e w' => ∃ S : ByteArray, e = .returned (.string S) ∧ S.size ≤ 100000 ∧ Below w.heap.size w w' := by
  have C := Lib.hid (l6Open_any A n c l w h hby hc)
  clear hby h
  go_enter Tryz.func16, Tryz.ntmps16
  go_wp2_with fail
  refine C.out.mono ?_
  rintro e w1 ⟨rfl, hr, hb, hs⟩
  clear C
  go_wp2_with fail
  refine (l91CoreP_any _ 0 w1 hr (by omega)).mono ?_
  rintro e w2 ⟨A2, n2, c2, l2, p2, rfl, ho, hn, hr2, hp2, hg, hPos⟩
  have hb2 := hb.grown hg (by omega) (by intro k hk; simp at hk; omega)
  have h2 := ho.arr PP_length
  have hln : l2.length = n2 := ho.1
  clear hr hb hg ho
  go_wp2_with fail
  go_loopw [4, 6] (fun s i wr => ∃ (k : Nat) (S : ByteArray), k ≤ n2 ∧ i = .int .i64 k ∧ s = .string S ∧ S.size ≤ 30 * k ∧ Below w2.heap.size w2 wr) (fun _ i _ => n2 - (intOf i).toNat)
  case atStart => exact ⟨0, ⟨#[]⟩, Nat.zero_le _, rfl, rfl, by simp [ByteArray.size], Below.refl _ _⟩
  case round =>
    obtain ⟨k, S, hk, rfl, rfl, hSz, hb⟩ := hrel
    by_cases hlt : k < n2
    · obtain ⟨b, off, x, y, rfl, hbB, hx, c1, c2⟩ := h2.pair hlt
      have hm := hPos.out _ (List.mem_of_getElem? hx)
      obtain ⟨u, rfl⟩ : ∃ u : Nat, x = u := ⟨x.toNat, by have := hm.1.1; omega⟩
      obtain ⟨v, rfl⟩ : ∃ v : Nat, y = v := ⟨y.toNat, by have := hm.2.1; omega⟩
      have hu : u ≤ 10000000 := by have := hm.1.2; simp at this; omega
      have hv : v ≤ 10000000 := by have := hm.2.2; simp at this; omega
      obtain ⟨X, hX⟩ : ∃ X, X = tx (Lib.decDigits u) := ⟨_, rfl⟩
      obtain ⟨Y, hY⟩ : ∃ Y, Y = tx (Lib.decDigits v) := ⟨_, rfl⟩
      have K1' := Lib.hid (fun W => l6DecB_any u W hu)
      have K2' := Lib.hid (fun W => l6DecB_any v W hv)
      rw [← hX] at K1'
      rw [← hY] at K2'
      have hXz : X.size ≤ 8 := by rw [hX, tx_size]; exact dec_len 7 u (by omega)
      have hYz : Y.size ≤ 8 := by rw [hY, tx_size]; exact dec_len 7 v (by omega)
      have pz : (ByteArray.mk #[112, 105, 101, 99, 101, 32]).size = 6 := rfl
      have qz : (ByteArray.mk #[32]).size = 1 := rfl
      have nz : (ByteArray.mk #[10]).size = 1 := rfl
      obtain ⟨T1, h1⟩ : ∃ T, T = S ++ (ByteArray.mk #[112, 105, 101, 99, 101, 32]) := ⟨_, rfl⟩
      obtain ⟨T2, h2'⟩ : ∃ T, T = T1 ++ X := ⟨_, rfl⟩
      obtain ⟨T3, h3⟩ : ∃ T, T = T2 ++ (ByteArray.mk #[32]) := ⟨_, rfl⟩
      obtain ⟨T4, h4⟩ : ∃ T, T = T3 ++ Y := ⟨_, rfl⟩
      obtain ⟨T5, h5⟩ : ∃ T, T = T4 ++ (ByteArray.mk #[10]) := ⟨_, rfl⟩
      have z1 : T1.size = S.size + 6 := by rw [h1, ByteArray.size_append, pz]
      have z2 : T2.size = T1.size + X.size := by rw [h2', ByteArray.size_append]
      have z3 : T3.size = T2.size + 1 := by rw [h3, ByteArray.size_append, qz]
      have z4 : T4.size = T3.size + Y.size := by rw [h4, ByteArray.size_append]
      have z5 : T5.size = T4.size + 1 := by rw [h5, ByteArray.size_append, nz]
      have z6 : T5.size ≤ 30 * (k + 1) := by omega
      have A1 := add_at S (ByteArray.mk #[112, 105, 101, 99, 101, 32]) T1 (by omega) h1.symm
      have A2 := add_at T1 X T2 (by omega) h2'.symm
      have A3 := add_at T2 (ByteArray.mk #[32]) T3 (by omega) h3.symm
      have A4 := add_at T3 Y T4 (by omega) h4.symm
      have A5 := add_at T4 (ByteArray.mk #[10]) T5 (by omega) h5.symm
      have c1' := (hb.cell (by exact hbB)).trans c1
      have c2' := (hb.cell (by exact hbB)).trans c2
      have ik : (k : Int) < (n2 : Int) := by omega
      have ik0 : (0 : Int) ≤ (k : Int) := by omega
      have hsz := hb.size
      have D1 := Later.cell (w0 := wr) (B := w2.heap.size) (by exact hbB) c1'
      have D2 := Later.cell (w0 := wr) (B := w2.heap.size) (by exact hbB) c2'
      clear hX hY h1 h2' h3 h4 h5 z1 z2 z3 z4 z5 pz qz nz hXz hYz hm hx c1 c2 c1' c2' hSz
      go_wp2_with fail
      refine wp_region_under (B := w2.heap.size) (w0 := wr) (by kernel_rfl) (by kernel_rfl) (Below.refl _ _) ?_
      repeat (go_big_quiet_step ((first
        | (go_at_call 43; with_reducible exact Calls.under hsz (K1'.out _))
        | (go_at_call 43; with_reducible exact Calls.under hsz (K2'.out _)))))
      refine wpQuiet_nil ?_
      rintro w3 ⟨q, hq⟩
      have hb3 := hb.trans (show Below w2.heap.size wr w3 by rw [hq]; exact q.2)
      clear hq q D1 D2 A1 A2 A3 A4 A5
      go_wp2
      go_roundw
      case rel => exact ⟨k + 1, T5, by omega, by go_num, rfl, z6, hb3⟩
      case measure => simp [intOf]; omega
    · -- the end of the first loop
      obtain rfl : k = n2 := by omega
      have HS1 : S.size ≤ 300 := by omega
      have hlt2 := hr2.lt
      have hrL := hr2.below hb hlt2
      have HB := hb2.trans (hb.mono hb2.size)
      have hz2 := hb.size
      have hnn : w.heap.size + 1 ≤ wr.heap.size := by omega
      clear hb hb2 h2 hPos hSz hln hr2 hlt
      go_wp2_with fail
      refine (l92Layers_any _ p2 wr hrL (by omega)).mono ?_
      rintro e w4 ⟨A4, n4, c4, l4, p4, rfl, ho4, hn4, hr4, hp4, hg4⟩
      have HB4 := HB.grown hg4 (by omega) (by intro j hj; simp at hj; omega)
      have ho5 := ho4.less hnn
      clear ho4 HB hrL hg4
      go_wp2_with fail
      go_loopw [4, 8] (fun s i wr => ∃ (k q : Nat) (S : ByteArray), k ≤ n4 ∧ i = .int .i64 k ∧ s = .string S ∧ S.size ≤ 300 + 400 * k ∧ Own LL 2 wr (w.heap.size + 1) 73 (.slice A4 n4 c4) n4 l4 ∧ Rd wr w.heap.size 104 q ∧ q ≤ p4 + k ∧ Below w.heap.size w wr) (fun _ i _ => n4 - (intOf i).toNat)
      case atStart => exact ⟨0, p4, S, Nat.zero_le _, rfl, rfl, by omega, ho5, hr4, by omega, HB4⟩
      case round =>
        clear ho5 hr4 HB4 HS1
        obtain ⟨k, q, S, hk, rfl, rfl, hSz, hw, hr, hq, HB⟩ := hrel
        by_cases hlt : k < n4
        · have ik : (k : Int) < (n4 : Int) := by omega
          have ik0 : (0 : Int) ≤ (k : Int) := by omega
          go_wp2_with fail
          refine (pick_any _ q 8 _ hr (by omega) (by omega)).mono ?_
          rintro e w5 ⟨r, rfl, hr8, hr5, hg5⟩
          have hw5 := hw.kept hg5 (by intro j hj; injection hj with hj; omega)
          have HB5 := HB.grown hg5 HB.size (by intro j hj; simp at hj; omega)
          clear hw hr HB hg5 hr8
          by_cases hr0 : r = 0
          · subst hr0
            obtain ⟨v, hv⟩ : ∃ v, v = q + 1 := ⟨_, rfl⟩
            rw [← hv] at hr5
            have hr := hr5
            have HB := HB5
            clear hw5 hr5 HB5 ik ik0
            have HS2 : S.size ≤ 4000 := by omega
            clear hSz
            go_wp2_with fail
            refine (pick_any _ v 6 _ hr (by omega) (by omega)).mono ?_
            rintro e w6 ⟨m, rfl, hm, hr6, hg6⟩
            have HB6 := HB.grown hg6 HB.size (by intro j hj; simp at hj; omega)
            have hm6 : m < 6 := by omega
            clear hr HB hg6 hm
            go_wp2_with fail
            go_loopw [4, 10] (fun s i wr => ∃ (k q : Nat) (S : ByteArray), k ≤ m ∧ i = .int .i64 k ∧ s = .string S ∧ S.size ≤ 4000 + 61 * k ∧ Rd wr w.heap.size 104 q ∧ q ≤ 3000 + 5 * k ∧ Below w.heap.size w wr) (fun _ i _ => m - (intOf i).toNat)
            case atStart => exact ⟨0, v + 1, S, Nat.zero_le _, rfl, rfl, by omega, hr6, by omega, HB6⟩
            case round =>
              clear hr6 HB6
              obtain ⟨k, q, S, hk, rfl, rfl, hSz, hr, hq, HB⟩ := hrel
              by_cases hlt : k < m
              · have ik : (k : Int) < (m : Int) := by omega
                go_wp2_with fail
                refine (l93Line_any _ q _ hr (by omega)).mono ?_
                rintro e w7 ⟨X, q2, rfl, hXz, hr7, hq7, hg7⟩
                have HB7 := HB.grown hg7 HB.size (by intro j hj; simp at hj; omega)
                obtain ⟨T1, h1⟩ : ∃ T, T = S ++ X := ⟨_, rfl⟩
                obtain ⟨T2, h2'⟩ : ∃ T, T = T1 ++ (ByteArray.mk #[10]) := ⟨_, rfl⟩
                have nz : (ByteArray.mk #[10]).size = 1 := rfl
                have z1 : T1.size = S.size + X.size := by rw [h1, ByteArray.size_append]
                have z2 : T2.size = T1.size + 1 := by rw [h2', ByteArray.size_append, nz]
                have z3 : T2.size ≤ 4000 + 61 * (k + 1) := by omega
                have A1 := add_at S X T1 (by omega) h1.symm
                have A2 := add_at T1 (ByteArray.mk #[10]) T2 (by omega) h2'.symm
                clear h1 h2' z1 z2 nz hXz hr HB hg7
                go_wp2
                go_roundw
                case rel => exact ⟨k + 1, q2, T2, by omega, by go_num, rfl, z3, hr7, by omega, HB7⟩
                case measure => simp [intOf]; omega
              · obtain rfl : k = m := by omega
                have HS3 : S.size ≤ 5000 := by omega
                clear hlt hSz
                go_wp2_with fail
                refine (pick_any _ q 24 _ hr (by omega) (by omega)).mono ?_
                rintro e w8 ⟨z, rfl, hz, hr8, hg8⟩
                have HB8 := HB.grown hg8 HB.size (by intro j hj; simp at hj; omega)
                clear hr HB hg8 hr8 hz
                by_cases hz0 : z = 0
                · subst hz0
                  obtain ⟨T1, h1⟩ : ∃ T, T = S ++ (ByteArray.mk #[99, 111, 114, 101]) := ⟨_, rfl⟩
                  have nz : (ByteArray.mk #[99, 111, 114, 101]).size = 4 := rfl
                  have z1 : T1.size = S.size + 4 := by rw [h1, ByteArray.size_append, nz]
                  have A1 := add_at S (ByteArray.mk #[99, 111, 114, 101]) T1 (by omega) h1.symm
                  clear h1 nz
                  go_wp2_with fail
                  go_ret
                  exact ⟨T1, rfl, by omega, HB8⟩
                · by_cases hz1 : z = 1
                  · subst hz1
                    have d0 : ((1 : Int) == 0) = false := rfl
                    have KM := Lib.hid (fun W => l6Many_any (ByteArray.mk #[99, 111, 114, 101, 10]) 90 (by decide) (by decide) (by decide) W)
                    go_wp2_with fail
                    refine (KM.out _).mono ?_
                    rintro e w9 ⟨X, rfl, hXz, rfl⟩
                    obtain ⟨T1, h1⟩ : ∃ T, T = S ++ X := ⟨_, rfl⟩
                    have z1 : T1.size = S.size + X.size := by rw [h1, ByteArray.size_append]
                    have A1 := add_at S X T1 (by omega) h1.symm
                    clear h1
                    go_wp2_with fail
                    go_ret
                    exact ⟨T1, rfl, by omega, HB8⟩
                  · have d0 : ((z : Int) == 0) = false := by simp; omega
                    have d1 : ((z : Int) == 1) = false := by simp; omega
                    go_wp2_with fail
                    go_ret
                    exact ⟨S, rfl, by omega, HB8⟩
          · have r0 : (0 : Int) < (r : Int) := by omega
            have hw := hw5
            clear hw5
            have hne : 0 < n4 := by omega
            obtain ⟨G4, cG, e4, hG4, hG5, hkc⟩ := hw.head hne
            injection e4 with e4 _ e4c
            subst e4; subst e4c
            have hkl : k < l4.length := by rw [hw.1]; exact hlt
            obtain ⟨x, y, hab⟩ : ∃ x y, l4[k]? = some (x, y) := ⟨l4[k].1, l4[k].2, List.getElem?_eq_getElem hkl⟩
            obtain ⟨f0, f1⟩ := hw.layAt hab
            obtain ⟨mx, hmx⟩ : ∃ mx : Int, (if x < 30000 then x else 30000) = mx := ⟨_, rfl⟩
            have hmx2 : min 30000 x = mx := by rw [← hmx]; split <;> omega
            obtain ⟨X, hX⟩ : ∃ X, X = tx (layersT [(mx, y)]) := ⟨_, rfl⟩
            have hXz : X.size ≤ 320 := by rw [hX, tx_size]; exact layersT_len _
            have CT := Lib.hid (fun A W h => specLayersText_any A 1 1 [(mx, y)] W h (by omega))
            rw [← hX] at CT
            have pz : (ByteArray.mk #[108, 97, 121, 101, 114, 32]).size = 6 := rfl
            obtain ⟨T1, h1⟩ : ∃ T, T = S ++ (ByteArray.mk #[108, 97, 121, 101, 114, 32]) := ⟨_, rfl⟩
            obtain ⟨T2, h2'⟩ : ∃ T, T = T1 ++ X := ⟨_, rfl⟩
            have z1 : T1.size = S.size + 6 := by rw [h1, ByteArray.size_append, pz]
            have z2 : T2.size = T1.size + X.size := by rw [h2', ByteArray.size_append]
            have z3 : T2.size ≤ 300 + 400 * (k + 1) := by omega
            have A1 := add_at S (ByteArray.mk #[108, 97, 121, 101, 114, 32]) T1 (by omega) h1.symm
            have A2 := add_at T1 X T2 (by omega) h2'.symm
            have AR := Lib.hid (arr_newL w5 mx y 73)
            have BW := Lib.hid (below_newL w5 mx y 73)
            clear h1 h2' z1 z2 pz hXz hX hSz hab hkl
            go_wp2_with fail
            have HR5 := Lib.hid hr5
            have HB5' := Lib.hid HB5
            have HW5 := Lib.hid hw
            clear hr5 HB5 hw
            go_region_with (go_at_call 53; refine (CT.out _ _ AR.out).mono ?_; rintro e w6 ⟨rfl, b6⟩)
            all_goals (
              have B6 := Lib.hid (BW.out.trans (Below.mono b6 BW.out.size))
              have hw6 := HW5.out.below B6.out (Nat.le_refl _)
              have hr6 := HR5.out.below B6.out HR5.out.lt
              have HB6 := HB5'.out.trans (B6.out.mono HB5'.out.size)
              clear b6 f0 f1
              go_wp2
              go_roundw
              case rel => exact ⟨k + 1, q + 1, T2, by omega, by go_num, rfl, z3, hw6, hr6, by omega, HB6⟩
              case measure => simp [intOf]; omega)
        · obtain rfl : k = n4 := by omega
          obtain ⟨v, hv⟩ : ∃ v, v = q := ⟨_, rfl⟩
          rw [← hv] at hr
          clear hlt hw
          have HS2 : S.size ≤ 4000 := by omega
          clear hSz
          go_wp2_with fail
          refine (pick_any _ v 6 _ hr (by omega) (by omega)).mono ?_
          rintro e w6 ⟨m, rfl, hm, hr6, hg6⟩
          have HB6 := HB.grown hg6 HB.size (by intro j hj; simp at hj; omega)
          have hm6 : m < 6 := by omega
          clear hr HB hg6 hm
          go_wp2_with fail
          go_loopw [4, 10] (fun s i wr => ∃ (k q : Nat) (S : ByteArray), k ≤ m ∧ i = .int .i64 k ∧ s = .string S ∧ S.size ≤ 4000 + 61 * k ∧ Rd wr w.heap.size 104 q ∧ q ≤ 3000 + 5 * k ∧ Below w.heap.size w wr) (fun _ i _ => m - (intOf i).toNat)
          case atStart => exact ⟨0, v + 1, S, Nat.zero_le _, rfl, rfl, by omega, hr6, by omega, HB6⟩
          case round =>
            clear hr6 HB6
            obtain ⟨k, q, S, hk, rfl, rfl, hSz, hr, hq, HB⟩ := hrel
            by_cases hlt : k < m
            · have ik : (k : Int) < (m : Int) := by omega
              go_wp2_with fail
              refine (l93Line_any _ q _ hr (by omega)).mono ?_
              rintro e w7 ⟨X, q2, rfl, hXz, hr7, hq7, hg7⟩
              have HB7 := HB.grown hg7 HB.size (by intro j hj; simp at hj; omega)
              obtain ⟨T1, h1⟩ : ∃ T, T = S ++ X := ⟨_, rfl⟩
              obtain ⟨T2, h2'⟩ : ∃ T, T = T1 ++ (ByteArray.mk #[10]) := ⟨_, rfl⟩
              have nz : (ByteArray.mk #[10]).size = 1 := rfl
              have z1 : T1.size = S.size + X.size := by rw [h1, ByteArray.size_append]
              have z2 : T2.size = T1.size + 1 := by rw [h2', ByteArray.size_append, nz]
              have z3 : T2.size ≤ 4000 + 61 * (k + 1) := by omega
              have A1 := add_at S X T1 (by omega) h1.symm
              have A2 := add_at T1 (ByteArray.mk #[10]) T2 (by omega) h2'.symm
              clear h1 h2' z1 z2 nz hXz hr HB hg7
              go_wp2
              go_roundw
              case rel => exact ⟨k + 1, q2, T2, by omega, by go_num, rfl, z3, hr7, by omega, HB7⟩
              case measure => simp [intOf]; omega
            · obtain rfl : k = m := by omega
              have HS3 : S.size ≤ 5000 := by omega
              clear hlt hSz
              go_wp2_with fail
              refine (pick_any _ q 24 _ hr (by omega) (by omega)).mono ?_
              rintro e w8 ⟨z, rfl, hz, hr8, hg8⟩
              have HB8 := HB.grown hg8 HB.size (by intro j hj; simp at hj; omega)
              clear hr HB hg8 hr8 hz
              by_cases hz0 : z = 0
              · subst hz0
                obtain ⟨T1, h1⟩ : ∃ T, T = S ++ (ByteArray.mk #[99, 111, 114, 101]) := ⟨_, rfl⟩
                have nz : (ByteArray.mk #[99, 111, 114, 101]).size = 4 := rfl
                have z1 : T1.size = S.size + 4 := by rw [h1, ByteArray.size_append, nz]
                have A1 := add_at S (ByteArray.mk #[99, 111, 114, 101]) T1 (by omega) h1.symm
                clear h1 nz
                go_wp2_with fail
                go_ret
                exact ⟨T1, rfl, by omega, HB8⟩
              · by_cases hz1 : z = 1
                · subst hz1
                  have d0 : ((1 : Int) == 0) = false := rfl
                  have KM := Lib.hid (fun W => l6Many_any (ByteArray.mk #[99, 111, 114, 101, 10]) 90 (by decide) (by decide) (by decide) W)
                  go_wp2_with fail
                  refine (KM.out _).mono ?_
                  rintro e w9 ⟨X, rfl, hXz, rfl⟩
                  obtain ⟨T1, h1⟩ : ∃ T, T = S ++ X := ⟨_, rfl⟩
                  have z1 : T1.size = S.size + X.size := by rw [h1, ByteArray.size_append]
                  have A1 := add_at S X T1 (by omega) h1.symm
                  clear h1
                  go_wp2_with fail
                  go_ret
                  exact ⟨T1, rfl, by omega, HB8⟩
                · have d0 : ((z : Int) == 0) = false := by simp; omega
                  have d1 : ((z : Int) == 1) = false := by simp; omega
                  go_wp2_with fail
                  go_ret
                  exact ⟨S, rfl, by omega, HB8⟩
end Go.Proofs.YtefadlbfkhndfaaGreatDoor
