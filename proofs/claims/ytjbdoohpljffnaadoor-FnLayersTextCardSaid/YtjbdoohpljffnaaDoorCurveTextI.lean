/-
  Contract: CurveText of the program, from the contract of its CurveValid.
-/
import Derived.Test.YtjbdoohpljffnaaDoorCurveText
import Derived.Test.YtjbdoohpljffnaaDoorBuilder
import Derived.Deep.RegionWith
namespace Go.Proofs.YtjbdoohpljffnaaDoor
open Go.RowKit
set_option linter.unusedSimpArgs false
set_option linter.unusedVariables false

theorem knotsT_len {l : List Pc} {a b : Int} (h : curveFrom a b l = true) (ha : -1 ≤ a) (hb : -1 ≤ b) : ∀ k, k ≤ l.length → (knotsT (l.take k)).length ≤ 14 * k := by
  intro k
  induction k with
  | zero => intro _; simp [knotsT]
  | succ k ih =>
    intro hk
    have hx : l[k]? = some l[k] := List.getElem?_eq_getElem (by omega)
    have hm := curveFrom_mem h _ (List.getElem_mem (show k < l.length by omega))
    have a1 := dec_short (u := l[k].1.toNat) (by omega)
    have a2 := dec_short (u := l[k].2.toNat) (by omega)
    have := ih (by omega)
    rw [knotsT_snoc hx]
    unfold knT
    simp only [List.length_append, List.length_cons, List.length_nil]
    omega

set_option maxRecDepth 100000 in
set_option maxHeartbeats 4000000 in
theorem implCurveText_of (A : Option Addr) (n c : Nat) (l : List Pc) (w : World) (h : Arr PP 2 w w.heap.size A n l) (hn : n ≤ 1099511627776) (hT : Tab w)
    (KV : Calls Tryd.prog 46 #[.slice A n c] w fun e w' => e = .returned (.bool (curveB l)) ∧ Below w.heap.size w w') :
    Calls Tryd.prog 19 #[.slice A n c] w fun e w' => e = .returned (.string (tx (curveT l))) ∧ Below w.heap.size w w' := by
  have hln := Lib.hid h.1
  have HT := Lib.hid hT
  clear hT
  cases hB : curveB l with
  | false =>
    rw [hB] at KV
    have C' := Lib.hid KV
    have hL := Lib.hid (show curveT l = [] by unfold curveT; rw [hB]; rfl)
    clear KV hB
    go_enter Tryd.func19, Tryd.ntmps19
    go_wp2_with fail
    refine C'.out.mono ?_
    rintro e w1 ⟨rfl, b1⟩
    go_wp2
    go_ret
    exact ⟨ret_str (by rw [hL.out]; rfl), b1⟩
  | true =>
    rw [hB] at KV
    have C' := Lib.hid KV
    have hL := Lib.hid (show curveT l = knotsT l by unfold curveT; rw [if_pos hB])
    obtain ⟨hF, h2, h12⟩ := (curveB_iff l).1 hB
    rw [hln.out] at h12
    have hF' := Lib.hid hF
    clear KV hB hF h2
    go_enter Tryd.func19, Tryd.ntmps19
    go_wp2_with fail
    refine C'.out.mono ?_
    rintro e w1 ⟨rfl, b1⟩
    clear C'
    go_wp2_with fail
    have hBd := Bd.fresh w1
    have b2 := b1.alloc b1.size (.cells #[.pointer none, .slice none 0 0] 69)
    have hG := b1.size
    generalize w1.alloc (.cells #[.pointer none, .slice none 0 0] 69) = w2 at hBd b2 ⊢
    generalize w1.heap.size = G at hBd hG ⊢
    clear b1
    go_loopw [11] (fun i wr => ∃ (k : Nat), k ≤ n ∧ i = .int .i64 k ∧ Bd wr G (knotsT (l.take k)) ∧ Below w.heap.size w wr) (fun i _ => n - (intOf i).toNat)
    case atStart => exact ⟨0, Nat.zero_le _, rfl, hBd, b2⟩
    case round =>
      obtain ⟨k, hk, rfl, hw, hb⟩ := hrel
      by_cases hlt : k < n
      · obtain ⟨b, off, x, y, rfl, hbB, hx, c1, c2⟩ := h.pair hlt
        have hm := curveFrom_mem hF'.out _ (List.mem_of_getElem? hx)
        have hm1 : -1 < x ∧ x ≤ 30000 ∧ -1 < y ∧ y ≤ 30000 := hm
        have hlen := knotsT_len hF'.out (by omega) (by omega) k (by rw [hln.out]; omega)
        obtain ⟨u, rfl⟩ : ∃ u : Nat, x = u := ⟨x.toNat, by omega⟩
        obtain ⟨v, rfl⟩ : ∃ v : Nat, y = v := ⟨y.toNat, by omega⟩
        have hu : u ≤ 100000 := by omega
        have hv : v ≤ 100000 := by omega
        obtain ⟨T1, hT1⟩ : ∃ T, T = tx (Lib.decDigits u) ++ tx [32] := ⟨_, rfl⟩
        obtain ⟨T2, hT2⟩ : ∃ T, T = T1 ++ tx (Lib.decDigits v) := ⟨_, rfl⟩
        obtain ⟨T3, hT3⟩ : ∃ T, T = T2 ++ tx [10] := ⟨_, rfl⟩
        have q1 := kndec_tx hu
        have q2 := kndec_tx hv
        have z1 : T1.size = (tx (Lib.decDigits u)).size + 1 := by rw [hT1, ByteArray.size_append, tx_size [32]]; rfl
        have z2 : T2.size = T1.size + (tx (Lib.decDigits v)).size := by rw [hT2, ByteArray.size_append]
        have hT3' : T3 = tx (knT ((u : Int), (v : Int))) := by
          rw [hT3, hT2, hT1]
          simp only [tx_add]
          refine congrArg tx ?_
          simp [knT]
        have A1 : ∀ W : World, (Op.stringOp .add (tx (Lib.decDigits u)) ⟨#[32]⟩).run Tryd.prog W = .ok (.string T1) W := knadd_at (tx (Lib.decDigits u)) (tx [32]) T1 (by rw [tx_size [32]]; simp; omega) hT1.symm
        have A2 := knadd_at T1 (tx (Lib.decDigits v)) T2 (by omega) hT2.symm
        have A3 : ∀ W : World, (Op.stringOp .add T2 ⟨#[10]⟩).run Tryd.prog W = .ok (.string T3) W := knadd_at T2 (tx [10]) T3 (by rw [tx_size [10]]; simp; omega) hT3.symm
        have hkl : (knT ((u : Int), (v : Int))).length ≤ 14 := by rw [← tx_size, ← hT3', hT3, ByteArray.size_append, tx_size [10]]; simp; omega
        have KW := Lib.hid (fun W (hW : Bd W G (knotsT (l.take k))) => show Calls Tryd.prog 52 #[.pointer (some ⟨G, 0, none⟩), .string T3] W (WrotePost G (knotsT (l.take k)) (knT ((u : Int), (v : Int))) W) by
          rw [hT3']; exact wstr_any G _ _ W hW (by omega))
        have HF := Lib.hid (knotsT_snoc hx)
        have c1' := (hb.cell (by exact hbB)).trans c1
        have c2' := (hb.cell (by exact hbB)).trans c2
        have ik : (k : Int) < (n : Int) := by omega
        have ik0 : (0 : Int) ≤ (k : Int) := by omega
        have hsz := hb.size
        have HTr := Lib.hid (HT.out.below hb (Nat.le_refl _))
        have HW := Lib.hid hw
        clear hT1 hT2 hT3 hT3' q1 q2 z1 z2 hx hm hm1 c1 c2 hw hlen hkl
        go_wp2_with fail
        obtain ⟨d1, d2⟩ := (new_two wr (.int .i64 (u : Int)) (.int .i64 (v : Int)) 64)
        have HTp := HTr.out.alloc (.cells #[.int .i64 (u : Int), .int .i64 (v : Int)] 64)
        have Bp := hb.alloc hsz (.cells #[.int .i64 (u : Int), .int .i64 (v : Int)] 64)
        have HBp := HW.out.below ((Below.refl wr.heap.size wr).alloc (Nat.le_refl _) (.cells #[.int .i64 (u : Int), .int .i64 (v : Int)] 64)) (Nat.le_refl _)
        have hPl : wr.heap.size < (wr.alloc (.cells #[.int .i64 (u : Int), .int .i64 (v : Int)] 64)).heap.size := by simp
        generalize wr.alloc (.cells #[.int .i64 (u : Int), .int .i64 (v : Int)] 64) = wp at d1 d2 HTp Bp HBp hPl ⊢
        generalize wr.heap.size = P at d1 d2 hPl ⊢
        have hszp := Bp.size
        have HO := Lib.hid HBp
        have HTq := Lib.hid HTp.drew
        clear HTp HBp c1' c2' HTr HW
        go_region_with (first
          | (go_at_call_of 53 (Value.int .i64 (u : Int)); refine (itoa_any u hu wp.drew HTq.out).mono ?_; rintro e w3 ⟨rfl, b3⟩; have S3 : Below wp.heap.size wp w3 := ((Below.refl wp.heap.size wp).drew).trans b3; have T3' := Lib.hid (HTq.out.below b3 (Nat.le_refl _)); have d2' := (S3.cell (p := ⟨P, 1, none⟩) (by exact hPl)).trans d2; have z3 := S3.size)
          | (go_at_call 53; refine (itoa_any v hv w3 T3'.out).mono ?_; rintro e w4 ⟨rfl, b4⟩; have S4 : Below wp.heap.size wp w4 := S3.trans (b4.mono z3))
          | (go_at_call 52; refine (KW.out w4 (HO.out.below S4 (Nat.le_refl _))).mono ?_; rintro e w5 ⟨rfl, hBd5, b5⟩))
        all_goals
          have hBd6 : Bd w5 G (knotsT (l.take (k + 1))) := by rw [HF.out]; exact hBd5
          have hb6 := (Bp.trans (S4.mono hszp)).trans (b5.mono hG)
          clear hBd5 b5 S4 b4 S3 b3 A1 A2 A3 d1 d2
          go_wp2
          go_roundw
          case rel => exact ⟨k + 1, by omega, by go_num, hBd6, hb6⟩
          case measure => simp [intOf]; omega
      · obtain rfl : k = n := by omega
        have hxs : knotsT (l.take k) = knotsT l := by rw [List.take_of_length_le (by rw [hln.out]; exact Nat.le_refl _)]
        rw [hxs, ← hL.out] at hw
        have J' := Lib.hid (bstr_any G _ wr hw)
        have hlg := hw.lt
        clear hxs hw
        go_wp2_with fail
        refine J'.out.mono ?_
        rintro e w5 ⟨rfl, b5⟩
        go_wp2
        go_ret
        exact ⟨rfl, hb.trans (b5.mono hG)⟩
end Go.Proofs.YtjbdoohpljffnaaDoor
