/-
  Contract: the program's SampleCut.
-/
import Derived.Test.YtjhbpilgejbmjaaSaw
import Derived.Test.YtjhbpilgejbmjaaRanges
import Derived.Test.YtjhbpilgejbmjaaNeed
import Derived.Test.YtjhbpilgejbmjaaWidths
namespace Go.Proofs.Ytjhbpilgejbmjaa
open Go.RowKit
set_option linter.unusedSimpArgs false
set_option linter.unusedVariables false

def cutOk (l : List Pc) (os : List (Int × Int)) (kf : Int) : Bool := coreB l && ordersB os && decide (0 ≤ kf ∧ kf ≤ 100)
theorem cutOk_iff (l : List Pc) (os : List (Int × Int)) (kf : Int) : cutOk l os kf = true ↔ coreB l = true ∧ ordersB os = true ∧ (0 ≤ kf ∧ kf ≤ 100) := by
  simp only [cutOk, Bool.and_eq_true, decide_eq_true_eq, and_assoc]
def cutAll (l : List Pc) (os : List (Int × Int)) (kf : Int) : Option (List Int × List Pc) := if cutOk l os kf = true then cutW kf (widths os) l else none
def cutX (r : Option (List Int × List Pc)) : List Int := match r with
  | none => []
  | some q => q.1
def cutLeft (r : Option (List Int × List Pc)) : Int := match r with
  | none => 0
  | some q => lenOf q.2
/-- A call hands back the tops of the samples (a row of its own), what is left, and whether there was enough ice. -/
def RetCut (T : TypeId) (w : World) (r : Option (List Int × List Pc)) (e : Ending) (w' : World) : Prop :=
  ∃ A n c, e = .returned (.tuple #[.slice A n c, .int .i64 (cutLeft r), .bool r.isSome]) ∧ Own II 1 w' w.heap.size T (.slice A n c) n (cutX r) ∧ Below w.heap.size w w'
theorem retCut_none {T : TypeId} {w w' : World} {r : Option (List Int × List Pc)} (hr : r = none) (hb : Below w.heap.size w w') : RetCut T w r (.returned (.tuple #[.slice none 0 0, .int .i64 0, .bool false])) w' := by
  subst hr
  exact ⟨none, 0, 0, rfl, Own.nil_ _ _ _ _ _, hb⟩
theorem retCut_some {T : TypeId} {w w' : World} {r : Option (List Int × List Pc)} {xs : List Int} {L : List Pc} {A : Option Addr} {n c : Nat} {k : Int} (hr : r = some (xs, L)) (hk : k = lenOf L) (ho : Own II 1 w' w.heap.size T (.slice A n c) n xs) (hb : Below w.heap.size w w') :
    RetCut T w r (.returned (.tuple #[.slice A n c, .int .i64 k, .bool true])) w' := by
  subst hr; subst hk
  exact ⟨A, n, c, rfl, ho, hb⟩

/-- The same with its parts named. -/
def RetTops (T : TypeId) (w : World) (xs : List Int) (left : Int) (ok : Bool) (e : Ending) (w' : World) : Prop :=
  ∃ A n c, e = .returned (.tuple #[.slice A n c, .int .i64 left, .bool ok]) ∧ Own II 1 w' w.heap.size T (.slice A n c) n xs ∧ Below w.heap.size w w'

theorem isKerf_any (x : Int) (b : Bool) (hb : decide (0 ≤ x ∧ x ≤ 100) = b) (w : World) : Calls Try.prog 41 #[.int .i64 x] w fun e w' => e = .returned (.bool b) ∧ w = w' := by
  rcases (show x < 0 ∨ (0 ≤ x ∧ 100 < x) ∨ (0 ≤ x ∧ x ≤ 100) by omega) with h | ⟨h, h2⟩ | ⟨h, h2⟩
  · rw [decide_eq_false (by omega)] at hb
    subst hb
    go_enter Try.func41, Try.ntmps41
    go_wp2
    go_ret
    exact ⟨rfl, rfl⟩
  · rw [decide_eq_false (by omega)] at hb
    subst hb
    go_enter Try.func41, Try.ntmps41
    go_wp2
    go_ret
    exact ⟨ret_bool (by simp; omega), rfl⟩
  · rw [decide_eq_true (by omega)] at hb
    subst hb
    exact isKerf_yes x w h h2

theorem coreLen_of {L : List Pc} (h : coreFrom 0 L = true) (hl : L.length ≤ 20) : coreLen L = lenOf L := coreLen_good ((coreB_iff L).2 ⟨h, hl⟩)
theorem widths_take_cut {kf : Int} {os : List (Int × Int)} {l : List Pc} {k : Nat} (h : cutW kf (widths (os.take k)) l = none) : cutW kf (widths os) l = none := by
  have : widths os = widths (os.take k) ++ widths (os.drop k) := by simp only [widths, ← List.flatMap_append, List.take_append_drop]
  rw [this]
  exact cutW_none h

theorem Saw.turn {Z Z' : Nat → Prop} {w : World} {g : Nat} {T : TypeId} {kf : Int} {n : Nat} {L : List Pc} (h : Saw Z w g T kf n L) (hz : ∀ b, b < w.heap.size → Z' b → Z b) : Saw Z' w g T kf n L := by
  obtain ⟨A, c, h1, h2, h3, h4⟩ := h
  refine ⟨A, c, h1, h2, h3, fun b off hn e => ?_⟩
  obtain ⟨o1, o2⟩ := h4 b off hn e
  refine ⟨o1, fun h => o2 (hz b ?_ h)⟩
  obtain ⟨b', off', e', hb, _⟩ := h3.2 hn
  rw [e] at e'
  injection e' with e'
  injection e' with e' _
  omega
theorem Saw.turn' {Z Z' : Nat → Prop} {w : World} {g : Nat} {T : TypeId} {kf : Int} {n : Nat} {L : List Pc} (h : Saw Z w g T kf n L) (h' : Saw Z' w g T kf n L) : Saw (fun b => Z b ∨ Z' b) w g T kf n L := by
  obtain ⟨A, c, h1, h2, h3, h4⟩ := h
  obtain ⟨A', c', h1', h2', h3', h4'⟩ := h'
  rw [h1] at h1'
  injection h1' with h1'
  injection h1' with e1 _ _
  have e2 := congrArg (fun (a : Array Value) => a[0]?) e1
  simp at e2
  obtain ⟨rfl, rfl⟩ := e2
  exact ⟨A, c, h1, h2, h3, fun b off hn e => ⟨(h4 b off hn e).1, fun hz => hz.elim (h4 b off hn e).2 (h4' b off hn e).2⟩⟩
theorem Saw.row {Z : Nat → Prop} {w w' : World} {g : Nat} {T : TypeId} {kf : Int} {n : Nat} {L : List Pc} {row : Option Nat} (h : Saw Z w g T kf n L) (hg : w.grownBy w' row) (hr : ∀ k, row = some k → k ≠ g ∧ Z k) : Saw Z w' g T kf n L := by
  have hgl := h.lt
  obtain ⟨A, c, h1, h2, h3, h4⟩ := h
  refine ⟨A, c, (hg.block g hgl (fun e => (hr g e.symm).1 rfl)).trans h1, h2, ⟨h3.1, fun hn => ?_⟩, h4⟩
  obtain ⟨b, off, e, hb, hc⟩ := h3.2 hn
  have := hg.size
  exact ⟨b, off, e, by omega, fun k x hx j u hu => (World.cell?_of_block (hg.block b hb (fun e' => (h4 b off hn e).2 (hr b e'.symm).2))).trans (hc k x hx j u hu)⟩

set_option maxHeartbeats 2000000 in
theorem implCut_any (A : Option Addr) (n c : Nat) (l : List Pc) (A' : Option Addr) (n' c' : Nat) (os : List (Int × Int)) (kf : Int) (w : World) (h : Arr PP 2 w w.heap.size A n l) (hc : n ≤ c) (hn : n ≤ 1099511627776)
    (h' : Arr PP 2 w w.heap.size A' n' os) (hn' : n' ≤ 1099511627776) :
    Calls Try.prog 14 #[.slice A n c, .slice A' n' c', .int .i64 kf] w (RetCut 3 w (cutAll l os kf)) := by
  obtain ⟨i0, hi, hz0, hz1, hz2⟩ := info_parts infoInt
  have C := implCoreValid_any A n c l w h hn
  cases hB : coreB l with
  | false =>
    rw [hB] at C
    have C' := Lib.hid C
    have hL := Lib.hid (show cutAll l os kf = none by unfold cutAll cutOk; rw [hB]; rfl)
    clear C hB
    go_enter Try.func14, Try.ntmps14
    go_wp2_with fail
    refine C'.out.mono ?_
    rintro e w1 ⟨rfl, hb⟩
    go_wp2
    go_ret3
    exact retCut_none hL.out hb
  | true =>
    rw [hB] at C
    have C' := Lib.hid C
    clear C
    cases hO : ordersB os with
    | false =>
      have hL := Lib.hid (show cutAll l os kf = none by unfold cutAll cutOk; rw [hB, hO]; rfl)
      have hN : need os = -1 := by unfold need; rw [hO]; rfl
      have N := fun w hw => implNeed_any A' n' c' os w hw hn'
      rw [hN] at N
      have N' := Lib.hid N
      clear hB hO hN N
      go_enter Try.func14, Try.ntmps14
      go_wp2_with fail
      refine C'.out.mono ?_
      rintro e w1 ⟨rfl, hb⟩
      go_wp2_with fail
      refine (N'.out _ ((h'.below' hb).more hb.size)).mono ?_
      rintro e w2 ⟨rfl, hb2⟩
      have hb3 := hb.trans (hb2.mono hb.size)
      clear hb hb2
      go_wp2
      go_ret3
      exact retCut_none hL.out hb3
    | true =>
      have N := fun w hw => implNeed_any A' n' c' os w hw hn'
      have hN := (need_good ((ordersB_iff os).1 hO).1 ((ordersB_iff os).1 hO).2)
      have hN2 := needOf_bd ((ordersB_iff os).1 hO).1
      rw [hN] at N
      have hN0 := hN2.1
      generalize needOf os = nd at N hN0
      have N' := Lib.hid N
      clear hN hN2 N
      cases hK : decide (0 ≤ kf ∧ kf ≤ 100) with
      | false =>
        have hL := Lib.hid (show cutAll l os kf = none by unfold cutAll cutOk; rw [hB, hO, hK]; rfl)
        have K := fun w => isKerf_any kf _ hK w
        have K' := Lib.hid K
        clear hB hO hK K
        go_enter Try.func14, Try.ntmps14
        go_wp2_with fail
        refine C'.out.mono ?_
        rintro e w1 ⟨rfl, hb⟩
        go_wp2_with fail
        refine (N'.out _ ((h'.below' hb).more hb.size)).mono ?_
        rintro e w2 ⟨rfl, hb2⟩
        have hb3 := hb.trans (hb2.mono hb.size)
        clear hb hb2
        go_wp2_with fail
        refine (K'.out _).mono ?_
        rintro e w3 ⟨rfl, rfl⟩
        go_wp2
        go_ret3
        exact retCut_none hL.out hb3
      | true =>
        have hL := Lib.hid (show cutAll l os kf = cutW kf (widths os) l by unfold cutAll cutOk; rw [hB, hO, hK]; rfl)
        have K := fun w => isKerf_any kf _ hK w
        have K' := Lib.hid K
        obtain ⟨k0, k1⟩ : 0 ≤ kf ∧ kf ≤ 100 := of_decide_eq_true hK
        have hF := Lib.hid ((coreB_iff l).1 hB).1
        have h20 := ((coreB_iff l).1 hB).2
        rw [h.1] at h20
        have hall := Lib.hid ((ordersB_iff os).1 hO).1
        have h8 := ((ordersB_iff os).1 hO).2
        rw [h'.1] at h8
        have hln := Lib.hid h.1
        have hlo := Lib.hid h'.1
        clear hB hO hK K
        go_enter Try.func14, Try.ntmps14
        go_wp2_with fail
        refine C'.out.mono ?_
        rintro e w0 ⟨rfl, hb0⟩
        go_wp2_with fail
        refine (N'.out _ ((h'.below' hb0).more hb0.size)).mono ?_
        rintro e w1 ⟨rfl, hb2⟩
        have hb1 := hb0.trans (hb2.mono hb0.size)
        clear hb0 hb2
        go_wp2_with fail
        refine (K'.out _).mono ?_
        rintro e w3 ⟨rfl, rfl⟩
        go_wp2
        have hS0 : Saw (fun b => Value.ownBlock (.slice none 0 0) = some b) (w1.alloc (.cells #[.slice A n c, .int .i64 kf] 63)) w1.heap.size 63 kf n l :=
          ⟨A, c, heap_alloc_new w1 _, hc, ((h.below' hb1).alloc hb1.size _).more (by have := hb1.size; simp; omega), fun b off hn0 e => by
            refine ⟨?_, fun h => by cases h⟩
            obtain ⟨b', off', e', hb', _⟩ := h.2 hn0
            rw [e] at e'
            injection e' with e'
            injection e' with e' _
            have := hb1.size
            omega⟩
        have hB0 : Below w.heap.size w (w1.alloc (.cells #[.slice A n c, .int .i64 kf] 63)) := hb1.alloc hb1.size _
        have hGs := hb1.size
        have h2 := (h'.below' hB0)
        generalize w1.alloc (.cells #[.slice A n c, .int .i64 kf] 63) = w2 at hS0 hB0 h2 ⊢
        generalize w1.heap.size = G at hS0 hGs ⊢
        rw [← hln.out] at hS0
        have HS0 := Lib.hid hS0
        clear hS0 hb1 C' N' K'
        go_loopw [9, 33] (fun v i wr => ∃ (k : Nat) (xs : List Int) (L : List Pc), k ≤ n' ∧ i = .int .i64 k ∧ Saw (fun b => v.ownBlock = some b) wr G 63 kf L.length L ∧ cutW kf (widths (os.take k)) l = some (xs, L) ∧ Own II 1 wr (G + 1) 3 v xs.length xs ∧ Below w.heap.size w wr) (fun _ i _ => n' - (intOf i).toNat)
        case atStart => exact ⟨0, [], l, Nat.zero_le _, rfl, HS0.out, rfl, Own.nil_ _ _ _ _ _, hB0⟩
        case round =>
          obtain ⟨k, xs, L, hk, rfl, hS, hcut, hw, hb⟩ := hrel
          have hallk : (os.take k).all okOrder = true := by rw [List.all_eq_true]; intro x hx; exact List.all_eq_true.1 hall.out x (List.mem_of_mem_take hx)
          have hgd := cutW_good k0 (fun x hx => (widths_all hallk x hx).1) hF.out hcut
          have hwl := widths_bd hallk
          have hlk : (os.take k).length ≤ k := List.length_take_le _ _
          have hL20 : L.length ≤ 20 := by have := hgd.2.1; rw [hln.out] at this; omega
          have hX160 : xs.length ≤ 160 := by have := hgd.2.2; omega
          have hcut' := Lib.hid hcut
          have hFL := Lib.hid hgd.1
          have hSl := hS.lt
          have HS := Lib.hid hS
          clear hcut hgd hallk hwl hlk hS
          by_cases hlt : k < n'
          · obtain ⟨b, off, x, y, rfl, hbB, hx, c1, c2⟩ := h'.pair hlt
            have hok := (okOrder_iff x y).1 (List.all_eq_true.1 hall.out _ (List.mem_of_getElem? hx))
            obtain ⟨ok1, ok2, ok3, ok4⟩ := hok
            have hsn : Hid (widths (os.take (k + 1)) = widths (os.take k) ++ List.replicate y.toNat x) := by rw [take_snoc hx, widths_snoc]; rfl
            have hallk : (os.take k).all okOrder = true := by rw [List.all_eq_true]; intro x hx; exact List.all_eq_true.1 hall.out x (List.mem_of_mem_take hx)
            have hwk := Lib.hid (widths_all hallk)
            have hwl : (widths (os.take k)).length ≤ 160 := by have := widths_bd hallk; have h3 : (os.take k).length ≤ k := List.length_take_le _ _; omega
            have c1' := (hb.cell (by exact hbB)).trans c1
            have c2' := (hb.cell (by exact hbB)).trans c2
            obtain ⟨y, rfl⟩ : ∃ z : Nat, y = (z : Int) := ⟨y.toNat, by omega⟩
            obtain ⟨wo, rfl⟩ : ∃ wo : World, wo = wr := ⟨_, rfl⟩
            clear hallk hx c1 c2
            go_wp2
            have S1 := HS.out.kept ((Below.refl wo.heap.size wo).alloc (Nat.le_refl _) (.cells #[.int .i64 x, .int .i64 y] 32))
            have O1 := hw.alloc (.cells #[.int .i64 x, .int .i64 y] 32)
            have B1 := hb.alloc hb.size (.cells #[.int .i64 x, .int .i64 y] 32)
            have p0 : (wo.alloc (.cells #[.int .i64 x, .int .i64 y] 32)).cell? ⟨wo.heap.size, 0, none⟩ = some (.int .i64 x) := (cell_of_row _ _ 0 _ _ _ (heap_alloc_new _ _)).trans rfl
            have z0 : wo.heap.size < (wo.alloc (.cells #[.int .i64 x, .int .i64 y] 32)).heap.size := by simp
            have v0 : ∀ g, u9.ownBlock = some g → g ≠ wo.heap.size := fun g hg e => by have := (hw.2.lt g hg).2; omega
            generalize wo.alloc (.cells #[.int .i64 x, .int .i64 y] 32) = w3 at S1 O1 B1 p0 z0 ⊢
            generalize wo.heap.size = bo at p0 z0 v0 hSl ⊢
            have HS1 := Lib.hid S1
            have HV := Lib.hid v0
            clear S1 v0 hw hb c1' c2' HS
            go_loopw [9, 39] (fun v i wr => ∃ (j : Nat) (ys : List Int) (M : List Pc), j ≤ y ∧ i = .int .i64 j ∧ Saw (fun b => v.ownBlock = some b) wr G 63 kf M.length M ∧ cutW kf (widths (os.take k) ++ List.replicate j x) l = some (ys, M) ∧ Own II 1 wr (G + 1) 3 v ys.length ys ∧ Below w.heap.size w wr ∧ Hid (∀ g, v.ownBlock = some g → g ≠ bo) ∧ wr.cell? ⟨bo, 0, none⟩ = some (.int .i64 x) ∧ bo < wr.heap.size) (fun _ i _ => y - (intOf i).toNat)
            case atStart => exact ⟨0, xs, L, Nat.zero_le _, rfl, HS1.out, by rw [List.replicate_zero, List.append_nil]; exact hcut'.out, O1, B1, HV, p0, z0⟩
            case round =>
              obtain ⟨j, ys, M, hj, rfl, hS2, hc2, hw2, hb2, hv2, p2, z2⟩ := hrel
              have hgd := cutW_good k0 (fun z hz => by
                rcases List.mem_append.1 hz with hz | hz
                · exact (hwk.out z hz).1
                · rw [List.eq_of_mem_replicate hz]; exact ok1) hF.out hc2
              have hM20 : M.length ≤ 20 := by have := hgd.2.1; rw [hln.out] at this; omega
              have hY : ys.length ≤ 180 := by have := hgd.2.2; rw [List.length_append, List.length_replicate] at this; omega
              have hsnoc := cutW_snoc x hc2
              have hFM := hgd.1
              clear hgd
              by_cases hjy : j < y
              · have C := cut_any G M.length kf x M ‹World› hS2 hM20 hFM ⟨ok1, ok2⟩ ⟨k0, k1⟩ (fun b hb => (hw2.2.lt b hb).2)
                unfold CutPost at C
                cases hq : cutL x kf M with
                | none =>
                  rw [hq] at C hsnoc
                  have hnone : cutW kf (widths os) l = none := by
                    refine widths_take_cut (k := k + 1) ?_
                    have e1 : List.replicate y x = List.replicate j x ++ [x] ++ List.replicate (y - (j + 1)) x := by
                      rw [← List.replicate_succ', List.replicate_append_replicate]; congr 1; omega
                    rw [hsn.out, Int.toNat_natCast, e1, ← List.append_assoc, ← List.append_assoc]
                    exact cutW_none hsnoc
                  have hNone := Lib.hid (hL.out.trans hnone)
                  have C' := Lib.hid C
                  clear C hq hsnoc hnone hS2 hc2 hFM
                  go_wp2_with fail
                  refine C'.out.mono ?_
                  rintro e w4 ⟨⟨rfl, _⟩, hg4⟩
                  go_wp2
                  go_ret3
                  exact retCut_none hNone.out (hb2.grown hg4 hb2.size (by intro j hj; injection hj with hj; omega))
                | some q =>
                  obtain ⟨t, M'⟩ := q
                  rw [hq] at C hsnoc
                  have C' := Lib.hid C
                  have hsnoc' := Lib.hid hsnoc
                  clear C hq hsnoc hS2 hc2 hFM
                  go_wp2_with fail
                  refine C'.out.mono ?_
                  rintro e w4 ⟨⟨rfl, hS4⟩, hg4⟩
                  have hb4 := hb2.grown hg4 hb2.size (by intro j hj; injection hj with hj; omega)
                  have hw4 := hw2.kept hg4 (by intro g hg; injection hg with hg; omega)
                  have p4 := hg4.cell p2 (by intro e; injection e with e; have e' : bo = G := e; omega)
                  have z4 : bo < w4.heap.size := by have := hg4.size; omega
                  have HS4 := Lib.hid hS4
                  clear hS4 hg4 C' hw2 hb2 p2
                  go_wp2_with (at_builtin; refine wpList_append_own_at _ rfl _ _ 27 rfl (G + 1) 3 i0 (.int .i64 0) 1 8 Try.underlying27 hi hz0 hz1 hz2 rfl (by decide) _ _ _ rfl (hw4.2.alloc _) ⟨w4.heap.size, 0, none⟩ 1 1 [.int .i64 t] rfl rfl ?c1 ?c2 ?c3 ?c4 ?c5 ?_)
                  case c1 => exact cell_new1 _ _ _
                  case c2 => exact one_II _
                  case c3 => unfold maxLen; omega
                  case c4 => omega
                  case c5 => have := HS4.out.lt; simp; omega
                  intro v' w5 hown' hg5 _ hat
                  have hw5 : Own II 1 w5 (G + 1) 3 v' (ys.length + 1) (ys ++ [t]) := Own.snoc' hw4.1 (by simp [II]) hown'
                  rw [show ys.length + 1 = (ys ++ [t]).length by simp] at hw5
                  have hne5 : ∀ g, u9.ownBlock = some g → G + 1 ≤ g := fun g hg => (hw4.2.lt g hg).1
                  have B5 : Below w.heap.size w w5 := (hb4.alloc hb4.size (.cells #[.int .i64 t] 3)).grown hg5 (by have := hb4.size; simp; omega) (fun g hg => by have := hne5 g hg; omega)
                  have S5 : Saw (fun b => v'.ownBlock = some b) w5 G 63 kf M'.length M' := by
                    have S' := HS4.out.kept ((Below.refl w4.heap.size w4).alloc (Nat.le_refl _) (.cells #[.int .i64 t] 3))
                    have S'' : Saw (fun b => v'.ownBlock = some b) (w4.alloc (.cells #[.int .i64 t] 3)) G 63 kf M'.length M' := S'.turn (fun b hb e => by
                      rcases hat with hat | hat
                      · exact hat.symm.trans e
                      · rw [e] at hat; injection hat with hat; simp only [World.size_alloc] at hb; try simp only [World.size_alloc] at hat
                        omega)
                    refine (Saw.row (Z := fun b => u9.ownBlock = some b ∨ v'.ownBlock = some b) (S'.turn' S'') hg5 (fun k hk => ⟨by have := hne5 k hk; omega, .inl hk⟩)).turn (fun b _ e => .inr e)
                  have p5 : w5.cell? ⟨bo, 0, none⟩ = some (.int .i64 x) := hg5.cell ((World.cell?_alloc_lt _ _ _ (by exact z4)).trans p4) (by
                    intro e
                    exact hv2.out bo e.symm rfl)
                  have z5 : bo < w5.heap.size := by have := hg5.size; simp at this; omega
                  have V5 : Hid (∀ g, v'.ownBlock = some g → g ≠ bo) := fun g hg e => by
                    rcases hat with hat | hat
                    · exact hv2.out g (hat.symm.trans hg) e
                    · rw [hg] at hat; injection hat with hat; try simp only [World.size_alloc] at hat
                      omega
                  have HS5 := Lib.hid S5
                  clear hown' hg5 hat hw4 hb4 p4 HS4 S5 hne5
                  go_wp2
                  go_roundw
                  case rel => exact ⟨j + 1, ys ++ [t], M', by omega, by go_num, HS5.out, by rw [List.replicate_succ', ← List.append_assoc]; exact hsnoc'.out, hw5, B5, V5, p5, z5⟩
                  case measure => simp [intOf]; omega
              · obtain rfl : j = y := by omega
                have hc3 := Lib.hid (show cutW kf (widths (os.take (k + 1))) l = some (ys, M) by rw [hsn.out, Int.toNat_natCast]; exact hc2)
                have HS2 := Lib.hid hS2
                clear hsnoc hc2 hS2 hFM hv2 p2
                go_wp2
                go_roundw
                case rel => exact ⟨k + 1, ys, M, by omega, by go_num, HS2.out, hc3.out, hw2, hb2⟩
                case measure => simp [intOf]; omega
          · have htk : os.take k = os := List.take_of_length_le (by rw [hlo.out]; omega)
            have hfin := Lib.hid (show cutAll l os kf = some (xs, L) by rw [hL.out, ← htk]; exact hcut'.out)
            have hcl := Lib.hid (coreLen_of hFL.out hL20)
            obtain ⟨A1, c1, hg, hnc, hA, hne⟩ := HS.out
            have c0 : ‹World›.cell? ⟨G, 0, none⟩ = some (.slice A1 L.length c1) := by rw [cell_of_row _ G 0 _ _ _ hg]; rfl
            obtain ⟨A2, c2, rfl, _, _⟩ := hw.form
            have K := Lib.hid (implCoreLength_any A1 L.length c1 L _ hA (by omega))
            clear hg hA hne htk
            go_wp2_with fail
            refine K.out.mono ?_
            rintro e w9 ⟨rfl, hb9⟩
            have hw9 := hw.below hb9 (Nat.le_refl _)
            have hB9 := hb.trans (hb9.mono hb.size)
            clear hb9 hw hb c0
            go_wp2
            go_ret3
            exact retCut_some hfin.out hcl.out (hw9.less (by omega)) hB9

theorem implCut_as {A : Option Addr} {n c : Nat} {l : List Pc} {A' : Option Addr} {n' c' : Nat} {os : List (Int × Int)} {kf : Int} {w : World} {xs : List Int} {left : Int} {ok : Bool} (h : Arr PP 2 w w.heap.size A n l) (hc : n ≤ c) (hn : n ≤ 1099511627776)
    (h' : Arr PP 2 w w.heap.size A' n' os) (hn' : n' ≤ 1099511627776) (e1 : cutX (cutAll l os kf) = xs) (e2 : cutLeft (cutAll l os kf) = left) (e3 : (cutAll l os kf).isSome = ok) :
    Calls Try.prog 14 #[.slice A n c, .slice A' n' c', .int .i64 kf] w (RetTops 3 w xs left ok) := by
  subst e1; subst e2; subst e3
  exact implCut_any A n c l A' n' c' os kf w h hc hn h' hn'
theorem cutAll_ok {l : List Pc} {os : List (Int × Int)} {kf : Int} (h1 : coreB l = true) (h2 : ordersB os = true) (h3 : 0 ≤ kf ∧ kf ≤ 100) : cutAll l os kf = cutW kf (widths os) l := by
  unfold cutAll; rw [if_pos ((cutOk_iff _ _ _).2 ⟨h1, h2, h3⟩)]
theorem cutAll_bad {l : List Pc} {os : List (Int × Int)} {kf : Int} (h : ¬ (coreB l = true ∧ ordersB os = true ∧ (0 ≤ kf ∧ kf ≤ 100))) : cutAll l os kf = none := by
  unfold cutAll; rw [if_neg (by rw [cutOk_iff]; exact h)]
theorem cutAll_some {l : List Pc} {os : List (Int × Int)} {kf : Int} {q : List Int × List Pc} (h : cutAll l os kf = some q) : coreB l = true ∧ ordersB os = true ∧ (0 ≤ kf ∧ kf ≤ 100) ∧ cutW kf (widths os) l = some q := by
  unfold cutAll at h
  split at h
  · rename_i hh
    have := (cutOk_iff _ _ _).1 hh
    exact ⟨this.1, this.2.1, this.2.2, h⟩
  · cases h
end Go.Proofs.Ytjhbpilgejbmjaa
