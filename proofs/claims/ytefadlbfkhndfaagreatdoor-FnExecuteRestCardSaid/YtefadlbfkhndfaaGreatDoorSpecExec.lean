/-
  Contract: Execute of the reference.
-/
import Derived.Test.YtefadlbfkhndfaaGreatDoorSpecLine4
import Derived.Test.YtefadlbfkhndfaaGreatDoorLinesAll
import Derived.Test.YtefadlbfkhndfaaGreatDoorDecB
import Derived.Deep.RegionHeld3
namespace Go.Proofs.YtefadlbfkhndfaaGreatDoor
open Go.RowKit
set_option linter.unusedSimpArgs false
set_option linter.unusedVariables false

theorem Arr.strAt {w : World} {B : Nat} {A : Option Addr} {n : Nat} {l : List ByteArray} (h : Arr ST 1 w B A n l) {k : Nat} (hk : k < n) :
    ∃ b off x, A = some ⟨b, off, none⟩ ∧ b < B ∧ l[k]? = some x ∧ w.cell? ⟨b, off + k, none⟩ = some (.string x) := by
  obtain ⟨b, off, e, hb, hc⟩ := h.2 (by omega)
  have hl : k < l.length := by have := h.1; omega
  exact ⟨b, off, l[k], e, hb, List.getElem?_eq_getElem hl, by have := hc k _ (List.getElem?_eq_getElem hl) 0 _ rfl; simpa using this⟩
theorem own_words {w : World} {base n c : Nat} {T : TypeId} {A : Option Addr} {L : List (List UInt8)} (h : Own ST 1 w base T (.slice A n c) n (L.map tx)) (hne : L ≠ []) :
    ∃ k, A = some ⟨k, 0, none⟩ ∧ n = L.length ∧ base ≤ k ∧ k < w.heap.size ∧ ∀ j x, L[j]? = some x → w.cell? ⟨k, j, none⟩ = some (.string (tx x)) := by
  have hn : L.length = n := by have := h.1; rwa [List.length_map] at this
  have hp := List.length_pos_iff.2 hne
  obtain ⟨g, c', e, h1, h2, _⟩ := h.head (by omega)
  injection e with e1 e2 e3
  subst e1
  refine ⟨g, rfl, hn.symm, h1, h2, fun j x hx => ?_⟩
  have hj := (List.getElem?_eq_some_iff.1 hx).1
  obtain ⟨b, off, y, e4, _, hy, hc⟩ := (h.arr (fun _ => rfl)).strAt (k := j) (by omega)
  injection e4 with e4
  injection e4 with e5 e6
  subst e5 e6
  rw [List.getElem?_map, hx] at hy
  injection hy with hy
  subst hy
  simpa using hc

/-- The box that holds the state. -/
def BX (w : World) (g : Nat) (s : St) : Prop := ∃ Ac nc cc Al nl cl, w.heap[g]? = some (.cells #[.slice Ac nc cc, .slice Al nl cl] 47 (0, 0)) ∧ Arr PP 2 w w.heap.size Ac nc s.core ∧ Arr LL 2 w w.heap.size Al nl s.lays ∧ nc ≤ cc ∧ nl ≤ cl
theorem box_set {w : World} {g : Nat} {a b a' b' : Value} {T : TypeId} (h : w.heap[g]? = some (.cells #[a', b'] T (0, 0))) : ((w.setCell ⟨g, 0, none⟩ a).setCell ⟨g, 1, none⟩ b).heap[g]? = some (.cells #[a, b] T (0, 0)) :=
  heap_setCell_same _ g 1 _ T b (heap_setCell_same w g 0 _ T a h)
structure ExAt (w w1 : World) : Prop where
  z : w1.heap.size = w.heap.size + 1 + 1 + 1
  b : Below w.heap.size w w1
  hb : w1.heap[w.heap.size + 1 + 1]? = some (.cells #[.slice (some ⟨w.heap.size, 0, none⟩) 0 0, .slice (some ⟨w.heap.size + 1, 0, none⟩) 0 0] 47 (0, 0))
theorem exAt (w : World) : ExAt w (((w.alloc (.cells #[] 69)).alloc (.cells #[] 73)).alloc (.cells #[.slice (some ⟨w.heap.size, 0, none⟩) 0 0, .slice (some ⟨w.heap.size + 1, 0, none⟩) 0 0] 47)) := by
  have z1 : (w.alloc (.cells #[] 69)).heap.size = w.heap.size + 1 := by simp
  have B1 := (Below.refl w.heap.size w).alloc (Nat.le_refl _) (.cells #[] 69)
  generalize w.alloc (.cells #[] 69) = w1 at z1 B1 ⊢
  have z2 : (w1.alloc (.cells #[] 73)).heap.size = w.heap.size + 1 + 1 := by simp [z1]
  have B2 := B1.trans (((Below.refl w1.heap.size w1).alloc (Nat.le_refl _) (.cells #[] 73)).mono B1.size)
  generalize w1.alloc (.cells #[] 73) = w2 at z2 B2 ⊢
  have h3 := (MapKept.heap_alloc w2 (.cells #[.slice (some ⟨w.heap.size, 0, none⟩) 0 0, .slice (some ⟨w.heap.size + 1, 0, none⟩) 0 0] 47)).1
  rw [z2] at h3
  exact ⟨by simp [z2], B2.trans (((Below.refl w2.heap.size w2).alloc (Nat.le_refl _) _).mono B2.size), h3⟩
/-- A box that is new, or newly written. -/
structure Ext (wr w3 w4 : World) (nb : Nat) (a b : Value) : Prop where
  h4 : w4.heap[nb]? = some (.cells #[a, b] 47 (0, 0))
  g : w3.grownBy w4 (some nb)
  o : ∀ i u, w3.cell? ⟨nb, i, none⟩ = some u → ∃ A n c, u = .slice A n c
  B : Below wr.heap.size wr w4
theorem ext_alloc {wr w3 : World} (S3 : Below wr.heap.size wr w3) (a b : Value) : Ext wr w3 (w3.alloc (.cells #[a, b] 47)) w3.heap.size a b := by
  refine ⟨(MapKept.heap_alloc w3 _).1, grows2 ((Below.refl w3.heap.size w3).alloc (Nat.le_refl _) _) _, fun i u hu => ?_, S3.alloc S3.size _⟩
  exfalso
  unfold World.cell? at hu
  simp at hu
theorem ext_set {wr w3 : World} {nb : Nat} (S3 : Below wr.heap.size wr w3) (hn : wr.heap.size ≤ nb) (N3 : w3.heap[nb]? = some (.cells #[.slice none 0 0, .slice none 0 0] 47 (0, 0))) (a b : Value) : Ext wr w3 ((w3.setCell ⟨nb, 0, none⟩ a).setCell ⟨nb, 1, none⟩ b) nb a b :=
  ⟨box_set N3, setCell2_grown _ _ _ _, res_slice N3, (S3.setCell (p := ⟨nb, 0, none⟩) hn a).setCell (p := ⟨nb, 1, none⟩) hn b⟩
theorem Ext.pp {wr w3 w4 : World} {nb : Nat} {a b : Value} {A : Option Addr} {n : Nat} {l : List Pc} (E : Ext wr w3 w4 nb a b) (h : Arr PP 2 w3 w3.heap.size A n l) : Arr PP 2 w4 w4.heap.size A n l :=
  (h.other E.g (fun i u hu x hm => by obtain ⟨_, _, _, rfl⟩ := E.o i u hu; simp [PP] at hm)).more E.g.size
theorem Ext.ll {wr w3 w4 : World} {nb : Nat} {a b : Value} {A : Option Addr} {n : Nat} {l : List Ly} (E : Ext wr w3 w4 nb a b) (h : Arr LL 2 w3 w3.heap.size A n l) : Arr LL 2 w4 w4.heap.size A n l :=
  (h.other E.g (fun i u hu x hm => by obtain ⟨_, _, _, rfl⟩ := E.o i u hu; simp [LL] at hm)).more E.g.size
/-- Where Execute of the reference stands. -/
def EJ (w wr : World) (G k : Nat) (S : List (List UInt8)) (s : St) : Prop := BX wr G s ∧ (∀ j x, S[j]? = some x → wr.cell? ⟨k, j, none⟩ = some (.string (tx x))) ∧ Below w.heap.size w wr ∧ k < wr.heap.size ∧ G < k ∧ G < wr.heap.size
set_option maxRecDepth 100000 in
set_option maxHeartbeats 8000000 in
theorem specExecute_small (t : List UInt8) (hl : t.length ≤ 500) (w : World) :
    Calls Tryz.prog 14 #[.string (tx t)] w fun e w' => e = .returned (.string (tx (execT t))) ∧ Below w.heap.size w w' := by
  have hX := Lib.hid (show execT t = (runX st0 (linesX t)).2 ++ endT (runX st0 (linesX t)).1 by unfold execT; rw [if_neg (by omega)])
  obtain ⟨b1, b2⟩ := splitB_bd 10 t
  have hz : (tx t).size = t.length := tx_size t
  have f0 : ¬ (500 < ((tx t).size : Int)) := by omega
  have C1 := Lib.hid (fun W => l43Cut_any t 10 (by omega) W)
  obtain ⟨S, hS⟩ : ∃ S, S = splitB 10 t := ⟨_, rfl⟩
  have hS0 : S ≠ [] := by rw [hS]; exact splitB_ne 10 t
  have hSL : linesX t = S.dropLast := by rw [hS]; rfl
  rw [← hS] at C1 b1 b2
  rw [hSL] at hX
  obtain ⟨m, hm⟩ : ∃ m, S.length = m + 1 := ⟨S.length - 1, by have := List.length_pos_iff.2 hS0; omega⟩
  have hd : ∀ j, j < m → S.dropLast[j]? = S[j]? := fun j hj => by rw [List.dropLast_eq_take, List.getElem?_take, if_pos (by omega)]
  have hdl : S.dropLast.length = m := by rw [List.length_dropLast, hm]; rfl
  have hm5 : m ≤ 500 := by omega
  have HD := Lib.hid hd
  have HB := Lib.hid b2
  have HM := Lib.hid hm
  have HS0 := Lib.hid hS0
  have AT := exAt w
  clear hd b2 hS hSL hS0 hm
  go_enter Tryz.func14, Tryz.ntmps14
  go_upto_region 5 with fail
  generalize (((w.alloc (.cells #[] 69)).alloc (.cells #[] 73)).alloc (.cells #[.slice (some ⟨w.heap.size, 0, none⟩) 0 0, .slice (some ⟨w.heap.size + 1, 0, none⟩) 0 0] 47)) = w1 at AT ⊢
  obtain ⟨z1, hb1, hbx⟩ := AT
  obtain ⟨G, hG⟩ : ∃ G, G = w.heap.size + 1 + 1 := ⟨_, rfl⟩
  rw [← hG] at hbx z1
  simp only [← hG]
  have HG := Lib.hid hG
  have HB1 := Lib.hid hb1
  have HBX := Lib.hid hbx
  clear hG hb1 hbx
  go_upto_region 6 with (go_at_call 41; refine (C1.out _).mono ?_; rintro e w2 ⟨A2, n2, c2, rfl, o2, b2⟩)
  obtain ⟨kl, rfl, rfl, hk1, hk2, hcl⟩ := own_words o2 HS0.out
  obtain ⟨M, hM⟩ : ∃ M, M = S.length := ⟨_, rfl⟩
  rw [← hM]
  have HMm := Lib.hid (hM.trans HM.out)
  have HHM := Lib.hid hM
  clear hM
  have HCL := Lib.hid hcl
  have E0 : Hid (EJ w w2 G kl S st0) := Lib.hid ⟨⟨_, _, _, _, _, _, (b2.block G (by omega)).trans HBX.out, Arr.nil_ _ _ _ _ _, Arr.nil_ _ _ _ _ _, Nat.le_refl _, Nat.le_refl _⟩, hcl, HB1.out.trans (b2.mono HB1.out.size), hk2, by omega, by omega⟩
  clear C1 hcl o2 b2 HBX HB1
  go_wp2_with fail
  go_loopw [4, 6, 7, 8] (fun o i _ _ wr => ∃ j : Nat, j ≤ m ∧ i = .int .i64 j ∧ o = .string (tx (runX st0 (S.dropLast.take j)).2) ∧ EJ w wr G kl S (runX st0 (S.dropLast.take j)).1 ∧ (runX st0 (S.dropLast.take j)).2.length ≤ 1001 * j) (fun _ i _ _ _ => m - (intOf i).toNat)
  case atStart => exact ⟨0, Nat.zero_le _, rfl, rfl, E0.out, by simp [runX]⟩
  case round =>
    obtain ⟨j, hj, rfl, rfl, ⟨hbox, hcl, hbw, hkw, hGk, hGw⟩, hlen⟩ := hrel
    have hok := runX_ok (ls := S.dropLast.take j) st0_ok
    obtain ⟨s, hss⟩ : ∃ s, s = (runX st0 (S.dropLast.take j)).1 := ⟨_, rfl⟩
    obtain ⟨o, ho⟩ : ∃ o, o = (runX st0 (S.dropLast.take j)).2 := ⟨_, rfl⟩
    by_cases hlt : j < m
    · obtain ⟨x, hx⟩ : ∃ x, S[j]? = some x := ⟨S[j]'(by have := HM.out; omega), List.getElem?_eq_getElem (by have := HM.out; omega)⟩
      have hx' := (HD.out j hlt).trans hx
      have hsn := runX_snoc (s := st0) hx'
      have hxl := HB.out x (List.mem_of_getElem? hx)
      obtain ⟨q1, q2⟩ := splitB_bd 32 x
      have cx := hcl j x hx
      have hlo := (lineOk_all hok (splitB 32 x) (splitB_ne 32 x) (fun y hy => by have := q2 y hy; omega) (by omega)).1
      have C2 := Lib.hid (fun W => l43Cut_any x 32 (by omega) W)
      have HWB := Lib.hid (show ∀ y ∈ splitB 32 x, y.length ≤ 1000000 from fun y hy => by have := q2 y hy; omega)
      rw [← hss] at hbox hsn hok hlo
      rw [← ho] at hsn hlen
      have hMm := HMm.out
      have ij : (j : Int) + 1 < (M : Int) := by omega
      have ij0 : (0 : Int) ≤ (j : Int) := by omega
      have ij1 : (j : Int) < (M : Int) := by omega
      obtain ⟨Ac, nc, cc, Al, nl, cl, hb, hA, hL, hcc, hll⟩ := hbox
      obtain ⟨r0, r1, rf0, rf1⟩ := blkA hb
      obtain ⟨r2, hr2⟩ : ∃ r2, r2 = (lineX s (splitB 32 x)).2 := ⟨_, rfl⟩
      obtain ⟨s', hs'⟩ : ∃ s', s' = (lineX s (splitB 32 x)).1 := ⟨_, rfl⟩
      rw [← hr2] at hsn hlo
      rw [← hs'] at hsn
      have SV0 : Hid (∀ W, Below wr.heap.size wr W → SV W (.agg #[.slice Ac nc cc, .slice Al nl cl]) s) := Lib.hid (fun W hW => ⟨Ac, nc, cc, Al, nl, cl, rfl, (hA.below hW (Nat.le_refl _)).more hW.size, (hL.below hW (Nat.le_refl _)).more hW.size, hcc, hll⟩)
      obtain ⟨X, hXx⟩ : ∃ X, X = tx x := ⟨_, rfl⟩
      obtain ⟨O, hO⟩ : ∃ O, O = tx o := ⟨_, rfl⟩
      obtain ⟨R, hR⟩ : ∃ R, R = tx (r2 ++ [10]) := ⟨_, rfl⟩
      obtain ⟨O', hO'⟩ : ∃ O', O' = tx (o ++ (r2 ++ [10])) := ⟨_, rfl⟩
      have A1 : ∀ W : World, (Op.stringOp .add O R).run Tryz.prog W = .ok (.string O') W := by rw [hO, hR, hO']; exact add_tx o (r2 ++ [10]) _ rfl (by simp; omega)
      have KL0 : ∀ W V k c, SV W V s → k < W.heap.size → (∀ j y, (splitB 32 x)[j]? = some y → W.cell? ⟨k, j, none⟩ = some (.string (tx y))) → Calls Tryz.prog 42 #[V, .slice (some ⟨k, 0, none⟩) (splitB 32 x).length c] W fun e w' => ∃ v, e = .returned (.tuple #[v, .string R]) ∧ SV w' v s' ∧ Below W.heap.size W w' := fun W V k c hV hk hc => by
        rw [hR, hs', hr2]
        exact l51Line_any k c (splitB 32 x) s W V hV hok (splitB_ne 32 x) HWB.out hk hc
      have KL := Lib.hid KL0
      rw [← hXx] at C2 cx
      have HCL := Lib.hid hcl
      have HBW := Lib.hid hbw
      have HOK := Lib.hid hok
      have HSN := Lib.hid hsn
      have HBK := Lib.hid hb
      have HLE := Lib.hid (show (o ++ (r2 ++ [10])).length ≤ 1001 * (j + 1) by simp; omega)
      have HO' := Lib.hid hO'
      rw [← ho, ← hO]
      have KB := Lib.hid (fun W (hW : Below wr.heap.size wr W) => (And.intro ((hW.cell (p := ⟨G, 0, none⟩) hGw).trans r0) (And.intro ((hW.cell (p := ⟨G, 1, none⟩) hGw).trans r1) ((hW.cell (p := ⟨kl, j, none⟩) hkw).trans cx))))
      have BD : Below wr.heap.size wr wr.drew := (Below.refl _ _).drew
      clear hMm KL0 hR hcl hbw hok hsn hb hA hL hr2 hs' hXx hO hO' hlo hx hx' hxl q1 q2 hss ho hlen
      go_wp2_with fail
      have KB5 := Lib.hid (fun W (hW : Below wr.heap.size wr W) (nb : Nat) (hnb : wr.heap.size ≤ nb) (Y Z : Value) => (And.intro ((setCell2_grown W nb Y Z).cell (KB.out W hW).1 (by simp <;> omega)) (And.intro ((setCell2_grown W nb Y Z).cell (KB.out W hW).2.1 (by simp <;> omega)) ((setCell2_grown W nb Y Z).cell (KB.out W hW).2.2 (by simp <;> omega)))))
      go_region_held3 (fun w' => w'.cell? ⟨G, 0, none⟩ = some (.slice Ac nc cc) ∧ w'.cell? ⟨G, 1, none⟩ = some (.slice Al nl cl) ∧ w'.cell? ⟨kl, j, none⟩ = some (.string X)) (first | (with_reducible exact KB.out _ BD) | (exact KB.out _ (BD.alloc BD.size _)) | (exact KB.out _ S2) | (exact KB.out _ (S2.alloc S2.size _)) | (exact KB.out _ S3) | (exact KB.out _ (S3.alloc S3.size _)) | (exact KB5.out w3 S3 wr.heap.size (Nat.le_refl _) _ _) | (exact KB5.out w3 S3 w2.heap.size S2.size _ _) | (go_keep; done)) (first
        | (go_at_call 41; refine (C2.out wr.drew).mono ?_; rintro e w2 ⟨A2, n2, c2, rfl, o2, b2⟩; obtain ⟨k2, rfl, rfl, _, hk2, hc2⟩ := own_words o2 (splitB_ne 32 x); have S2 : Below wr.heap.size wr w2 := BD.trans b2)
        | (go_at_call 41; refine (C2.out (wr.drew.alloc (.cells #[.slice none 0 0, .slice none 0 0] 47))).mono ?_; rintro e w2 ⟨A2, n2, c2, rfl, o2, b2⟩; obtain ⟨k2, rfl, rfl, _, hk2, hc2⟩ := own_words o2 (splitB_ne 32 x); have S2 : Below wr.heap.size wr w2 := (BD.alloc BD.size _).trans (b2.mono (by simp)); have N2 : w2.heap[wr.heap.size]? = some (.cells #[.slice none 0 0, .slice none 0 0] 47 (0, 0)) := (b2.block wr.heap.size (by simp)).trans (MapKept.heap_alloc wr.drew (.cells #[.slice none 0 0, .slice none 0 0] 47)).1)
        | (go_at_call 42; refine (KL.out w2 _ k2 c2 (SV0.out _ S2) hk2 hc2).mono ?_; rintro e w3 ⟨vv, rfl, sv3, b3⟩; obtain ⟨Bc, mc, dc, Bl, ml, dl, rfl, sA, sL, sc, sl⟩ := sv3; have S3 : Below wr.heap.size wr w3 := S2.trans (b3.mono S2.size); have N3 := (b3.block wr.heap.size (Array.getElem?_eq_some_iff.1 N2).1).trans N2; obtain ⟨t0, t1, tf0, tf1⟩ := blkA N3)
        | (go_at_call 42; refine (KL.out w2 _ k2 c2 (SV0.out _ S2) hk2 hc2).mono ?_; rintro e w3 ⟨vv, rfl, sv3, b3⟩; obtain ⟨Bc, mc, dc, Bl, ml, dl, rfl, sA, sL, sc, sl⟩ := sv3; have S3 : Below wr.heap.size wr w3 := S2.trans (b3.mono S2.size))
        | (go_at_call 42; refine (KL.out (w2.alloc (.cells #[.slice none 0 0, .slice none 0 0] 47)) _ k2 c2 (SV0.out _ (S2.alloc S2.size _)) (by simp; omega) (fun i y hy => (World.cell?_alloc_lt w2 _ ⟨k2, i, none⟩ hk2).trans (hc2 i y hy))).mono ?_; rintro e w3 ⟨vv, rfl, sv3, b3⟩; obtain ⟨Bc, mc, dc, Bl, ml, dl, rfl, sA, sL, sc, sl⟩ := sv3; have S3 : Below wr.heap.size wr w3 := (S2.alloc S2.size _).trans (b3.mono (S2.alloc S2.size _).size); have N3 := (b3.block w2.heap.size (by simp)).trans (MapKept.heap_alloc w2 (.cells #[.slice none 0 0, .slice none 0 0] 47)).1; obtain ⟨t0, t1, tf0, tf1⟩ := blkA N3))
      all_goals
        first
          | (have E := ext_set (nb := wr.heap.size) S3 (Nat.le_refl _) N3 (.slice Bc mc dc) (.slice Bl ml dl)
             generalize ((w3.setCell ⟨wr.heap.size, 0, none⟩ (.slice Bc mc dc)).setCell ⟨wr.heap.size, 1, none⟩ (.slice Bl ml dl)) = w4 at E ⊢)
          | (have E := ext_set (nb := w2.heap.size) S3 S2.size N3 (.slice Bc mc dc) (.slice Bl ml dl)
             generalize ((w3.setCell ⟨w2.heap.size, 0, none⟩ (.slice Bc mc dc)).setCell ⟨w2.heap.size, 1, none⟩ (.slice Bl ml dl)) = w4 at E ⊢)
          | (have E := ext_alloc S3 (.slice Bc mc dc) (.slice Bl ml dl)
             generalize w3.alloc (.cells #[.slice Bc mc dc, .slice Bl ml dl] 47) = w4 at E ⊢)
        obtain ⟨n0, n1, _, _⟩ := blkA E.h4
        have B4 := E.B
        have sA4 := E.pp sA
        have sL4 := E.ll sL
        have hG4 := (B4.block G hGw).trans HBK.out
        obtain ⟨p0, p1, pf0, pf1⟩ := blkA hG4
        have HA4 := Lib.hid sA4
        have HL4 := Lib.hid sL4
        have HB4 := Lib.hid B4
        have HG4 := Lib.hid hG4
        have hGw4 : G < w4.heap.size := Nat.lt_of_lt_of_le hGw B4.size
        have hkw4 : kl < w4.heap.size := Nat.lt_of_lt_of_le hkw B4.size
        clear sA sL sA4 sL4 B4 E hG4 S3 S2 b3 b2 o2 hc2
        go_wp2_with fail
        go_roundw
        case rel =>
          have g5 := setCell2_grown w4 G (.slice Bc mc dc) (.slice Bl ml dl)
          have hGG : w.heap.size ≤ G := by have := HG.out; omega
          refine ⟨j + 1, by omega, by go_num, by rw [HSN.out, HO'.out], ?_, by rw [HSN.out]; exact HLE.out⟩
          rw [HSN.out]
          exact ⟨⟨Bc, mc, dc, Bl, ml, dl, box_set HG4.out, (HA4.out.other g5 (res_pp HG4.out)).more g5.size, (HL4.out.other g5 (res_ll HG4.out)).more g5.size, sc, sl⟩, fun i y hy => g5.cell ((HB4.out.cell (p := ⟨kl, i, none⟩) hkw).trans (HCL.out i y hy)) (by simp; omega), (HBW.out.trans (HB4.out.mono HBW.out.size)).trans (((Below.refl w.heap.size w4).setCell (p := ⟨G, 0, none⟩) hGG _).setCell (p := ⟨G, 1, none⟩) hGG _), Nat.lt_of_lt_of_le hkw4 g5.size, hGk, Nat.lt_of_lt_of_le hGw4 g5.size⟩
        case measure => simp [intOf]; omega
    · obtain rfl : j = m := by omega
      have ij : ¬ ((j : Int) + 1 < (M : Int)) := by have := HMm.out; omega
      rw [List.take_of_length_le (by omega)] at hss ho hlen hok
      rw [← hss] at hok
      rw [List.take_of_length_le (by omega)] at hbox
      rw [← hss] at hbox
      rw [← ho] at hlen
      have hXe := hX.out
      rw [← hss, ← ho] at hXe
      obtain ⟨Ac, nc, cc, Al, nl, cl, hb, hA, hL, hcc, hll⟩ := hbox
      obtain ⟨r0, r1, rf0, rf1⟩ := blkA hb
      have k1 : nc ≤ 900 := by have := ((coreB_iff _).1 hok.1).2; have := hA.1; omega
      have k2 : nl ≤ 900 := by have := ((layB_iff _).1 hok.2).2; have := hL.1; omega
      have I1 := Lib.hid (fun W => l6DecB_any nc W (by omega))
      have I2 := Lib.hid (fun W => l6DecB_any nl W (by omega))
      have d1 : (Lib.decDigits nc).length ≤ 8 := dec_len 7 nc (by omega)
      have d2 : (Lib.decDigits nl).length ≤ 8 := dec_len 7 nl (by omega)
      have hend : execT t = (((o ++ [112, 105, 101, 99, 101, 115, 32]) ++ Lib.decDigits nc) ++ [32, 108, 97, 121, 101, 114, 115, 32] ++ Lib.decDigits nl) ++ [10] := by
        rw [hXe]; unfold endT; rw [hA.1, hL.1]; simp only [List.append_assoc]; rfl
      obtain ⟨O, hO⟩ : ∃ O, O = tx o := ⟨_, rfl⟩
      obtain ⟨D1, hD1⟩ : ∃ D, D = tx (Lib.decDigits nc) := ⟨_, rfl⟩
      obtain ⟨D2, hD2⟩ : ∃ D, D = tx (Lib.decDigits nl) := ⟨_, rfl⟩
      obtain ⟨L1, h1⟩ : ∃ L, L = o ++ [112, 105, 101, 99, 101, 115, 32] := ⟨_, rfl⟩
      have l1 : L1.length = o.length + 7 := by rw [h1]; simp
      obtain ⟨L2, h2⟩ : ∃ L, L = L1 ++ Lib.decDigits nc := ⟨_, rfl⟩
      have l2 : L2.length = L1.length + (Lib.decDigits nc).length := by rw [h2]; simp
      obtain ⟨L3, h3⟩ : ∃ L, L = L2 ++ [32, 108, 97, 121, 101, 114, 115, 32] := ⟨_, rfl⟩
      have l3 : L3.length = L2.length + 8 := by rw [h3]; simp
      obtain ⟨L4, h4⟩ : ∃ L, L = L3 ++ Lib.decDigits nl := ⟨_, rfl⟩
      have l4 : L4.length = L3.length + (Lib.decDigits nl).length := by rw [h4]; simp
      rw [← h1, ← h2, ← h3, ← h4] at hend
      have l5 : (execT t).length = L4.length + 1 := by rw [hend]; simp
      obtain ⟨T1, t1⟩ : ∃ T, T = tx L1 := ⟨_, rfl⟩
      obtain ⟨T2, t2⟩ : ∃ T, T = tx L2 := ⟨_, rfl⟩
      obtain ⟨T3, t3⟩ : ∃ T, T = tx L3 := ⟨_, rfl⟩
      obtain ⟨T4, t4⟩ : ∃ T, T = tx L4 := ⟨_, rfl⟩
      obtain ⟨T5, t5⟩ : ∃ T, T = tx (execT t) := ⟨_, rfl⟩
      have A1 : ∀ W : World, (Op.stringOp .add O (ByteArray.mk #[112, 105, 101, 99, 101, 115, 32])).run Tryz.prog W = .ok (.string T1) W := by rw [hO, t1]; exact add_tx o [112, 105, 101, 99, 101, 115, 32] _ h1.symm (by omega)
      have A2 : ∀ W : World, (Op.stringOp .add T1 D1).run Tryz.prog W = .ok (.string T2) W := by rw [t1, hD1, t2]; exact add_tx L1 _ _ h2.symm (by omega)
      have A3 : ∀ W : World, (Op.stringOp .add T2 (ByteArray.mk #[32, 108, 97, 121, 101, 114, 115, 32])).run Tryz.prog W = .ok (.string T3) W := by rw [t2, t3]; exact add_tx L2 [32, 108, 97, 121, 101, 114, 115, 32] _ h3.symm (by omega)
      have A4 : ∀ W : World, (Op.stringOp .add T3 D2).run Tryz.prog W = .ok (.string T4) W := by rw [t3, hD2, t4]; exact add_tx L3 _ _ h4.symm (by omega)
      have A5 : ∀ W : World, (Op.stringOp .add T4 (ByteArray.mk #[10])).run Tryz.prog W = .ok (.string T5) W := by rw [t4, t5]; exact add_tx L4 [10] _ hend.symm (by omega)
      rw [List.take_of_length_le (by omega), ← ho, ← hO]
      rw [← hD1] at I1
      rw [← hD2] at I2
      have HT5 := Lib.hid t5
      have HBW := Lib.hid hbw
      have KB := Lib.hid (fun W (hW : Below wr.heap.size wr W) => (And.intro ((hW.cell (p := ⟨G, 0, none⟩) hGw).trans r0) ((hW.cell (p := ⟨G, 1, none⟩) hGw).trans r1)))
      have BD : Below wr.heap.size wr wr.drew := (Below.refl _ _).drew
      clear hO hD1 hD2 h1 l1 h2 l2 h3 l3 h4 l4 hend l5 t1 t2 t3 t4 t5 hXe hss ho hlen hok hb hA hL hcl d1 d2 hbw
      go_wp2_with fail
      go_region_held3 (fun w' => w'.cell? ⟨G, 0, none⟩ = some (.slice Ac nc cc) ∧ w'.cell? ⟨G, 1, none⟩ = some (.slice Al nl cl)) (first | (with_reducible exact KB.out _ BD) | (exact KB.out _ S2) | (exact KB.out _ S3) | (go_keep; done)) (first
        | (go_at_call 43; (with_reducible refine (I1.out wr.drew).mono ?_); rintro e w2 ⟨rfl, b2⟩; have S2 : Below wr.heap.size wr w2 := BD.trans b2)
        | (go_at_call 43; (with_reducible refine (I2.out w2).mono ?_); rintro e w3 ⟨rfl, b3⟩; have S3 : Below wr.heap.size wr w3 := S2.trans (b3.mono S2.size)))
      all_goals
        go_wp2_with fail
        go_ret
        exact ⟨ret_str HT5.out, HBW.out.trans (S3.mono HBW.out.size)⟩
theorem specExecute_all (t : List UInt8) (ht : t.length ≤ 1000000000) (w : World) :
    Calls Tryz.prog 14 #[.string (tx t)] w fun e w' => e = .returned (.string (tx (execT t))) ∧ Below w.heap.size w w' := by
  by_cases hl : t.length ≤ 500
  · exact specExecute_small t hl w
  · have hE2 := Lib.hid (show execT t = tooLong by unfold execT; rw [if_pos (by omega)])
    have hz : (tx t).size = t.length := tx_size t
    have f0 : 500 < ((tx t).size : Int) := by omega
    go_enter Tryz.func14, Tryz.ntmps14
    go_wp2_with fail
    go_ret
    exact ⟨ret_str (by rw [hE2.out]; rfl), Below.refl _ _⟩
end Go.Proofs.YtefadlbfkhndfaaGreatDoor
