/-
  Contract: the reference's draw of a line of a script.
-/
import Derived.Test.YtefadlbfkhndfaaGreatDoorDrawOf
import Derived.Test.YtefadlbfkhndfaaGreatDoorDecB
import Derived.Test.YtefadlbfkhndfaaGreatDoorGH
namespace Go.Proofs.YtefadlbfkhndfaaGreatDoor
open Go.RowKit
set_option linter.unusedSimpArgs false
set_option linter.unusedVariables false

def DrawnStr (w : World) (g p : Nat) (e : Ending) (w' : World) : Prop := ∃ (S : ByteArray) (p' : Nat), e = .returned (.string S) ∧ S.size ≤ 60 ∧ Rd w' g 104 p' ∧ p' ≤ p + 5 ∧ w.grownBy w' (some g)

set_option maxRecDepth 100000 in
set_option maxHeartbeats 4000000 in
theorem l93Line_any (g p : Nat) (w : World) (h : Rd w g 104 p) (hp : p ≤ 900000) :
    Calls Tryz.prog 54 #[.pointer (some ⟨g, 0, none⟩)] w (DrawnStr w g p) := by
  have C := Lib.hid (pick_any g p 9 w h (by omega) (by omega))
  clear h
  go_enter Tryz.func54, Tryz.ntmps54
  go_wp2_with fail
  refine C.out.mono ?_
  rintro e w1 ⟨a, rfl, ha, hr1, G1⟩
  clear C
  by_cases h0 : a = 0
  · subst h0
    go_wp2_with fail
    refine (pick_any g (p + 1) 120 w1 hr1 (by omega) (by omega)).mono ?_
    rintro e w2 ⟨a1, rfl, ha1, hr2, hg2⟩
    have G2 := grown_trans' G1 hg2
    clear hr1 hg2 G1
    go_wp2_with fail
    refine (l6DecB_any (a1) w2 (by omega)).mono ?_
    rintro e w3 ⟨rfl, b3⟩
    have hr3 := hr2.below b3 hr2.lt
    have G3 := grown_trans' G2 (grows2 b3 _)
    have za1 : (tx (Lib.decDigits (a1))).size ≤ 8 := by rw [tx_size]; exact dec_len 7 _ (by omega)
    generalize tx (Lib.decDigits (a1)) = Sa1 at za1 ⊢
    clear hr2 b3 G2
    obtain ⟨P, hP⟩ : ∃ P : ByteArray, P = ⟨#[99, 117, 116, 32]⟩ := ⟨_, rfl⟩
    have zP : P.size = 4 := by rw [hP]; rfl
    obtain ⟨Y, hY⟩ : ∃ Z, Z = P ++ Sa1 := ⟨_, rfl⟩
    have zY : Y.size = (P).size + (Sa1).size := by rw [hY, ByteArray.size_append]
    have AY : ∀ W : World, (Op.stringOp .add P Sa1).run Tryz.prog W = .ok (.string Y) W := add_at P Sa1 Y (by (try rw [show (P).size = _ from rfl]); (try rw [show (Sa1).size = _ from rfl]); omega) hY.symm
    clear hY
    rw [hP] at AY
    clear hP
    go_wp2_with fail
    go_ret
    exact ⟨Y, p + 2, rfl, by omega, hr3, by omega, G3⟩
  by_cases h1 : a = 1
  · subst h1
    go_wp2_with fail
    refine (pick_any g (p + 1) 40 w1 hr1 (by omega) (by omega)).mono ?_
    rintro e w2 ⟨a1, rfl, ha1, hr2, hg2⟩
    have G2 := grown_trans' G1 hg2
    clear hr1 hg2 G1
    go_wp2_with fail
    refine (l6DecB_any (a1) w2 (by omega)).mono ?_
    rintro e w3 ⟨rfl, b3⟩
    have hr3 := hr2.below b3 hr2.lt
    have G3 := grown_trans' G2 (grows2 b3 _)
    have za1 : (tx (Lib.decDigits (a1))).size ≤ 8 := by rw [tx_size]; exact dec_len 7 _ (by omega)
    generalize tx (Lib.decDigits (a1)) = Sa1 at za1 ⊢
    clear hr2 b3 G2
    obtain ⟨P, hP⟩ : ∃ P : ByteArray, P = ⟨#[99, 111, 117, 110, 116, 32]⟩ := ⟨_, rfl⟩
    have zP : P.size = 6 := by rw [hP]; rfl
    obtain ⟨Q, hQ⟩ : ∃ Q : ByteArray, Q = ⟨#[32]⟩ := ⟨_, rfl⟩
    have zQ : Q.size = 1 := by rw [hQ]; rfl
    obtain ⟨Y1, hY1⟩ : ∃ Z, Z = P ++ Sa1 := ⟨_, rfl⟩
    have zY1 : Y1.size = (P).size + (Sa1).size := by rw [hY1, ByteArray.size_append]
    have AY1 : ∀ W : World, (Op.stringOp .add P Sa1).run Tryz.prog W = .ok (.string Y1) W := add_at P Sa1 Y1 (by (try rw [show (P).size = _ from rfl]); (try rw [show (Sa1).size = _ from rfl]); omega) hY1.symm
    clear hY1
    obtain ⟨Y2, hY2⟩ : ∃ Z, Z = Y1 ++ Q := ⟨_, rfl⟩
    have zY2 : Y2.size = (Y1).size + (Q).size := by rw [hY2, ByteArray.size_append]
    have AY2 : ∀ W : World, (Op.stringOp .add Y1 Q).run Tryz.prog W = .ok (.string Y2) W := add_at Y1 Q Y2 (by (try rw [show (Y1).size = _ from rfl]); (try rw [show (Q).size = _ from rfl]); omega) hY2.symm
    clear hY2
    rw [hP] at AY1
    rw [hQ] at AY2
    clear hP hQ
    go_wp2_with fail
    refine (pick_any g (p + 2) 100 w3 hr3 (by omega) (by omega)).mono ?_
    rintro e w4 ⟨a2, rfl, ha2, hr4, hg4⟩
    have G4 := grown_trans' G3 hg4
    clear hr3 hg4 G3
    go_wp2_with fail
    refine (l6DecB_any (a2) w4 (by omega)).mono ?_
    rintro e w5 ⟨rfl, b5⟩
    have hr5 := hr4.below b5 hr4.lt
    have G5 := grown_trans' G4 (grows2 b5 _)
    have za2 : (tx (Lib.decDigits (a2))).size ≤ 8 := by rw [tx_size]; exact dec_len 7 _ (by omega)
    generalize tx (Lib.decDigits (a2)) = Sa2 at za2 ⊢
    clear hr4 b5 G4
    obtain ⟨Y3, hY3⟩ : ∃ Z, Z = Y2 ++ Sa2 := ⟨_, rfl⟩
    have zY3 : Y3.size = (Y2).size + (Sa2).size := by rw [hY3, ByteArray.size_append]
    have AY3 : ∀ W : World, (Op.stringOp .add Y2 Sa2).run Tryz.prog W = .ok (.string Y3) W := add_at Y2 Sa2 Y3 (by (try rw [show (Y2).size = _ from rfl]); (try rw [show (Sa2).size = _ from rfl]); omega) hY3.symm
    clear hY3
    go_wp2_with fail
    go_ret
    exact ⟨Y3, p + 3, rfl, by omega, hr5, by omega, G5⟩
  by_cases h2 : a = 2
  · subst h2
    go_wp2_with fail
    refine (pick_any g (p + 1) 120 w1 hr1 (by omega) (by omega)).mono ?_
    rintro e w2 ⟨a1, rfl, ha1, hr2, hg2⟩
    have G2 := grown_trans' G1 hg2
    clear hr1 hg2 G1
    go_wp2_with fail
    refine (l6DecB_any (a1) w2 (by omega)).mono ?_
    rintro e w3 ⟨rfl, b3⟩
    have hr3 := hr2.below b3 hr2.lt
    have G3 := grown_trans' G2 (grows2 b3 _)
    have za1 : (tx (Lib.decDigits (a1))).size ≤ 8 := by rw [tx_size]; exact dec_len 7 _ (by omega)
    generalize tx (Lib.decDigits (a1)) = Sa1 at za1 ⊢
    clear hr2 b3 G2
    obtain ⟨P, hP⟩ : ∃ P : ByteArray, P = ⟨#[97, 103, 101, 32]⟩ := ⟨_, rfl⟩
    have zP : P.size = 4 := by rw [hP]; rfl
    obtain ⟨Y, hY⟩ : ∃ Z, Z = P ++ Sa1 := ⟨_, rfl⟩
    have zY : Y.size = (P).size + (Sa1).size := by rw [hY, ByteArray.size_append]
    have AY : ∀ W : World, (Op.stringOp .add P Sa1).run Tryz.prog W = .ok (.string Y) W := add_at P Sa1 Y (by (try rw [show (P).size = _ from rfl]); (try rw [show (Sa1).size = _ from rfl]); omega) hY.symm
    clear hY
    rw [hP] at AY
    clear hP
    go_wp2_with fail
    go_ret
    exact ⟨Y, p + 2, rfl, by omega, hr3, by omega, G3⟩
  by_cases h3 : a = 3
  · subst h3
    go_wp2_with fail
    refine (pick_any g (p + 1) 200 w1 hr1 (by omega) (by omega)).mono ?_
    rintro e w2 ⟨a1, rfl, ha1, hr2, hg2⟩
    have G2 := grown_trans' G1 hg2
    clear hr1 hg2 G1
    go_wp2_with fail
    rw [show (((a1 : Nat) : Int) * 20) = ((a1 * 20 : Nat) : Int) by omega]
    refine (l6DecB_any (a1 * 20) w2 (by omega)).mono ?_
    rintro e w3 ⟨rfl, b3⟩
    have hr3 := hr2.below b3 hr2.lt
    have G3 := grown_trans' G2 (grows2 b3 _)
    have za1 : (tx (Lib.decDigits (a1 * 20))).size ≤ 8 := by rw [tx_size]; exact dec_len 7 _ (by omega)
    generalize tx (Lib.decDigits (a1 * 20)) = Sa1 at za1 ⊢
    clear hr2 b3 G2
    obtain ⟨P, hP⟩ : ∃ P : ByteArray, P = ⟨#[121, 101, 97, 114, 32]⟩ := ⟨_, rfl⟩
    have zP : P.size = 5 := by rw [hP]; rfl
    obtain ⟨Y, hY⟩ : ∃ Z, Z = P ++ Sa1 := ⟨_, rfl⟩
    have zY : Y.size = (P).size + (Sa1).size := by rw [hY, ByteArray.size_append]
    have AY : ∀ W : World, (Op.stringOp .add P Sa1).run Tryz.prog W = .ok (.string Y) W := add_at P Sa1 Y (by (try rw [show (P).size = _ from rfl]); (try rw [show (Sa1).size = _ from rfl]); omega) hY.symm
    clear hY
    rw [hP] at AY
    clear hP
    go_wp2_with fail
    go_ret
    exact ⟨Y, p + 2, rfl, by omega, hr3, by omega, G3⟩
  by_cases h4 : a = 4
  · subst h4
    go_wp2_with fail
    refine (pick_any g (p + 1) 200 w1 hr1 (by omega) (by omega)).mono ?_
    rintro e w2 ⟨a1, rfl, ha1, hr2, hg2⟩
    have G2 := grown_trans' G1 hg2
    clear hr1 hg2 G1
    go_wp2_with fail
    refine (l6DecB_any (a1) w2 (by omega)).mono ?_
    rintro e w3 ⟨rfl, b3⟩
    have hr3 := hr2.below b3 hr2.lt
    have G3 := grown_trans' G2 (grows2 b3 _)
    have za1 : (tx (Lib.decDigits (a1))).size ≤ 8 := by rw [tx_size]; exact dec_len 7 _ (by omega)
    generalize tx (Lib.decDigits (a1)) = Sa1 at za1 ⊢
    clear hr2 b3 G2
    obtain ⟨P, hP⟩ : ∃ P : ByteArray, P = ⟨#[108, 97, 121, 101, 114, 32]⟩ := ⟨_, rfl⟩
    have zP : P.size = 6 := by rw [hP]; rfl
    obtain ⟨Y1, hY1⟩ : ∃ Z, Z = P ++ Sa1 := ⟨_, rfl⟩
    have zY1 : Y1.size = (P).size + (Sa1).size := by rw [hY1, ByteArray.size_append]
    have AY1 : ∀ W : World, (Op.stringOp .add P Sa1).run Tryz.prog W = .ok (.string Y1) W := add_at P Sa1 Y1 (by (try rw [show (P).size = _ from rfl]); (try rw [show (Sa1).size = _ from rfl]); omega) hY1.symm
    clear hY1
    rw [hP] at AY1
    clear hP
    obtain ⟨W3, hW3⟩ : ∃ W, W = w3.alloc (.cells #[.string ⟨#[]⟩, .string ⟨#[63]⟩] 9) := ⟨_, rfl⟩
    have o3 := Own.litSTsE w3 w3.heap.size 9 [⟨#[]⟩, ⟨#[63]⟩] (Nat.le_refl _) (by decide)
    rw [show (([⟨#[]⟩, ⟨#[63]⟩] : List ByteArray).map Value.string).toArray = #[.string ⟨#[]⟩, .string ⟨#[63]⟩] from rfl, ← hW3] at o3
    have hrl3 := hr3.lt
    have hR3 := hr3.alloc (.cells #[.string ⟨#[]⟩, .string ⟨#[63]⟩] 9)
    have GG3 := grown_trans' G3 (grows2 ((Below.refl w3.heap.size w3).alloc (Nat.le_refl _) (.cells #[.string ⟨#[]⟩, .string ⟨#[63]⟩] 9)) (some g))
    rw [← hW3] at hR3 GG3
    have K3 := Lib.hid (ofE_any g (p + 2) _ 2 2 _ W3 hR3 (by omega) (o3.arr ST_length) (by omega) (by omega) (fun b o e => by injection e with e; injection e with e _; omega))
    have hW3' := Lib.hid hW3
    rw [hW3] at K3
    clear o3 hR3 hr3 G3 hW3
    go_wp2_with fail
    refine K3.out.mono ?_
    rintro e w4 ⟨ZZ, hZ, rfl, hr4, hg4⟩
    rw [← hW3'.out] at hg4
    have G4 := grown_trans' GG3 hg4
    have zZ : ZZ.size ≤ 20 := by
      have key : ∀ Z ∈ ([⟨#[]⟩, ⟨#[63]⟩] : List ByteArray), Z.size ≤ 20 := by decide
      exact key ZZ hZ
    clear hg4 K3 GG3 hZ
    obtain ⟨Y2, hY2⟩ : ∃ Z, Z = Y1 ++ ZZ := ⟨_, rfl⟩
    have zY2 : Y2.size = (Y1).size + (ZZ).size := by rw [hY2, ByteArray.size_append]
    have AY2 : ∀ W : World, (Op.stringOp .add Y1 ZZ).run Tryz.prog W = .ok (.string Y2) W := add_at Y1 ZZ Y2 (by (try rw [show (Y1).size = _ from rfl]); (try rw [show (ZZ).size = _ from rfl]); omega) hY2.symm
    clear hY2
    go_wp2_with fail
    go_ret
    exact ⟨Y2, p + 3, rfl, by omega, hr4, by omega, G4⟩
  by_cases h5 : a = 5
  · subst h5
    obtain ⟨W1, hW1⟩ : ∃ W, W = w1.alloc (.cells #[.string ⟨#[]⟩, .string ⟨#[122, 122, 122]⟩, .string ⟨#[112, 105, 101, 99, 101, 32, 53, 32, 53]⟩, .string ⟨#[112, 105, 101, 99, 101, 32, 49]⟩, .string ⟨#[108, 97, 121, 101, 114, 32, 63]⟩, .string ⟨#[108, 97, 121, 101, 114, 32, 53, 63, 63]⟩, .string ⟨#[121, 101, 97, 114, 32, 120]⟩, .string ⟨#[121, 101, 97, 114, 32, 57, 57, 57, 57, 57, 57]⟩, .string ⟨#[99, 111, 114, 101, 32, 49]⟩, .string ⟨#[106, 111, 105, 110, 32]⟩, .string ⟨#[112, 105, 101, 99, 101, 32, 48, 48, 32, 48, 48, 48, 55]⟩, .string ⟨#[99, 111, 117, 110, 116, 32, 57, 32, 51]⟩] 9) := ⟨_, rfl⟩
    have o1 := Own.litSTsE w1 w1.heap.size 9 [⟨#[]⟩, ⟨#[122, 122, 122]⟩, ⟨#[112, 105, 101, 99, 101, 32, 53, 32, 53]⟩, ⟨#[112, 105, 101, 99, 101, 32, 49]⟩, ⟨#[108, 97, 121, 101, 114, 32, 63]⟩, ⟨#[108, 97, 121, 101, 114, 32, 53, 63, 63]⟩, ⟨#[121, 101, 97, 114, 32, 120]⟩, ⟨#[121, 101, 97, 114, 32, 57, 57, 57, 57, 57, 57]⟩, ⟨#[99, 111, 114, 101, 32, 49]⟩, ⟨#[106, 111, 105, 110, 32]⟩, ⟨#[112, 105, 101, 99, 101, 32, 48, 48, 32, 48, 48, 48, 55]⟩, ⟨#[99, 111, 117, 110, 116, 32, 57, 32, 51]⟩] (Nat.le_refl _) (by decide)
    rw [show (([⟨#[]⟩, ⟨#[122, 122, 122]⟩, ⟨#[112, 105, 101, 99, 101, 32, 53, 32, 53]⟩, ⟨#[112, 105, 101, 99, 101, 32, 49]⟩, ⟨#[108, 97, 121, 101, 114, 32, 63]⟩, ⟨#[108, 97, 121, 101, 114, 32, 53, 63, 63]⟩, ⟨#[121, 101, 97, 114, 32, 120]⟩, ⟨#[121, 101, 97, 114, 32, 57, 57, 57, 57, 57, 57]⟩, ⟨#[99, 111, 114, 101, 32, 49]⟩, ⟨#[106, 111, 105, 110, 32]⟩, ⟨#[112, 105, 101, 99, 101, 32, 48, 48, 32, 48, 48, 48, 55]⟩, ⟨#[99, 111, 117, 110, 116, 32, 57, 32, 51]⟩] : List ByteArray).map Value.string).toArray = #[.string ⟨#[]⟩, .string ⟨#[122, 122, 122]⟩, .string ⟨#[112, 105, 101, 99, 101, 32, 53, 32, 53]⟩, .string ⟨#[112, 105, 101, 99, 101, 32, 49]⟩, .string ⟨#[108, 97, 121, 101, 114, 32, 63]⟩, .string ⟨#[108, 97, 121, 101, 114, 32, 53, 63, 63]⟩, .string ⟨#[121, 101, 97, 114, 32, 120]⟩, .string ⟨#[121, 101, 97, 114, 32, 57, 57, 57, 57, 57, 57]⟩, .string ⟨#[99, 111, 114, 101, 32, 49]⟩, .string ⟨#[106, 111, 105, 110, 32]⟩, .string ⟨#[112, 105, 101, 99, 101, 32, 48, 48, 32, 48, 48, 48, 55]⟩, .string ⟨#[99, 111, 117, 110, 116, 32, 57, 32, 51]⟩] from rfl, ← hW1] at o1
    have hrl1 := hr1.lt
    have hR1 := hr1.alloc (.cells #[.string ⟨#[]⟩, .string ⟨#[122, 122, 122]⟩, .string ⟨#[112, 105, 101, 99, 101, 32, 53, 32, 53]⟩, .string ⟨#[112, 105, 101, 99, 101, 32, 49]⟩, .string ⟨#[108, 97, 121, 101, 114, 32, 63]⟩, .string ⟨#[108, 97, 121, 101, 114, 32, 53, 63, 63]⟩, .string ⟨#[121, 101, 97, 114, 32, 120]⟩, .string ⟨#[121, 101, 97, 114, 32, 57, 57, 57, 57, 57, 57]⟩, .string ⟨#[99, 111, 114, 101, 32, 49]⟩, .string ⟨#[106, 111, 105, 110, 32]⟩, .string ⟨#[112, 105, 101, 99, 101, 32, 48, 48, 32, 48, 48, 48, 55]⟩, .string ⟨#[99, 111, 117, 110, 116, 32, 57, 32, 51]⟩] 9)
    have GG1 := grown_trans' G1 (grows2 ((Below.refl w1.heap.size w1).alloc (Nat.le_refl _) (.cells #[.string ⟨#[]⟩, .string ⟨#[122, 122, 122]⟩, .string ⟨#[112, 105, 101, 99, 101, 32, 53, 32, 53]⟩, .string ⟨#[112, 105, 101, 99, 101, 32, 49]⟩, .string ⟨#[108, 97, 121, 101, 114, 32, 63]⟩, .string ⟨#[108, 97, 121, 101, 114, 32, 53, 63, 63]⟩, .string ⟨#[121, 101, 97, 114, 32, 120]⟩, .string ⟨#[121, 101, 97, 114, 32, 57, 57, 57, 57, 57, 57]⟩, .string ⟨#[99, 111, 114, 101, 32, 49]⟩, .string ⟨#[106, 111, 105, 110, 32]⟩, .string ⟨#[112, 105, 101, 99, 101, 32, 48, 48, 32, 48, 48, 48, 55]⟩, .string ⟨#[99, 111, 117, 110, 116, 32, 57, 32, 51]⟩] 9)) (some g))
    rw [← hW1] at hR1 GG1
    have K1 := Lib.hid (ofE_any g (p + 1) _ 12 12 _ W1 hR1 (by omega) (o1.arr ST_length) (by omega) (by omega) (fun b o e => by injection e with e; injection e with e _; omega))
    have hW1' := Lib.hid hW1
    rw [hW1] at K1
    clear o1 hR1 hr1 G1 hW1
    go_wp2_with fail
    refine K1.out.mono ?_
    rintro e w2 ⟨ZZ, hZ, rfl, hr2, hg2⟩
    rw [← hW1'.out] at hg2
    have G2 := grown_trans' GG1 hg2
    have zZ : ZZ.size ≤ 20 := by
      have key : ∀ Z ∈ ([⟨#[]⟩, ⟨#[122, 122, 122]⟩, ⟨#[112, 105, 101, 99, 101, 32, 53, 32, 53]⟩, ⟨#[112, 105, 101, 99, 101, 32, 49]⟩, ⟨#[108, 97, 121, 101, 114, 32, 63]⟩, ⟨#[108, 97, 121, 101, 114, 32, 53, 63, 63]⟩, ⟨#[121, 101, 97, 114, 32, 120]⟩, ⟨#[121, 101, 97, 114, 32, 57, 57, 57, 57, 57, 57]⟩, ⟨#[99, 111, 114, 101, 32, 49]⟩, ⟨#[106, 111, 105, 110, 32]⟩, ⟨#[112, 105, 101, 99, 101, 32, 48, 48, 32, 48, 48, 48, 55]⟩, ⟨#[99, 111, 117, 110, 116, 32, 57, 32, 51]⟩] : List ByteArray), Z.size ≤ 20 := by decide
      exact key ZZ hZ
    clear hg2 K1 GG1 hZ
    go_wp2_with fail
    go_ret
    exact ⟨ZZ, p + 2, rfl, by omega, hr2, by omega, G2⟩
  have f0 : ((a : Int) == 0) = false := by simp; omega
  have f1 : ((a : Int) == 1) = false := by simp; omega
  have f2 : ((a : Int) == 2) = false := by simp; omega
  have f3 : ((a : Int) == 3) = false := by simp; omega
  have f4 : ((a : Int) == 4) = false := by simp; omega
  have f5 : ((a : Int) == 5) = false := by simp; omega
  clear h0 h1 h2 h3 h4 h5 ha
  obtain ⟨W1, hW1⟩ : ∃ W, W = w1.alloc (.cells #[.string ⟨#[99, 111, 114, 101]⟩, .string ⟨#[108, 101, 110, 103, 116, 104]⟩, .string ⟨#[106, 111, 105, 110]⟩] 9) := ⟨_, rfl⟩
  have o1 := Own.litSTsE w1 w1.heap.size 9 [⟨#[99, 111, 114, 101]⟩, ⟨#[108, 101, 110, 103, 116, 104]⟩, ⟨#[106, 111, 105, 110]⟩] (Nat.le_refl _) (by decide)
  rw [show (([⟨#[99, 111, 114, 101]⟩, ⟨#[108, 101, 110, 103, 116, 104]⟩, ⟨#[106, 111, 105, 110]⟩] : List ByteArray).map Value.string).toArray = #[.string ⟨#[99, 111, 114, 101]⟩, .string ⟨#[108, 101, 110, 103, 116, 104]⟩, .string ⟨#[106, 111, 105, 110]⟩] from rfl, ← hW1] at o1
  have hrl1 := hr1.lt
  have hR1 := hr1.alloc (.cells #[.string ⟨#[99, 111, 114, 101]⟩, .string ⟨#[108, 101, 110, 103, 116, 104]⟩, .string ⟨#[106, 111, 105, 110]⟩] 9)
  have GG1 := grown_trans' G1 (grows2 ((Below.refl w1.heap.size w1).alloc (Nat.le_refl _) (.cells #[.string ⟨#[99, 111, 114, 101]⟩, .string ⟨#[108, 101, 110, 103, 116, 104]⟩, .string ⟨#[106, 111, 105, 110]⟩] 9)) (some g))
  rw [← hW1] at hR1 GG1
  have K1 := Lib.hid (ofE_any g (p + 1) _ 3 3 _ W1 hR1 (by omega) (o1.arr ST_length) (by omega) (by omega) (fun b o e => by injection e with e; injection e with e _; omega))
  have hW1' := Lib.hid hW1
  rw [hW1] at K1
  clear o1 hR1 hr1 G1 hW1
  go_wp2_with fail
  refine K1.out.mono ?_
  rintro e w2 ⟨ZZ, hZ, rfl, hr2, hg2⟩
  rw [← hW1'.out] at hg2
  have G2 := grown_trans' GG1 hg2
  have zZ : ZZ.size ≤ 20 := by
    have key : ∀ Z ∈ ([⟨#[99, 111, 114, 101]⟩, ⟨#[108, 101, 110, 103, 116, 104]⟩, ⟨#[106, 111, 105, 110]⟩] : List ByteArray), Z.size ≤ 20 := by decide
    exact key ZZ hZ
  clear hg2 K1 GG1 hZ
  go_wp2_with fail
  go_ret
  exact ⟨ZZ, p + 2, rfl, by omega, hr2, by omega, G2⟩
end Go.Proofs.YtefadlbfkhndfaaGreatDoor
