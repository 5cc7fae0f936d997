/-
  The reference of layer 10: codes, Kind, Write.
-/
import Derived.Test.YtebeekjcepjcnaaDoorRefc
namespace Go.Proofs.YtebeekjcepjcnaaDoor
open Go.RowKit Go.Shelf

theorem own_lit' {w : World} {base n g : Nat} {xs : List Int} {cs : Array Value} (hg : g = w.heap.size) (hcs : cs = (U8 xs).toArray) (hn : xs.length = n) (hm : n ≤ maxLen) (hbase : base ≤ w.heap.size) :
    Own (w.alloc (.cells cs 5)) base (.slice (some ⟨g, 0, none⟩) n n) xs := by
  subst hg
  exact own_lit w base n xs cs hcs hn hm hbase
theorem codes_none {t : Nat} (h : t ≠ 0 ∧ t ≠ 3 ∧ t ≠ 4 ∧ t ≠ 5 ∧ t ≠ 8 ∧ t ≠ 11 ∧ t ≠ 12 ∧ t ≠ 13 ∧ t ≠ 14 ∧ t ≠ 17 ∧ t ≠ 18) : kindN t = 0 ∧ codesN t = 0 := by
  rcases Nat.lt_or_ge t 19 with hl | hl
  · have : ∀ x : Fin 19, (x.val ≠ 0 ∧ x.val ≠ 3 ∧ x.val ≠ 4 ∧ x.val ≠ 5 ∧ x.val ≠ 8 ∧ x.val ≠ 11 ∧ x.val ≠ 12 ∧ x.val ≠ 13 ∧ x.val ≠ 14 ∧ x.val ≠ 17 ∧ x.val ≠ 18) → kindN x.val = 0 ∧ codesN x.val = 0 := by decide
    exact this ⟨t, hl⟩ h
  · refine ⟨kindN_big hl, ?_⟩
    unfold codesN
    rw [List.getD_eq_getElem?_getD, List.getElem?_eq_none (by simpa using hl)]
    rfl
set_option maxHeartbeats 1000000 in
theorem rCodes_any (t : Nat) (w : World) : Calls Tryd.prog 123 #[.int .u8 t] w fun e w' => e = .returned (.tuple #[.int .u8 (codesN t), .int .u8 (kindN t)]) ∧ w = w' := by
  rcases (show t = 0 ∨ t = 3 ∨ t = 4 ∨ t = 5 ∨ t = 8 ∨ t = 11 ∨ t = 12 ∨ t = 13 ∨ t = 14 ∨ t = 17 ∨ t = 18 ∨ (t ≠ 0 ∧ t ≠ 3 ∧ t ≠ 4 ∧ t ≠ 5 ∧ t ≠ 8 ∧ t ≠ 11 ∧ t ≠ 12 ∧ t ≠ 13 ∧ t ≠ 14 ∧ t ≠ 17 ∧ t ≠ 18) by omega) with rfl | rfl | rfl | rfl | rfl | rfl | rfl | rfl | rfl | rfl | rfl | hn
  case inr.inr.inr.inr.inr.inr.inr.inr.inr.inr.inr =>
    obtain ⟨e1, e2⟩ := codes_none hn
    rw [e1, e2]
    obtain ⟨n0, n3, n4, n5, n8, n11, n12, n13, n14, n17, n18⟩ := hn
    have b0 : ((t : Int) == 0) = false := by simp; omega
    have b3 : ((t : Int) == 3) = false := by simp; omega
    have b4 : ((t : Int) == 4) = false := by simp; omega
    have b5 : ((t : Int) == 5) = false := by simp; omega
    have b8 : ((t : Int) == 8) = false := by simp; omega
    have b11 : ((t : Int) == 11) = false := by simp; omega
    have b12 : ((t : Int) == 12) = false := by simp; omega
    have b13 : ((t : Int) == 13) = false := by simp; omega
    have b14 : ((t : Int) == 14) = false := by simp; omega
    have b17 : ((t : Int) == 17) = false := by simp; omega
    have b18 : ((t : Int) == 18) = false := by simp; omega
    clear n0 n3 n4 n5 n8 n11 n12 n13 n14 n17 n18 e1 e2
    go_enter Tryd.func123, Tryd.ntmps123
    go_wp2_with fail
    go_ret2
    exact ⟨rfl, rfl⟩
  all_goals
    go_enter Tryd.func123, Tryd.ntmps123
    go_wp2_with fail
    go_ret2
    exact ⟨rfl, rfl⟩

set_option maxHeartbeats 1000000 in
theorem rKind_any (t c : Nat) (w : World) : Calls Tryd.prog 75 #[.int .u8 t, .int .u8 c] w fun e w' => e = .returned (.tuple #[.int .u8 (kind1 t c), .int .i64 (kind2 t c)]) ∧ w = w' := by
  have HC := Lib.hid (fun W => rCodes_any t W)
  by_cases h0 : kindN t = 0
  · have Hk := Lib.hid (show kind1 t c = 0 ∧ kind2 t c = 101 from ⟨if_pos h0, if_pos h0⟩)
    rw [Hk.out.1, Hk.out.2]
    have b : (kindN t == 0) = true := by simpa using h0
    clear h0
    generalize kindN t = K at *
    generalize codesN t = C at *
    go_enter Tryd.func75, Tryd.ntmps75
    go_wp2_with (go_at_call 123; refine (HC.out _).mono ?_; rintro e w' ⟨rfl, rfl⟩)
    go_ret2
    exact ⟨rfl, rfl⟩
  · have b : (kindN t == 0) = false := by simpa using h0
    by_cases h1 : codesN t < (c : Int)
    · have Hk := Lib.hid (show kind1 t c = 0 ∧ kind2 t c = 102 from ⟨by unfold kind1; rw [if_neg h0, if_pos h1], by unfold kind2; rw [if_neg h0, if_pos h1]⟩)
      rw [Hk.out.1, Hk.out.2]
      have b1 : decide (codesN t < (c : Int)) = true := by simpa using h1
      clear h0 h1
      generalize kindN t = K at *
      generalize codesN t = C at *
      go_enter Tryd.func75, Tryd.ntmps75
      go_wp2_with (go_at_call 123; refine (HC.out _).mono ?_; rintro e w' ⟨rfl, rfl⟩)
      go_ret2
      exact ⟨rfl, rfl⟩
    · have Hk := Lib.hid (show kind1 t c = kindN t ∧ kind2 t c = 0 from ⟨by unfold kind1; rw [if_neg h0, if_neg h1], by unfold kind2; rw [if_neg h0, if_neg h1]⟩)
      rw [Hk.out.1, Hk.out.2]
      have b1 : decide (codesN t < (c : Int)) = false := by simpa using h1
      clear h0 h1
      generalize kindN t = K at *
      generalize codesN t = C at *
      go_enter Tryd.func75, Tryd.ntmps75
      go_wp2_with (go_at_call 123; refine (HC.out _).mono ?_; rintro e w' ⟨rfl, rfl⟩)
      go_ret2
      exact ⟨rfl, rfl⟩
theorem rKindI_any (t c : Int) (w : World) (h0 : 0 ≤ t) (g0 : 0 ≤ c) : Calls Tryd.prog 75 #[.int .u8 t, .int .u8 c] w fun e w' => e = .returned (.tuple #[.int .u8 (kind1 t.toNat c.toNat), .int .i64 (kind2 t.toNat c.toNat)]) ∧ w = w' := by
  obtain ⟨n, rfl⟩ : ∃ n : Nat, t = n := ⟨t.toNat, by omega⟩
  obtain ⟨m, rfl⟩ : ∃ n : Nat, c = n := ⟨c.toNat, by omega⟩
  rw [Int.toNat_natCast, Int.toNat_natCast]
  exact rKind_any n m w

set_option maxHeartbeats 1000000 in
theorem rIcmpWrite_any (t c : Int) (ident : Int) (D : Option Addr) (dcap dl : Nat) (data : List Int) (w : World) (t0 : 0 ≤ t) (t1 : t < 256) (c0 : 0 ≤ c) (c1 : c < 256) (i0 : 0 ≤ ident) (i1 : ident < 65536)
    (hk : kind2 t.toNat c.toNat = 0) (hdl : data.length = dl) (hl : dl ≤ 65507) (hd : Byt data) (hr : Rd w w.heap.size D .u8 data) :
    Calls Tryd.prog 49 #[.agg #[.int .u8 t, .int .u8 c, .int .u16 ident, .int .u16 0], .slice D dl dcap] w fun e w' => ∃ v, e = .returned (.tuple #[v, .int .i64 0]) ∧ Own w' w.heap.size v (icmpL t c ident 0 data) ∧ Below w.heap.size w w' := by
  have HK := Lib.hid (fun W => rKindI_any t c W t0 c0)
  rw [hk] at HK
  have HF := Lib.hid (show fixL ([t, c, 0, 0, ident / 256, ident % 256, 0, 0] ++ data) 2 = icmpL t c ident 0 data from rfl)
  have Hby := Lib.hid (show Byt ([t, c, 0, 0, ident / 256, ident % 256, 0, 0] ++ data) from Byt.append (.cons t0 t1 (.cons c0 c1 (.cons (by omega) (by omega) (.cons (by omega) (by omega) (.cons (by omega) (by omega) (.cons (by omega) (by omega) (.cons (by omega) (by omega) (.cons (by omega) (by omega) .nil)))))))) hd)
  have Hln := Lib.hid (show ([t, c, 0, 0, ident / 256, ident % 256, 0, 0] ++ data).length = 8 + dl by simp; omega)
  have b1 : decide (65507 < (dl : Int)) = false := by simp; omega
  have Hdl := Lib.hid hdl.symm
  have hq1 : IntKind.u16.wrap (ident.tdiv 256) = ident / 256 := by rw [Int.tdiv_eq_ediv_of_nonneg i0, IntKind.wrap_u16]; omega
  have hq2 : ident / 256 % 256 = ident / 256 := by omega
  clear hk hdl
  generalize icmpL t c ident 0 data = R at *
  go_enter Tryd.func49, Tryd.ntmps49
  go_upto_region 7 with (first | (go_at_call 75; refine (HK.out _).mono ?_; rintro e w' ⟨rfl, rfl⟩) | fail)
  go_upto_region 8 with (first | (at_builtin; refine app_own rfl (.tmp 45) (.tmp 46) rfl (w.heap.size + 1) _ [t, c, 0, 0, ident / 256, ident % 256, 0, 0] rfl (own_lit' (by simp) rfl rfl (by simp [maxLen]) (by simp)) _ D _ dcap data rfl Hdl.out ((hr.alloc (Nat.le_refl _) _).alloc (by simp) _) (by have := Hdl.out; simp; omega) (by simp) ?_; intro v1 w1 o1 l1 _ _) | fail)
  have hb1 : Below w.heap.size w w1 := ((((Below.refl _ _).alloc (Nat.le_refl _) _).alloc (by simp) _).trans (l1.mono (by omega)))
  have hsz := hb1.size
  generalize [t, c, 0, 0, ident / 256, ident % 256, 0, 0] ++ data = S at *
  obtain ⟨A, cap, rfl, rd, _, _⟩ := o1.open_
  have hfx := rFix_any A cap S 2 _ Hby.out (by rw [Hln.out]; omega) rd (by omega) (by rw [Hln.out]; omega)
  rw [Hln.out] at hfx ⊢
  refine hfx.mono ?_
  rintro e w3 ⟨v3, rfl, o3, l3⟩
  go_wp2_with fail
  go_ret2
  exact ⟨_, rfl, by rw [← HF.out]; exact o3.base_le hsz, hb1.trans (l3.mono hsz)⟩

end Go.Proofs.YtebeekjcepjcnaaDoor
