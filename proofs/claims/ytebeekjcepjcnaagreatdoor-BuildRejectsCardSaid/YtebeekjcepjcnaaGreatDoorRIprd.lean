/-
  Package ip, reading: word, long, header.
  The reference of layer 2, checksums by remainders: it computes what the program computes. The reference's numbers as bytes: layers 5 and 8.
  The reference of layer 10: codes, Kind, Write.
  The references of layers 8 and 9: Sane, Extent, and both Writes. The reference of layer 9: Write. The reference of layer 8: Write, at a header that is right and has no options.
-/
import Derived.Test.YtebeekjcepjcnaaGreatDoorRAnswerb
namespace Go.Proofs.YtebeekjcepjcnaaGreatDoor
open Go.RowKit

theorem grown_setRow (W : World) (R : Nat) (cs : Array Value) : W.grownBy (W.setRow R cs) (some R) :=
  ⟨rfl, rfl, rfl, by simp, fun i _ hne => setRow_other W R i cs (fun e => hne (by rw [e]))⟩
def GrowR (R : Nat) (W W' : World) : Prop := W.grownBy W' (some R)
theorem GrowR.refl (R : Nat) (W : World) : GrowR R W W := grown_of_below (Below.refl _ _)
theorem GrowR.of {R : Nat} {W W' : World} (h : Below W.heap.size W W') : GrowR R W W' := grown_of_below h
theorem Own.growR {W W' : World} {R : Nat} {v : Value} {xs : List Int} (h : Own W (R + 1) v xs) (hg : GrowR R W W') : Own W' (R + 1) v xs :=
  h.grown hg (by
    cases hv : v.ownBlock with
    | none => exact .inl rfl
    | some g =>
      refine .inr (fun e => ?_)
      have := (h.lt hv).1
      injection e with e
      omega)
/-- A block that a region stores into once, at its end, with a value of its own. -/
def StV (w : World) (R : Nat) (t : TypeId) (z : Array Value) (N : Value → Array Value) (xs : List Int) (c : Nat) (W : World) : Prop :=
  Below w.heap.size w W ∧ w.heap.size ≤ R ∧ R < W.heap.size ∧ (if c = 0 then Blk W R t z else ∃ v, Blk W R t (N v) ∧ Own W (R + 1) v xs)
section
variable {w W W' : World} {R : Nat} {t : TypeId} {z : Array Value} {N : Value → Array Value} {xs : List Int} {c : Nat}
theorem StV.below (h : StV w R t z N xs c W) (hb : Below W.heap.size W W') : StV w R t z N xs c W' := by
  obtain ⟨h1, h2, h3, h4⟩ := h
  refine ⟨h1.trans (hb.mono (by omega)), h2, Nat.lt_of_lt_of_le h3 hb.size, ?_⟩
  by_cases hc : c = 0
  · rw [if_pos hc] at h4 ⊢; exact h4.below hb h4.lt
  · rw [if_neg hc] at h4 ⊢
    obtain ⟨v, hv, ho⟩ := h4
    exact ⟨v, hv.below hb hv.lt, ho.below hb (Nat.le_refl _)⟩
theorem StV.drew (h : StV w R t z N xs c W) : StV w R t z N xs c W.drew := h.below (Below.refl _ _).drew
theorem StV.start (h : Below w.heap.size w W) (hR : w.heap.size ≤ R) (hz : Blk W R t z) : StV w R t z N xs 0 W := ⟨h, hR, hz.lt, by rw [if_pos rfl]; exact hz⟩
theorem StV.row (h : StV w R t z N xs 0 W) : Blk W R t z := by have := h.2.2.2; rwa [if_pos rfl] at this
theorem StV.put (h : StV w R t z N xs 0 W) {v : Value} (ho : Own W (R + 1) v xs) : StV w R t z N xs 1 (W.setRow R (N v)) :=
  ⟨below_setRow h.1 h.2.1 _, h.2.1, by simpa using h.2.2.1, by
    rw [if_neg (by decide)]
    exact ⟨v, setRow_heap _ _ _ _ _ _ h.row, ho.growR (grown_setRow _ _ _)⟩⟩
theorem StV.done (h : StV w R t z N xs 1 W) : ∃ v, Blk W R t (N v) ∧ Own W (R + 1) v xs := by have := h.2.2.2; rwa [if_neg (by decide)] at this
end

set_option maxRecDepth 100000 in
set_option maxHeartbeats 1000000 in
theorem ipWord_any (A : Option Addr) (cap n i : Nat) (j : Int) (hj : j = i) (xs : List Int) (w : World) (hn : xs.length = n) (hi : i + 1 < n) (hl : n ≤ 1000000) (hb : Byt xs) (hr : Rd w w.heap.size A .u8 xs) :
    Calls Tryz.prog 54 #[.slice A n cap, .int .i64 j] w fun e w' => e = .returned (.int .i64 (w16At xs i)) ∧ Below w.heap.size w w' := by
  subst hj
  obtain ⟨b, off, rfl, hbl, hc⟩ := hr.at0 (by omega)
  have c0 := hc i (by omega)
  have c1 := hc (i + 1) (by omega)
  obtain ⟨x0, x1⟩ := hb.at_ i
  obtain ⟨y0, y1⟩ := hb.at_ (i + 1)
  have ho := or_i64_word (xs.getD i 0) (xs.getD (i + 1) 0) x0 x1 y0 y1
  rw [show 256 * xs.getD i 0 + xs.getD (i + 1) 0 = w16At xs i from rfl] at ho
  clear hr hc
  generalize w16At xs i = R at *
  generalize xs.getD i 0 = x at *
  generalize xs.getD (i + 1) 0 = y at *
  clear hn

  have hi1 : ((i : Int) < n) := by omega
  have hi2 : ((i : Int) + 1 < n) := by omega
  have hi3 : IntKind.i64.wrap ((i : Int) + 1) = (i : Int) + 1 := by rw [IntKind.wrap_i64]; omega
  have hi4 : ((i : Int) + 1).toNat = i + 1 := by omega
  go_enter Tryz.func54, Tryz.ntmps54
  go_wp2_with fail
  refine wp_region_walk0 (by kernel_rfl) (fun _ W => St w w.heap.size [] W) [] Grow [0, 1, 2, 3, 4, 5, 6, 7, 8, 9, 10, 11, 12, 13] (by kernel_rfl) (St.nil (Below.refl _ w) (Nat.le_refl _)).drew ?_
  iterate 14
    apply Walk.one rfl rfl rfl
    case hrun =>
      intro c W hE hF
      have d0 := (hE.1.cell (p := ⟨b, off + i, none⟩) hbl).trans c0
      have d1 := (hE.1.cell (p := ⟨b, off + (i + 1), none⟩) hbl).trans c1
      go_wp2_with fail
      exact TextPost.mk ⟨Grow.refl _, hE⟩
    case hv => rfl
  refine Walk.done (fun W hE hF => ?_)
  have hbW := hE.1
  clear hE hF
  go_wp2_with fail
  go_ret
  exact ⟨rfl, hbW⟩

set_option maxRecDepth 100000 in
set_option maxHeartbeats 1000000 in
theorem ipLong_any (A : Option Addr) (cap n i : Nat) (j : Int) (hj : j = i) (xs : List Int) (w : World) (hn : xs.length = n) (hi : i + 3 < n) (hl : n ≤ 1000000) (hb : Byt xs) (hr : Rd w w.heap.size A .u8 xs) :
    Calls Tryz.prog 84 #[.slice A n cap, .int .i64 j] w fun e w' => e = .returned (.int .u32 (l32At xs i)) ∧ Below w.heap.size w w' := by
  subst hj
  have H0 := Lib.hid (ipWord_any A cap n i i rfl xs w hn (by omega) hl hb hr)
  have H2 := Lib.hid (fun W (hW : Below w.heap.size w W) => show Calls Tryz.prog 54 #[.slice A n cap, .int .i64 ((i : Int) + 2)] W _ from ipWord_any A cap n (i + 2) _ (by omega) xs W hn (by omega) hl hb (hr.belows hW (Nat.le_refl _)))
  obtain ⟨x0, x1⟩ := w16At_bd hb i
  obtain ⟨y0, y1⟩ := w16At_bd hb (i + 2)
  have ho := or_u32_long (w16At xs i) (w16At xs (i + 2)) x0 x1 y0 y1
  rw [show 65536 * w16At xs i + w16At xs (i + 2) = l32At xs i from rfl] at ho
  clear hr hb hn
  generalize l32At xs i = R at *
  generalize w16At xs i = x at *
  generalize w16At xs (i + 2) = y at *
  have hw1 : x % 4294967296 = x := by omega
  have hw2 : y % 4294967296 = y := by omega
  go_enter Tryz.func84, Tryz.ntmps84
  go_wp2_with fail
  refine H0.out.mono ?_
  rintro e w1 ⟨rfl, l1⟩
  go_wp2_with fail
  refine (H2.out _ l1).mono ?_
  rintro e w2 ⟨rfl, l2⟩
  go_wp2_with fail
  go_ret
  exact ⟨rfl, l1.trans (l2.mono l1.size)⟩
theorem cut_len (xs : List Int) (k m : Nat) (hm : m ≤ xs.length) : ((xs.take m).drop k).length = m - k := by simp; omega
theorem sl_inj {m : Nat} (x y : Option Addr × Nat) (h : Value.slice x.1 m x.2 = Value.slice y.1 m y.2) : x = y := by
  simp only [Value.slice.injEq, true_and] at h
  exact Prod.ext h.1 h.2
theorem Own.shape {w : World} {base : Nat} {v : Value} {xs : List Int} {m : Nat} (h : Own w base v xs) (hm : xs.length = m) : ∃ p : Option Addr × Nat, v = .slice p.1 m p.2 := by
  obtain ⟨A, c, e, _⟩ := h.open_
  exact ⟨(A, c), by rw [e, hm]⟩
set_option maxRecDepth 100000 in
set_option maxHeartbeats 4000000 in
theorem ipHeader_any (A : Option Addr) (cap n sz : Nat) (xs : List Int) (w : World) (hn : xs.length = n) (hsz : ipSize xs = sz) (h20 : 20 ≤ sz) (hsn : sz ≤ n) (hcap : n ≤ cap) (hl : n ≤ 1000000) (hb : Byt xs) (hr : Rd w w.heap.size A .u8 xs) :
    Calls Tryz.prog 59 #[.slice A n cap, .int .i64 sz] w fun e w' => ∃ v, e = .returned (.agg #[.int .u8 (ipHdr xs).tos, .int .u16 (ipHdr xs).id, .bool (ipHdr xs).df, .bool (ipHdr xs).mf, .int .i64 (ipHdr xs).off, .int .u8 (ipHdr xs).ttl, .int .u8 (ipHdr xs).proto, .int .u32 (ipHdr xs).src, .int .u32 (ipHdr xs).dst, v]) ∧ Own w' w.heap.size v (ipHdr xs).opts ∧ Below w.heap.size w w' := by
  obtain ⟨b, off, rfl, hbl, hc⟩ := hr.at0 (by omega)
  have c1 := hc 1 (by omega)
  have c8 := hc 8 (by omega)
  have c9 := hc 9 (by omega)
  have H6 := Lib.hid (fun W (h : Rd W W.heap.size (some ⟨b, off, none⟩) .u8 xs) => ipWord_any (some ⟨b, off, none⟩) cap n 6 6 rfl xs W hn (by omega) hl hb h)
  have H4 := Lib.hid (fun W (h : Rd W W.heap.size (some ⟨b, off, none⟩) .u8 xs) => ipWord_any (some ⟨b, off, none⟩) cap n 4 4 rfl xs W hn (by omega) hl hb h)
  have H12 := Lib.hid (fun W (h : Rd W W.heap.size (some ⟨b, off, none⟩) .u8 xs) => ipLong_any (some ⟨b, off, none⟩) cap n 12 12 rfl xs W hn (by omega) hl hb h)
  have H16 := Lib.hid (fun W (h : Rd W W.heap.size (some ⟨b, off, none⟩) .u8 xs) => ipLong_any (some ⟨b, off, none⟩) cap n 16 16 rfl xs W hn (by omega) hl hb h)
  obtain ⟨x0, x1⟩ := w16At_bd hb 6
  obtain ⟨y0, y1⟩ := w16At_bd hb 4
  have hwp : w16At xs 4 % 65536 = w16At xs 4 := by omega
  have hd := and_i64_16384 (w16At xs 6) x0 x1
  have hm := and_i64_8192 (w16At xs 6) x0 x1
  have ho := and_i64_8191 (w16At xs 6) x0 x1
  have HB := Lib.hid (show Byt ((xs.take sz).drop 20) from (hb.take sz).drop 20)
  have HL := Lib.hid (cut_len xs 20 sz (by omega))
  have HRd := Lib.hid hr
  unfold ipHdr
  rw [hsz]
  dsimp only
  clear hr hc hsz hb
  have HC : Hid (∀ (W : World) (A' : Option Addr), Rd W W.heap.size A' .u8 ((xs.take sz).drop 20) → ∀ c, Calls Tryz.prog 70 #[.slice A' (sz - 20) c] W fun e w' => ∃ v, e = .returned v ∧ Own w' W.heap.size v ((xs.take sz).drop 20) ∧ Below W.heap.size W w') :=
    Lib.hid fun W A' h c => by have := clone_any A' c _ W h (by rw [HL.out]; omega); rwa [HL.out] at this
  have HRO : Hid (∀ W : World, Below w.heap.size w W → Rd W W.heap.size (some ⟨b, off + 20, none⟩) .u8 ((xs.take sz).drop 20)) :=
    Lib.hid fun W hW => ((HRd.out.take sz).word 20).belows hW (Nat.le_refl _)
  generalize (xs.take sz).drop 20 = opts at *
  generalize w16At xs 4 = ident at *
  generalize l32At xs 12 = src at *
  generalize l32At xs 16 = dst at *
  generalize hW6 : w16At xs 6 = W6 at *
  clear hW6
  generalize xs.getD 1 0 = tos at *
  generalize xs.getD 8 0 = ttl at *
  generalize xs.getD 9 0 = pro at *
  generalize (W6 / 16384 % 2 == 1) = df at *
  generalize (W6 / 8192 % 2 == 1) = mf at *
  have ho2 := Lib.hid ho
  obtain ⟨o0, o1⟩ : 0 ≤ W6 % 8192 ∧ W6 % 8192 < 8192 := by omega
  clear ho x0 x1
  have ho := ho2.out
  clear ho2
  generalize W6 % 8192 = o6 at *
  have hlen : opts.length = sz - 20 := HL.out
  have hbs : (20 : Int) ≤ sz := by omega
  have hbc : (sz : Int) ≤ cap := by omega
  have n1 : (1 : Int) < n := by omega
  have n8 : (8 : Int) < n := by omega
  have n9 : (9 : Int) < n := by omega
  clear hlen hn
  by_cases hk : cap = 20
  · subst hk
    have HRO2 : Hid (∀ W : World, Below w.heap.size w W → Rd W W.heap.size (some ⟨b, off, none⟩) .u8 opts) := Lib.hid fun W _ => by
      have : opts = [] := List.eq_nil_of_length_eq_zero (by rw [HL.out]; omega)
      rw [this]; exact Rd.nil
    clear HRO
    go_enter Tryz.func59, Tryz.ntmps59
    go_upto_region 1 with (fail)
    try dsimp only [Act.put]
    refine wp_name1 ?_
    intro w1 hb1 hs1 b1
    have hlt1 := b1.lt
    have Hr1 := Lib.hid ((HRd.out.below hb1 (Nat.le_refl _)).more hb1.size)
    clear hs1
    go_wp2_with fail
    refine (H6.out _ Hr1.out).mono ?_
    rintro e w2 ⟨rfl, l2⟩
    have hE0 : StV w w.heap.size 37 _ (fun v => #[.int .u8 tos, .int .u16 ident, .bool df, .bool mf, .int .i64 (8 * o6), .int .u8 ttl, .int .u8 pro, .int .u32 src, .int .u32 dst, v]) opts 0 w2 := StV.start (hb1.trans (l2.mono hb1.size)) (Nat.le_refl _) (b1.below l2 hlt1)
    clear Hr1 b1 hlt1 l2 hb1
    go_wp2_with fail
    refine wp_region_walk0 (by kernel_rfl) (StV w w.heap.size 37 _ (fun v => #[.int .u8 tos, .int .u16 ident, .bool df, .bool mf, .int .i64 (8 * o6), .int .u8 ttl, .int .u8 pro, .int .u32 src, .int .u32 dst, v]) opts) [30] (GrowR w.heap.size) [0, 1, 2, 3, 4, 5, 6, 7, 8, 9, 10, 11, 12, 13, 14, 15, 16, 17, 18, 19, 20, 21, 22, 23, 24, 25, 26, 27, 28, 29, 30] (by kernel_rfl) hE0.drew ?_
    iterate 28
      apply Walk.one rfl rfl rfl
      case hrun =>
        intro c W hE hF
        have d1 := (hE.1.cell (p := ⟨b, off + 1, none⟩) hbl).trans c1
        have d8 := (hE.1.cell (p := ⟨b, off + 8, none⟩) hbl).trans c8
        have d9 := (hE.1.cell (p := ⟨b, off + 9, none⟩) hbl).trans c9
        have Hr2 := Lib.hid ((HRd.out.below hE.1 (Nat.le_refl _)).more hE.1.size)
        go_wp2_with (first | ((with_reducible refine (H4.out _ Hr2.out).mono ?_); rintro e wk ⟨rfl, lk⟩) | ((with_reducible refine (H12.out _ Hr2.out).mono ?_); rintro e wk ⟨rfl, lk⟩) | ((with_reducible refine (H16.out _ Hr2.out).mono ?_); rintro e wk ⟨rfl, lk⟩) | fail)
        first
          | exact TextPost.mk ⟨GrowR.refl _ _, hE⟩
          | exact TextPost.mk ⟨GrowR.of lk, hE.below lk⟩
      case hv => rfl
    refine Walk.anyOf (fun p : Option Addr × Nat => .slice p.1 (sz - 20) p.2) sl_inj (fun p W => Own W (w.heap.size + 1) (.slice p.1 (sz - 20) p.2) opts) (fun _ _ _ h hG => h.growR hG) rfl rfl rfl (by kernel_rfl) (by kernel_rfl) ?_ (fun p => ?_)
    · intro c W hE hF
      have hsz := hE.2.2.1
      go_wp2_with fail
      refine (HC.out W _ (HRO2.out W hE.1) _).mono ?_
      rintro e W2 ⟨v, rfl, hown, l⟩
      obtain ⟨p, rfl⟩ := hown.shape HL.out
      go_wp2_with fail
      exact ⟨p, rfl, hown.base_le (by omega), GrowR.of l, hE.below l⟩
    dsimp only [Act.put]
    simp only [List.setIfInBounds_toArray, List.set_cons_succ, List.set_cons_zero]
    apply Walk.one rfl rfl rfl
    case hrun =>
      intro c W hE hF
      go_wp2_with fail
      exact TextPost.mk ⟨GrowR.refl _ _, hE⟩
    case hv => rfl
    apply Walk.keep 0 rfl rfl rfl rfl
    case hrun =>
      intro W2 hE hF
      have hbR := hE.row
      refine wpList_store_row rfl _ _ _ rfl _ _ rfl rfl _ _ hbR (by kernel_rfl) (by simp) (by simp [Value.oneCell']) ?_
      go_wp2_with fail
      exact TextPost.mk ⟨grown_setRow _ _ _, hE.put hF.head⟩
    case hv => rfl
    refine Walk.done (fun W hE hF => ?_)
    obtain ⟨v, hbR, hov⟩ := hE.done
    have hbW := hE.1
    clear hE hF
    go_wp2_with fail
    exact bodyPost_ret (results_cell_row Tryz.results59 _ _ _ _ _ _ _ rfl hbR Tryz.underlying37 rfl (by kernel_rfl)) rfl ⟨v, rfl, hov.base_le (by omega), hbW⟩
  · have HRO2 := HRO
    clear HRO
    go_enter Tryz.func59, Tryz.ntmps59
    go_upto_region 1 with (fail)
    try dsimp only [Act.put]
    refine wp_name1 ?_
    intro w1 hb1 hs1 b1
    have hlt1 := b1.lt
    have Hr1 := Lib.hid ((HRd.out.below hb1 (Nat.le_refl _)).more hb1.size)
    clear hs1
    go_wp2_with fail
    refine (H6.out _ Hr1.out).mono ?_
    rintro e w2 ⟨rfl, l2⟩
    have hE0 : StV w w.heap.size 37 _ (fun v => #[.int .u8 tos, .int .u16 ident, .bool df, .bool mf, .int .i64 (8 * o6), .int .u8 ttl, .int .u8 pro, .int .u32 src, .int .u32 dst, v]) opts 0 w2 := StV.start (hb1.trans (l2.mono hb1.size)) (Nat.le_refl _) (b1.below l2 hlt1)
    clear Hr1 b1 hlt1 l2 hb1
    go_wp2_with fail
    refine wp_region_walk0 (by kernel_rfl) (StV w w.heap.size 37 _ (fun v => #[.int .u8 tos, .int .u16 ident, .bool df, .bool mf, .int .i64 (8 * o6), .int .u8 ttl, .int .u8 pro, .int .u32 src, .int .u32 dst, v]) opts) [30] (GrowR w.heap.size) [0, 1, 2, 3, 4, 5, 6, 7, 8, 9, 10, 11, 12, 13, 14, 15, 16, 17, 18, 19, 20, 21, 22, 23, 24, 25, 26, 27, 28, 29, 30] (by kernel_rfl) hE0.drew ?_
    iterate 28
      apply Walk.one rfl rfl rfl
      case hrun =>
        intro c W hE hF
        have d1 := (hE.1.cell (p := ⟨b, off + 1, none⟩) hbl).trans c1
        have d8 := (hE.1.cell (p := ⟨b, off + 8, none⟩) hbl).trans c8
        have d9 := (hE.1.cell (p := ⟨b, off + 9, none⟩) hbl).trans c9
        have Hr2 := Lib.hid ((HRd.out.below hE.1 (Nat.le_refl _)).more hE.1.size)
        go_wp2_with (first | ((with_reducible refine (H4.out _ Hr2.out).mono ?_); rintro e wk ⟨rfl, lk⟩) | ((with_reducible refine (H12.out _ Hr2.out).mono ?_); rintro e wk ⟨rfl, lk⟩) | ((with_reducible refine (H16.out _ Hr2.out).mono ?_); rintro e wk ⟨rfl, lk⟩) | fail)
        first
          | exact TextPost.mk ⟨GrowR.refl _ _, hE⟩
          | exact TextPost.mk ⟨GrowR.of lk, hE.below lk⟩
      case hv => rfl
    refine Walk.anyOf (fun p : Option Addr × Nat => .slice p.1 (sz - 20) p.2) sl_inj (fun p W => Own W (w.heap.size + 1) (.slice p.1 (sz - 20) p.2) opts) (fun _ _ _ h hG => h.growR hG) rfl rfl rfl (by kernel_rfl) (by kernel_rfl) ?_ (fun p => ?_)
    · intro c W hE hF
      have hsz := hE.2.2.1
      go_wp2_with fail
      refine (HC.out W _ (HRO2.out W hE.1) _).mono ?_
      rintro e W2 ⟨v, rfl, hown, l⟩
      obtain ⟨p, rfl⟩ := hown.shape HL.out
      go_wp2_with fail
      exact ⟨p, rfl, hown.base_le (by omega), GrowR.of l, hE.below l⟩
    dsimp only [Act.put]
    simp only [List.setIfInBounds_toArray, List.set_cons_succ, List.set_cons_zero]
    apply Walk.one rfl rfl rfl
    case hrun =>
      intro c W hE hF
      go_wp2_with fail
      exact TextPost.mk ⟨GrowR.refl _ _, hE⟩
    case hv => rfl
    apply Walk.keep 0 rfl rfl rfl rfl
    case hrun =>
      intro W2 hE hF
      have hbR := hE.row
      refine wpList_store_row rfl _ _ _ rfl _ _ rfl rfl _ _ hbR (by kernel_rfl) (by simp) (by simp [Value.oneCell']) ?_
      go_wp2_with fail
      exact TextPost.mk ⟨grown_setRow _ _ _, hE.put hF.head⟩
    case hv => rfl
    refine Walk.done (fun W hE hF => ?_)
    obtain ⟨v, hbR, hov⟩ := hE.done
    have hbW := hE.1
    clear hE hF
    go_wp2_with fail
    exact bodyPost_ret (results_cell_row Tryz.results59 _ _ _ _ _ _ _ rfl hbR Tryz.underlying37 rfl (by kernel_rfl)) rfl ⟨v, rfl, hov.base_le (by omega), hbW⟩

end Go.Proofs.YtebeekjcepjcnaaGreatDoor
namespace Go.Proofs.YtebeekjcepjcnaaGreatDoor
open Go.RowKit Go.Shelf

/-- A slice that a literal lays. -/
theorem own_lit (w : World) (base n : Nat) (xs : List Int) (cs : Array Value) (hcs : cs = (U8 xs).toArray) (hn : xs.length = n) (hm : n ≤ maxLen) (hbase : base ≤ w.heap.size) :
    Own (w.alloc (.cells cs 5)) base (.slice (some ⟨w.heap.size, 0, none⟩) n n) xs := by
  subst hcs; subst hn
  exact ⟨by simp [U8], .inr ⟨w.heap.size, xs.length, _, rfl, hbase, heap_alloc_new w _, Nat.le_refl _, hm, by simp [U8], by rw [Nat.mul_one]; exact List.take_of_length_le (by simp [U8])⟩⟩

end Go.Proofs.YtebeekjcepjcnaaGreatDoor

namespace Go.Proofs.YtebeekjcepjcnaaGreatDoor
open Go.RowKit Go.Shelf

end Go.Proofs.YtebeekjcepjcnaaGreatDoor
namespace Go.Proofs.YtebeekjcepjcnaaGreatDoor
open Go.RowKit Go.Shelf

theorem own_lit' {w : World} {base n g : Nat} {xs : List Int} {cs : Array Value} (hg : g = w.heap.size) (hcs : cs = (U8 xs).toArray) (hn : xs.length = n) (hm : n ≤ maxLen) (hbase : base ≤ w.heap.size) :
    Own (w.alloc (.cells cs 5)) base (.slice (some ⟨g, 0, none⟩) n n) xs := by
  subst hg
  exact own_lit w base n xs cs hcs hn hm hbase
end Go.Proofs.YtebeekjcepjcnaaGreatDoor
namespace Go.Proofs.YtebeekjcepjcnaaGreatDoor
open Go.RowKit Go.Shelf

end Go.Proofs.YtebeekjcepjcnaaGreatDoor

namespace Go.Proofs.YtebeekjcepjcnaaGreatDoor
open Go.RowKit Go.Shelf

end Go.Proofs.YtebeekjcepjcnaaGreatDoor

namespace Go.Proofs.YtebeekjcepjcnaaGreatDoor
open Go.RowKit Go.Shelf

/-- An append onto an own row that is full: a new block. -/
theorem run_app_grow (w : World) (ty : TypeId) (base g n cap : Nat) (xs : List Int) (hown : Own w base (.slice (some ⟨g, 0, none⟩) n cap) xs) (B : Nat) (A : Option Addr) (c : Nat) (ys : List Int) (hr : Rd w B A .u8 ys) (h0 : 0 < ys.length)
    (hfull : cap < n + ys.length) (hb : n + ys.length ≤ 140737488355328) (base' : Nat) (hbase : base' ≤ w.heap.size) :
    ∃ v' w', (Builtin.append_ #[26, 26] ty #[.slice (some ⟨g, 0, none⟩) n cap, .slice A ys.length c]).run Tryz.prog w = .ok v' w' ∧ Own w' base' v' (xs ++ ys) ∧ Below w.heap.size w w' := by
  obtain rfl := hown.len
  obtain ⟨i, hi, hz, hs, hby⟩ := info_parts u8info
  obtain ⟨b, off, rfl, _, _⟩ := hr.at0 h0
  have holds : ∀ j u, (U8 xs)[j]? = some u → w.cell? ((⟨g, 0, none⟩ : Addr).add j) = some u := World.ownsRow.cells hown rfl
  have hsmall : xs.length + ys.length ≤ maxLen := by simp only [maxLen]; omega
  have hrun := run_append_grow (P := Tryz.prog) w 26 ty 5 i (.int .u8 0) Tryz.underlying26 hi hz ⟨g, 0, none⟩ xs.length cap (U8 xs) (by simp [U8, hs]) holds ⟨b, off, none⟩ ys.length c (U8 ys) (by simp [U8, hs]) hr.cells (by omega) (by simp only [maxLen] at hsmall; omega) (growslice_fits (by omega) (by rw [hby]; omega))
  have hge := grownCap_ge w (xs.length + ys.length) cap 5
  have hcm := grownCap_le_maxLen w (xs.length + ys.length) cap 5 hsmall
  refine ⟨_, _, hrun, Own.mk' (n := xs.length + ys.length) (l := U8 xs ++ U8 ys) ⟨by simp [U8], .inr ⟨w.heap.size, _, _, rfl, hbase, heap_alloc_new w.drew _, hge, hcm, ?_, ?_⟩⟩ (by simp) (U8_append _ _).symm, ?_⟩
  · simp only [Array.size_append, List.size_toArray, size_zeroCells, U8_length]
    simp only [Value.cells]
    show _ = _
    simp
    omega
  · simp only [Array.toList_append, List.append_assoc]
    rw [← List.append_assoc]
    rw [show (xs.length + ys.length) * 1 = (U8 xs ++ U8 ys).length by simp [U8]]
    exact List.take_left
  · exact (Below.refl w.heap.size w).drew.alloc (by simp) _
/-- THE ARM of an append that grows. -/
theorem app_grow {w : World} {ops : Array Oper} {rest : List Oper} {o : Oper} {a : Act} {Q : Exit → Act → World → Prop} (hgd : o.guard = none) (s x : Operand)
    (ho : o.op = .call { callee := .builtin .append, args := #[s, x], argTypes := #[26, 26] })
    (base g n cap : Nat) (xs : List Int) (hs : a.eval s = .slice (some ⟨g, 0, none⟩) n cap) (hown : Own w base (.slice (some ⟨g, 0, none⟩) n cap) xs) (B : Nat) (A : Option Addr) (m c : Nat) (ys : List Int)
    (hx : a.eval x = .slice A m c) (hm : m = ys.length) (hr : Rd w B A .u8 ys) (h0 : 0 < ys.length) (hfull : cap < n + ys.length) (hb : n + ys.length ≤ 140737488355328) (base' : Nat) (hbase : base' ≤ w.heap.size)
    (h : ∀ v' w', Own w' base' v' (xs ++ ys) → Below w.heap.size w w' → wpList Tryz.prog ops Q rest (a.put o.dst v') w') :
    wpList Tryz.prog ops Q (o :: rest) a w := by
  subst hm
  refine wpList_plain hgd fun K hK => ?_
  obtain ⟨v', w', hrun, h2, h3⟩ := run_app_grow w o.type base g n cap xs hown B A c ys hr h0 hfull hb base' hbase
  unfold Oper.wp execOp
  simp only [ho, resolve, invoke, builtin, Sem.run_bind, Sem.run_pure, Result.andThen_ok, List.map_toArray, List.map_cons, List.map_nil, hs, hx, hrun]
  exact hK _ _ (h v' w' h2 h3)
end Go.Proofs.YtebeekjcepjcnaaGreatDoor
