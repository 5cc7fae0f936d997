/-
  Package ip, reading: the seven tests of a header.
-/
import Derived.Test.YtebeekjcepjcnaaGreatDoorRIprd
namespace Go.Proofs.YtebeekjcepjcnaaGreatDoor
open Go.RowKit
/-- A name for the world behind a struct's store. -/
theorem wp_nameRow {P : Program} {c : Code} {Q : Exit → Act → World → Prop} {a : Act} {W : World} {g : Nat} {t : TypeId} {old new : Array Value} (hg : Blk W g t old) (h : ∀ W2, Blk W2 g t new → GrowR g W W2 → c.wp P Q a W2) : c.wp P Q a (W.setRow g new) :=
  h _ (setRow_heap _ _ _ _ _ _ hg) (grown_setRow _ _ _)
/-- Is a header right for data: where its parts come from a packet. -/
theorem right_read (h : IpH) (A : Option Addr) (cap n : Nat) (w : World) (h1 : 0 ≤ h.off) (h2 : h.off ≤ 65528) (h3 : h.off % 8 = 0) (h4 : h.opts.length ≤ 40) (h5 : h.opts.length % 4 = 0) (h6 : h.opts.length + n ≤ 65515) :
    Calls Tryz.prog 60 #[h.val A cap, .int .i64 n] w fun e w' => e = .returned (.bool (h.rightB n)) ∧ Below w.heap.size w w' := by
  obtain ⟨tos, id, df, mf, off, ttl, proto, src, dst, opts⟩ := h
  dsimp only [IpH.val, IpH.rightB] at *
  have b1 : ((off % 8) != 0) = false := by simpa using h3
  have b2 : decide (off < 0) = false := by simpa using h1
  have b3 : decide (65528 < off) = false := by simpa using h2
  have b4 : decide (40 < (opts.length : Int)) = false := by simp; omega
  have b5 : (((opts.length : Int) % 4) != 0) = false := by simp; omega
  have b6 : decide ((n : Int) < 0) = false := by simp
  have b7 : decide (65515 < (n : Int)) = false := by simp; omega
  have b8 : decide (65535 < 20 + (opts.length : Int) + n) = false := by simp; omega
  clear h3 h5
  generalize opts.length = ol at *
  by_cases g : off + n ≤ 65515
  · have b9 : decide (65515 < off + (n : Int)) = false := by simp; omega
    have Hg := Lib.hid (show decide (off + (n : Int) ≤ 65515) = true by simpa using g)
    rw [Hg.out, Bool.true_and]
    clear Hg
    cases mf
    · go_enter Tryz.func60, Tryz.ntmps60
      go_wp2_with fail
      go_ret
      exact ⟨rfl, (Below.refl _ _).alloc (Nat.le_refl _) _⟩
    · by_cases h0 : 0 < n
      · have b10 : decide (0 < (n : Int)) = true := by simp; exact h0
        have Hg := Lib.hid (show (!true || (decide (0 < n) && n % 8 == 0)) = (((n : Int) % 8) == 0) by
          rw [show decide (0 < n) = true by simpa using h0, Bool.not_true, Bool.false_or, Bool.true_and, Bool.eq_iff_iff]; simp; omega)
        rw [Hg.out]
        clear Hg
        go_enter Tryz.func60, Tryz.ntmps60
        go_wp2_with fail
        go_ret
        exact ⟨rfl, (Below.refl _ _).alloc (Nat.le_refl _) _⟩
      · have b10 : decide (0 < (n : Int)) = false := by simp; omega
        have Hg := Lib.hid (show (!true || (decide (0 < n) && n % 8 == 0)) = false by
          rw [show decide (0 < n) = false by simpa using h0]; rfl)
        rw [Hg.out]
        clear Hg
        go_enter Tryz.func60, Tryz.ntmps60
        go_wp2_with fail
        go_ret
        exact ⟨rfl, (Below.refl _ _).alloc (Nat.le_refl _) _⟩
  · have b9 : decide (65515 < off + (n : Int)) = true := by simp; omega
    have Hg := Lib.hid (show decide (off + (n : Int) ≤ 65515) = false by simpa using g)
    rw [Hg.out, Bool.false_and]
    clear Hg
    go_enter Tryz.func60, Tryz.ntmps60
    go_wp2_with fail
    go_ret
    exact ⟨rfl, (Below.refl _ _).alloc (Nat.le_refl _) _⟩

section
variable (A : Option Addr) (cap n : Nat) (xs : List Int) (w : World) (gb gs gt gh : Nat)
theorem ipRead1_any (hn : xs.length = n) (hb : Blk w gb 26 #[.slice A n cap]) : Calls Tryz.prog 50 #[.pointer (some ⟨gb, 0, none⟩)] w fun e w' => e = .returned (.bool (ipT xs 0)) ∧ Below w.heap.size w w' := by
  have hc := hb.cell 0
  have Hg := Lib.hid (show ipT xs 0 = decide ((n : Int) < 20) by simp only [ipT]; rw [hn, Bool.eq_iff_iff]; simp; omega)
  rw [Hg.out]
  clear hn
  go_enter Tryz.func50, Tryz.ntmps50
  go_wp2_with fail
  go_ret
  exact ⟨rfl, Below.refl _ _⟩
theorem ipRead2_any (hn : xs.length = n) (h0 : 0 < n) (hB : Byt xs) (hb : Blk w gb 26 #[.slice A n cap]) (hr : Rd w w.heap.size A .u8 xs) : Calls Tryz.prog 51 #[.pointer (some ⟨gb, 0, none⟩)] w fun e w' => e = .returned (.bool (ipT xs 1)) ∧ Below w.heap.size w w' := by
  have hc := hb.cell 0
  obtain ⟨b, off, rfl, hbl, hcc⟩ := hr.at0 (by omega)
  have c0 := hcc 0 (by omega)
  rw [Nat.add_zero] at c0
  obtain ⟨x0, x1⟩ := hB.at_ 0
  simp only [ipT]
  clear hcc hr hB hn
  generalize xs.getD 0 0 = x at *
  have hi : (0 : Int) < n := by omega
  go_enter Tryz.func51, Tryz.ntmps51
  go_wp2_with fail
  go_ret
  exact ⟨rfl, Below.refl _ _⟩
theorem ipRead3_any (hn : xs.length = n) (h0 : 0 < n) (hB : Byt xs) (hb : Blk w gb 26 #[.slice A n cap]) (s : Value) (hs : Blk w gs 3 #[s]) (hne : gb ≠ gs) (hr : Rd w w.heap.size A .u8 xs) : Calls Tryz.prog 52 #[.pointer (some ⟨gb, 0, none⟩), .pointer (some ⟨gs, 0, none⟩)] w fun e w' => e = .returned (.bool (ipT xs 2)) ∧ Blk w' gs 3 #[.int .i64 (ipSize xs)] ∧ w.grownBy w' (some gs) := by
  have hc := hb.cell 0
  have hsc := hs.cell 0
  have hsf := hs.frozen 0
  obtain ⟨b, off, rfl, hbl, hcc⟩ := hr.at0 (by omega)
  have c0 := hcc 0 (by omega)
  rw [Nat.add_zero] at c0
  obtain ⟨x0, x1⟩ := hB.at_ 0
  have ha := and_u8_15 (xs.getD 0 0) x0 x1
  have Hs := Lib.hid (show (ipSize xs : Int) = 4 * (xs.getD 0 0 % 16) by unfold ipSize; omega)
  have Hg := Lib.hid (show ipT xs 2 = (decide (4 * (xs.getD 0 0 % 16) < 20) || decide ((n : Int) < 4 * (xs.getD 0 0 % 16))) by
    simp only [ipT]; rw [hn, ← Hs.out, Bool.eq_iff_iff]; simp; omega)
  rw [Hg.out, Hs.out]
  clear hcc hr hB hn
  generalize xs.getD 0 0 = x at *
  have hi : (0 : Int) < n := by omega
  obtain ⟨y0, y1⟩ : 0 ≤ x % 16 ∧ x % 16 < 16 := by omega
  have hq := Lib.hid (hs.set 0 (.int .i64 (4 * (x % 16))))
  have hG := Lib.hid (only_setCell (grown_of_below (row := some gs) (Below.refl _ w)) (p := ⟨gs, 0, none⟩) (.inl rfl) (.int .i64 (4 * (x % 16))))
  clear x0 x1 Hg Hs hs hb
  have ha2 := Lib.hid ha
  clear ha
  have ha := ha2.out
  clear ha2
  generalize x % 16 = y at *
  by_cases g : 4 * y < 20
  · have g1 : decide (4 * y < 20) = true := by simpa using g
    rw [g1, Bool.true_or]
    go_enter Tryz.func52, Tryz.ntmps52
    go_wp2_with fail
    go_ret
    exact ⟨rfl, hq.out, hG.out⟩
  · have g1 : decide (4 * y < 20) = false := by simpa using g
    rw [g1, Bool.false_or]
    go_enter Tryz.func52, Tryz.ntmps52
    go_wp2_with fail
    go_ret
    exact ⟨rfl, hq.out, hG.out⟩
theorem ipRead4_any (hn : xs.length = n) (h0 : 4 ≤ n) (hl : n ≤ 1000000) (hB : Byt xs) (hb : Blk w gb 26 #[.slice A n cap]) (t : Value) (ht : Blk w gt 3 #[t]) (hs : Blk w gs 3 #[.int .i64 (ipSize xs)]) (hne : gb ≠ gt) (hne2 : gs ≠ gt) (hr : Rd w w.heap.size A .u8 xs) : Calls Tryz.prog 53 #[.pointer (some ⟨gb, 0, none⟩), .pointer (some ⟨gt, 0, none⟩), .pointer (some ⟨gs, 0, none⟩)] w fun e w' => e = .returned (.bool (ipT xs 3)) ∧ Blk w' gt 3 #[.int .i64 (ipTotal xs)] ∧ w.grownBy w' (some gt) := by
  have H := Lib.hid (ipWord_any A cap n 2 2 rfl xs w hn (by omega) hl hB hr)
  have hc := hb.cell 0
  obtain ⟨x0, x1⟩ := w16At_bd hB 2
  have Hs := Lib.hid (show (ipTotal xs : Int) = w16At xs 2 by unfold ipTotal; omega)
  have Hg := Lib.hid (show ipT xs 3 = (decide (w16At xs 2 < ipSize xs) || decide ((n : Int) < w16At xs 2)) by
    simp only [ipT]; rw [hn, ← Hs.out, Bool.eq_iff_iff]; simp)
  rw [Hg.out, Hs.out]
  clear hr hB hn Hs Hg
  generalize w16At xs 2 = x at *
  generalize (ipSize xs : Int) = s at *
  by_cases g : x < s
  · have g1 : decide (x < s) = true := by simpa using g
    rw [g1, Bool.true_or]
    go_enter Tryz.func53, Tryz.ntmps53
    go_wp2_with fail
    refine H.out.mono ?_
    rintro e w1 ⟨rfl, l1⟩
    have b1 := hb.below l1 hb.lt
    have t1 := ht.below l1 ht.lt
    have s1 := hs.below l1 hs.lt
    have hc1 := b1.cell 0
    have htc := t1.cell 0
    have htf := t1.frozen 0
    have hsc := s1.cell 0
    have hq := Lib.hid (t1.set 0 (.int .i64 x))
    have hG := Lib.hid (only_setCell (grown_of_below (row := some gt) l1) (p := ⟨gt, 0, none⟩) (.inl rfl) (.int .i64 x))
    clear b1 t1 s1 l1
    go_wp2_with fail
    go_ret
    exact ⟨rfl, hq.out, hG.out⟩
  · have g1 : decide (x < s) = false := by simpa using g
    rw [g1, Bool.false_or]
    go_enter Tryz.func53, Tryz.ntmps53
    go_wp2_with fail
    refine H.out.mono ?_
    rintro e w1 ⟨rfl, l1⟩
    have b1 := hb.below l1 hb.lt
    have t1 := ht.below l1 ht.lt
    have s1 := hs.below l1 hs.lt
    have hc1 := b1.cell 0
    have htc := t1.cell 0
    have htf := t1.frozen 0
    have hsc := s1.cell 0
    have hq := Lib.hid (t1.set 0 (.int .i64 x))
    have hG := Lib.hid (only_setCell (grown_of_below (row := some gt) l1) (p := ⟨gt, 0, none⟩) (.inl rfl) (.int .i64 x))
    clear b1 t1 s1 l1
    go_wp2_with fail
    go_ret
    exact ⟨rfl, hq.out, hG.out⟩
theorem ipRead5_any (sz : Nat) (hn : xs.length = n) (hl : n ≤ 1000000) (hB : Byt xs) (hb : Blk w gb 26 #[.slice A n cap]) (hsz : ipSize xs = sz) (hs : Blk w gs 3 #[.int .i64 sz]) (h1 : sz ≤ n) (hcap : n ≤ cap) (hr : Rd w w.heap.size A .u8 xs) : Calls Tryz.prog 55 #[.pointer (some ⟨gb, 0, none⟩), .pointer (some ⟨gs, 0, none⟩)] w fun e w' => e = .returned (.bool (ipT xs 4)) ∧ Below w.heap.size w w' := by
  have hlen : (xs.take sz).length = sz := by rw [List.length_take]; omega
  have H := Lib.hid (right_any A cap (xs.take sz) w (hB.take sz) (by omega) (hr.take sz))
  rw [hlen] at H
  have hc := hb.cell 0
  have hsc := hs.cell 0
  have Hg := Lib.hid (show ipT xs 4 = !(ofB (xs.take sz) == 0) by simp only [ipT]; rw [hsz])
  rw [Hg.out]
  clear hr hB hn Hg hlen hsz
  generalize (ofB (xs.take sz) == 0) = B at *
  have hi : (sz : Int) ≤ cap := by omega
  go_enter Tryz.func55, Tryz.ntmps55
  go_wp2_with fail
  refine H.out.mono ?_
  rintro e w1 ⟨rfl, l1⟩
  go_wp2_with fail
  go_ret
  exact ⟨rfl, l1⟩
theorem ipRead6_any (hn : xs.length = n) (h0 : 8 ≤ n) (hl : n ≤ 1000000) (hB : Byt xs) (hb : Blk w gb 26 #[.slice A n cap]) (hr : Rd w w.heap.size A .u8 xs) : Calls Tryz.prog 57 #[.pointer (some ⟨gb, 0, none⟩)] w fun e w' => e = .returned (.bool (ipT xs 5)) ∧ Below w.heap.size w w' := by
  have H := Lib.hid (ipWord_any A cap n 6 6 rfl xs w hn (by omega) hl hB hr)
  have hc := hb.cell 0
  obtain ⟨x0, x1⟩ := w16At_bd hB 6
  have ha := and_i64_32768 (w16At xs 6) x0 x1
  simp only [ipT]
  clear hr hB hn
  generalize w16At xs 6 = x at *
  go_enter Tryz.func57, Tryz.ntmps57
  go_wp2_with fail
  refine H.out.mono ?_
  rintro e w1 ⟨rfl, l1⟩
  go_wp2_with fail
  go_ret
  exact ⟨rfl, l1⟩
end
/-- The header that is read, in cells. -/
def ipN10 (xs : List Int) (v : Value) : Array Value := #[.int .u8 (ipHdr xs).tos, .int .u16 (ipHdr xs).id, .bool (ipHdr xs).df, .bool (ipHdr xs).mf, .int .i64 (ipHdr xs).off, .int .u8 (ipHdr xs).ttl, .int .u8 (ipHdr xs).proto, .int .u32 (ipHdr xs).src, .int .u32 (ipHdr xs).dst, v]
theorem ipSize_bd (xs : List Int) : ipSize xs ≤ 60 ∧ ipSize xs % 4 = 0 := by unfold ipSize; omega
set_option maxRecDepth 100000 in
set_option maxHeartbeats 1000000 in
theorem ipRead7_any (A : Option Addr) (cap n : Nat) (xs : List Int) (w : World) (gb gs gt gh : Nat) (sz tt : Nat) (hn : xs.length = n) (hl : n ≤ 1000000) (hB : Byt xs) (hb : Blk w gb 26 #[.slice A n cap]) (hsz : ipSize xs = sz) (hs : Blk w gs 3 #[.int .i64 sz]) (htt : ipTotal xs = tt) (ht : Blk w gt 3 #[.int .i64 tt])
    (H0 : Array Value) (hH : H0.size = 10) (hh : Blk w gh 37 H0) (n1 : gb ≠ gh) (n2 : gs ≠ gh) (n3 : gt ≠ gh) (h20 : 20 ≤ sz) (hst : sz ≤ tt) (htn : tt ≤ n) (hcap : n ≤ cap) (hr : Rd w w.heap.size A .u8 xs) :
    Calls Tryz.prog 58 #[.pointer (some ⟨gb, 0, none⟩), .pointer (some ⟨gs, 0, none⟩), .pointer (some ⟨gh, 0, none⟩), .pointer (some ⟨gt, 0, none⟩)] w fun e w' => e = .returned (.bool (ipT xs 6)) ∧ ∃ v, Blk w' gh 37 (ipN10 xs v) ∧ Own w' w.heap.size v (ipHdr xs).opts ∧ w.grownBy w' (some gh) := by
  have H := Lib.hid (ipHeader_any A cap n sz xs w hn hsz h20 (by omega) hcap hl hB hr)
  have hol : (ipHdr xs).opts.length = sz - 20 := by simp only [ipHdr]; rw [hsz]; exact cut_len _ _ _ (by omega)
  obtain ⟨z0, z1⟩ := ipSize_bd xs
  obtain ⟨q0, q1⟩ := w16At_bd hB 2
  obtain ⟨o0, o1⟩ := w16At_bd hB 6
  have ht6 : tt < 65536 := by rw [← htt]; unfold ipTotal; omega
  have hR := fun (p : Option Addr × Nat) (W : World) => right_read (ipHdr xs) p.1 p.2 (tt - sz) W (by simp only [ipHdr]; omega) (by simp only [ipHdr]; omega) (by simp only [ipHdr]; omega) (by rw [hol]; omega) (by rw [hol]; omega) (by rw [hol]; omega)
  have hg : ipT xs 6 = !(ipHdr xs).rightB (tt - sz) := by simp only [ipT]; rw [hsz, htt]
  rw [hg]
  have hsub : ((tt : Int) - (sz : Int)) = ((tt - sz : Nat) : Int) := by omega
  simp only [IpH.val, hol, ← hsub] at hR
  have HR := Lib.hid hR
  have HO := Lib.hid hol
  unfold ipN10
  have Hlen := Lib.hid hH
  clear hR hg hsub hol z0 z1 q0 q1 o0 o1 hr hsz htt hn hB
  generalize (ipHdr xs).rightB (tt - sz) = B at *
  generalize (ipHdr xs).opts = opts at *
  generalize (ipHdr xs).tos = f1 at *
  generalize (ipHdr xs).id = f2 at *
  generalize (ipHdr xs).df = f3 at *
  generalize (ipHdr xs).mf = f4 at *
  generalize (ipHdr xs).off = f5 at *
  generalize (ipHdr xs).ttl = f6 at *
  generalize (ipHdr xs).proto = f7 at *
  generalize (ipHdr xs).src = f8 at *
  generalize (ipHdr xs).dst = f9 at *
  have hc := hb.cell 0
  have hsc := hs.cell 0
  have c1 : (0 : Int) ≤ sz := by omega
  have c2 : (sz : Int) < 1000001 := by omega
  have c3 : (tt : Int) < 1000001 := by omega
  have c4 : (sz : Int) ≤ tt := by omega
  clear hH h20 hst htn hcap hl
  go_enter Tryz.func58, Tryz.ntmps58
  go_wp2_with fail
  refine H.out.mono ?_
  rintro e w1 ⟨v, rfl, ho, l1⟩
  obtain ⟨p, rfl⟩ := ho.shape HO.out
  have hh1 := hh.below l1 hh.lt
  have hlo := hh.lt
  go_upto_region 2 with (first | ((with_reducible refine look_store ?_); refine wpList_store_row rfl _ _ _ rfl _ _ rfl rfl _ _ hh1 (by kernel_rfl) (by rw [Hlen.out]; rfl) (by simp [Value.oneCell']) ?_) | fail)
  try dsimp only [Act.put]
  refine wp_nameRow hh1 ?_
  intro W2 hh2 hg2
  have b2 := (hb.below l1 hb.lt).grown hg2 (by simpa using n1)
  have s2 := (hs.below l1 hs.lt).grown hg2 (by simpa using n2)
  have t2 := (ht.below l1 ht.lt).grown hg2 (by simpa using n3)
  have tc := t2.cell 0
  have sc := s2.cell 0
  have ho2 : Own W2 w.heap.size (.slice p.1 (sz - 20) p.2) opts := ho.grown hg2 (by
    cases hv : (Value.slice p.1 (sz - 20) p.2).ownBlock with
    | none => exact .inl rfl
    | some g =>
      refine .inr (fun e => ?_)
      have := (ho.lt hv).1
      injection e with e
      omega)
  clear hc hsc b2 s2 t2
  go_wp2_with (first | ((with_reducible refine look_load ?_); refine wpList_load_row rfl _ _ rfl _ rfl _ _ _ _ hh2 Tryz.underlying37 rfl (by kernel_rfl) ?_) | fail)
  refine (HR.out p W2).mono ?_
  rintro e W3 ⟨rfl, l3⟩
  go_wp2_with fail
  go_ret
  refine ⟨rfl, _, hh2.below l3 hh2.lt, ho2.below l3 (Nat.le_refl _), ?_⟩
  have hG1 : w.grownBy w1 (some gh) := grown_of_below l1
  exact (hG1.trans hg2).trans (grown_of_below l3)

end Go.Proofs.YtebeekjcepjcnaaGreatDoor
