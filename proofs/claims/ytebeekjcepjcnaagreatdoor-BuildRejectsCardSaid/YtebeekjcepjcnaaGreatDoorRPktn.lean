/-
  The method udp of pkt's packet.
  icmp.Quote: its four tests.
  icmp.Quote: the relation of its loop.
-/
import Derived.Test.YtebeekjcepjcnaaGreatDoorRIcmprd
namespace Go.Proofs.YtebeekjcepjcnaaGreatDoor
open Go.RowKit
theorem UdpOut.open_ {w W : World} {d : List Int} {e : Ending} (h : UdpOut w d e W) (hB : Byt d) : ∃ a0 a1 b2 T, e = .returned (.tuple #[.agg #[.int .u16 a0, .int .u16 a1, .bool b2], .int .i64 T, .int .i64 (udpE d)]) ∧ Below w.heap.size w W ∧ (0 ≤ T ∧ T < 65536) ∧ (udpE d = 0 → a0 = w16At d 0 ∧ a1 = w16At d 2 ∧ T = w16At d 4) := by
  obtain ⟨he, hb⟩ := h
  by_cases h0 : udpE d = 0
  · rw [if_pos h0, if_pos h0] at he
    exact ⟨_, _, _, _, he, hb, w16At_bd hB 4, fun _ => ⟨rfl, rfl, rfl⟩⟩
  · rw [if_neg h0, if_neg h0] at he
    exact ⟨_, _, _, _, he, hb, by omega, fun h => absurd h h0⟩
set_option maxRecDepth 100000 in
set_option maxHeartbeats 8000000 in
theorem pktUdp_any (p s d : Int) (A : Option Addr) (cap n : Nat) (xs : List Int) (g : Nat) (w : World) (hn : xs.length = n) (hcap : n ≤ cap) (hl : n ≤ 1000000) (hB : Byt xs) (hr : Rd w g A .u8 xs) (hb : Blk w g 91 (pkC (.slice A n cap) (baseK p s d))) :
    Calls Tryz.prog 27 #[.pointer (some ⟨g, 0, none⟩)] w fun e W' => e = .returned (.int .i64 (udpE2 xs)) ∧ Below g w W' ∧ w.heap.size ≤ W'.heap.size ∧ (udpE2 xs = 0 → Blk W' g 91 (pkC (.slice A n cap) (udpF (baseK p s d) xs))) := by
  have HT := Lib.hid (udpRead_any A cap n xs w hn hcap hl hB (hr.more (Nat.le_of_lt hb.lt)))
  have HO := Lib.hid (fun e W h => UdpOut.open_ (w := w) (W := W) (d := xs) (e := e) h hB)
  have HF := Lib.hid (show udpF (baseK p s d) xs = ⟨⟨p, s, d, w16At xs 0, w16At xs 2⟩, 2, 0, 0, 0, 0, 0, 0, w16At xs 4 - 8, ⟨0, 0, 0, 0, 0⟩, 0⟩ from rfl)
  have HE2 := Lib.hid (show udpE2 xs = if udpE xs ≠ 0 then udpE xs else if w16At xs 0 = 0 then 92 else 0 from rfl)
  have hb0 : w.cell? ⟨g, 0, none⟩ = some (.slice A n cap) := hb.cell 0
  have hgl := hb.lt
  clear hr hB hn
  generalize udpE2 xs = E2 at *
  generalize udpE xs = E at *
  go_enter Tryz.func27, Tryz.ntmps27
  go_wp2_with fail
  refine HT.out.mono ?_
  intro e w1 hto
  obtain ⟨a0, a1, b2, T, rfl, l1, hT, hEq⟩ := HO.out _ _ hto
  have HEq := Lib.hid hEq
  have b1 := hb.below l1 hgl
  have b10 : w1.cell? ⟨g, 0, none⟩ = some (.slice A n cap) := b1.cell 0
  clear hto hEq hb0
  have hz1 := l1.size
  go_upto_region 3 with (first | ((with_reducible refine look_store ?_); refine wpList_store_new rfl _ _ _ rfl _ _ rfl rfl _ _ rfl (by kernel_rfl) (by simp) (by simp [Value.oneCell']) ?_) | fail)
  refine wp_name1 ?_
  intro w2 hb2 hs2 bh
  have b2' := b1.below hb2 (by omega)
  have hk6 : w2.cell? ⟨g, 6, none⟩ = some (.int .u8 0) := b2'.cell 6
  have hf6 := b2'.frozen 6
  have hk13 : w2.cell? ⟨g, 13, none⟩ = some (.int .i64 0) := b2'.cell 13
  have hf13 := b2'.frozen 13
  have hbx2 := (l1.mono (Nat.le_of_lt hgl)).trans (hb2.mono (by omega : g ≤ w1.heap.size))
  go_wp2_with fail
  have hS0 : St w g [(w1.heap.size, 115, #[.int .u16 a0, .int .u16 a1, .bool b2])] w2 := (St.nil hbx2 (by omega)).cons bh
  have hS1 := (hS0.setFar (p := ⟨g, 6, none⟩) (Nat.le_refl _) (by simp; omega) (.int .u8 2)).setFar (p := ⟨g, 13, none⟩) (Nat.le_refl _) (by simp; omega) (.int .i64 (T - 8))
  have hB1 : Blk ((w2.setCell ⟨g, 6, none⟩ (.int .u8 2)).setCell ⟨g, 13, none⟩ (.int .i64 (T - 8))) g 91 (pkC (.slice A n cap) (pkU p s d (T - 8) a0 a1 2)) := (b2'.set 6 _).set 13 _
  have hS : StN w g [(w1.heap.size, 115, #[.int .u16 a0, .int .u16 a1, .bool b2])] g 91 (fun c => pkC (.slice A n cap) (pkU p s d (T - 8) a0 a1 (c + 2))) 0 _ := ⟨hS1, Nat.le_refl _, by simp; omega, hB1⟩
  clear hS0 hS1 hB1 bh b1 b10 hb2 b2' hk6 hf6 hk13 hf13 hbx2
  refine wp_region_walk0 (by kernel_rfl) (StN w g _ g 91 (fun c => pkC (.slice A n cap) (pkU p s d (T - 8) a0 a1 (c + 2)))) [9, 13] GTop [0, 1, 2, 3, 4, 5, 6, 7, 8, 9, 10, 11, 12, 13] (by kernel_rfl) hS.drew ?_
  iterate 9
    apply Walk.one rfl rfl rfl
    case hrun =>
      intro c W hE hF
      have hsl := (hE.2.2.2.cell 0).trans (pkC_0 _ _)
      have hh := hE.1.get 0 rfl
      have hc0 := hh.cell 0
      have hc1 := hh.cell 1
      go_wp2_with fail
      exact TextPost.mk ⟨GTop.mk, hE⟩
    case hv => rfl
  apply Walk.keep 0 rfl rfl rfl rfl
  case hrun =>
    intro W hE hF
    have hcx : W.cell? ⟨g, 4, none⟩ = some (.int .u16 0) := hE.2.2.2.cell 4
    have hfx := hE.2.2.2.frozen 4
    go_wp2_with fail
    exact TextPost.mk ⟨GTop.mk, hE.set 4 _ rfl⟩
  case hv => rfl
  iterate 3
    apply Walk.one rfl rfl rfl
    case hrun =>
      intro c W hE hF
      have hsl := (hE.2.2.2.cell 0).trans (pkC_0 _ _)
      go_wp2_with fail
      exact TextPost.mk ⟨GTop.mk, hE⟩
    case hv => rfl
  apply Walk.keep 1 rfl rfl rfl rfl
  case hrun =>
    intro W hE hF
    have hcx : W.cell? ⟨g, 5, none⟩ = some (.int .u16 0) := hE.2.2.2.cell 5
    have hfx := hE.2.2.2.frozen 5
    go_wp2_with fail
    exact TextPost.mk ⟨GTop.mk, hE.set 5 _ rfl⟩
  case hv => rfl
  refine Walk.done (fun W hE hF => ?_)
  have hbW := hE.1.1
  have hbR := hE.2.2.2
  have hhl := (hE.1.get 0 rfl).lt
  have hc0 := (hE.1.get 0 rfl).cell 0
  clear hE hF hS
  by_cases hE0 : E = 0
  case neg =>
    have e0 : (E == 0) = false := by simpa using hE0
    have HX := Lib.hid (HE2.out.trans (if_pos hE0))
    have HE0 := Lib.hid hE0
    clear hE0
    go_wp2_with fail
    go_ret
    exact ⟨by rw [HX.out]; rfl, hbW, by omega, fun h => absurd (HX.out ▸ h) HE0.out⟩
  subst hE0
  have HX := Lib.hid (HE2.out.trans (if_neg (by simp)))
  obtain ⟨rfl, rfl, rfl⟩ := HEq.out rfl
  by_cases hz : w16At xs 0 = 0
  · have HX2 := Lib.hid (HX.out.trans (if_pos hz))
    rw [hz] at hc0
    clear hz
    go_wp2_with fail
    go_ret
    exact ⟨by rw [HX2.out]; rfl, hbW, by omega, fun h => by rw [HX2.out] at h; cases h⟩
  · have HX2 := Lib.hid (HX.out.trans (if_neg hz))
    have ez : (w16At xs 0 == 0) = false := by simpa using hz
    have HbR := Lib.hid hbR
    clear hz hbR
    go_wp2_with fail
    go_ret
    refine ⟨by rw [HX2.out]; rfl, hbW, by omega, fun h => ?_⟩
    rw [HF.out]
    exact HbR.out
end Go.Proofs.YtebeekjcepjcnaaGreatDoor
namespace Go.Proofs.YtebeekjcepjcnaaGreatDoor
open Go.RowKit
theorem w16_at (xs : List Int) (k : Nat) : w16 ((xs.drop k).getD 0 0) ((xs.drop k).getD 1 0) = w16At xs k := by
  simp [w16, w16At, List.getD_eq_getElem?_getD]
/-- icmp.word at a place of what is quoted. -/
theorem quoWord_any (b off cap n k : Nat) (xs : List Int) (w : World) (hn : xs.length = n) (hk : k + 2 ≤ n) (hB : Byt xs) (hr : Rd w w.heap.size (some ⟨b, off, none⟩) .u8 xs) :
    Calls Tryz.prog 71 #[.slice (some ⟨b, off + k, none⟩) (n - k) cap] w fun e w' => e = .returned (.int .u16 (w16At xs k)) ∧ Below w.heap.size w w' := by
  rw [← w16_at]
  refine icmpWord_any _ cap (n - k) (xs.drop k) w (by rw [List.length_drop, hn]) (by omega) (hB.drop k) (hr.drop k fun _ b2 o2 h => ?_)
  simp only [Option.some.injEq, Addr.mk.injEq] at h
  obtain ⟨rfl, rfl, _⟩ := h
  rfl
section
variable (A : Option Addr) (cap n : Nat) (xs : List Int) (w : World) (gb gs : Nat)
set_option maxRecDepth 100000 in
theorem quote1_any (hn : xs.length = n) (hB : Byt xs) (hb : Blk w gb 26 #[.slice A n cap]) (hr : Rd w w.heap.size A .u8 xs) : Calls Tryz.prog 92 #[.pointer (some ⟨gb, 0, none⟩)] w fun e w' => e = .returned (.bool (quoT xs 0)) ∧ Below w.heap.size w w' := by
  have hc := hb.cell 0
  by_cases h : n < 20
  · have Hg := Lib.hid (show quoT xs 0 = true by simp only [quoT]; rw [hn, decide_eq_true h, Bool.true_or])
    rw [Hg.out]
    have g1 : decide ((n : Int) < 20) = true := decide_eq_true (by omega)
    clear hn h Hg
    go_enter Tryz.func92, Tryz.ntmps92
    go_wp2_with fail
    go_ret
    exact ⟨rfl, Below.refl _ _⟩
  · have Hg := Lib.hid (show quoT xs 0 = (xs.getD 0 0 / 16 != 4) by simp only [quoT]; rw [hn, decide_eq_false h, Bool.false_or])
    rw [Hg.out]
    have g1 : decide ((n : Int) < 20) = false := decide_eq_false (by omega)
    obtain ⟨b, off, rfl, hbl, hcc⟩ := hr.at0 (by omega)
    have c0 := hcc 0 (by omega)
    rw [Nat.add_zero] at c0
    have hi : (0 : Int) < n := by omega
    obtain ⟨x0, x1⟩ := hB.at_ 0
    clear hn h Hg hcc hr hB
    generalize xs.getD 0 0 = x at *
    go_enter Tryz.func92, Tryz.ntmps92
    go_wp2_with fail
    go_ret
    exact ⟨rfl, Below.refl _ _⟩
set_option maxRecDepth 100000 in
theorem quote2_any (hn : xs.length = n) (h0 : 0 < n) (hl : n ≤ 1000000) (hB : Byt xs) (hb : Blk w gb 26 #[.slice A n cap]) (s : Value) (hs : Blk w gs 3 #[s]) (hne : gb ≠ gs) (hr : Rd w w.heap.size A .u8 xs) : Calls Tryz.prog 93 #[.pointer (some ⟨gb, 0, none⟩), .pointer (some ⟨gs, 0, none⟩)] w fun e w' => e = .returned (.bool (quoT xs 1)) ∧ Blk w' gs 3 #[.int .i64 (ipSize xs)] ∧ w.grownBy w' (some gs) := by
  have hc := hb.cell 0
  have hsc := hs.cell 0
  have hsf := hs.frozen 0
  obtain ⟨b, off, rfl, hbl, hcc⟩ := hr.at0 (by omega)
  have c0 := hcc 0 (by omega)
  rw [Nat.add_zero] at c0
  obtain ⟨x0, x1⟩ := hB.at_ 0
  have ha := and_u8_15 (xs.getD 0 0) x0 x1
  have Hs := Lib.hid (show (ipSize xs : Int) = 4 * (xs.getD 0 0 % 16) by unfold ipSize; omega)
  have Hg := Lib.hid (show quoT xs 1 = (decide (4 * (xs.getD 0 0 % 16) < 20) || decide ((n : Int) < 4 * (xs.getD 0 0 % 16) + 8)) by
    simp only [quoT]; rw [hn, ← Hs.out, Bool.eq_iff_iff]; simp; omega)
  rw [Hg.out, Hs.out]
  clear hcc hr hB hn
  generalize xs.getD 0 0 = x at *
  have hi : (0 : Int) < n := by omega
  obtain ⟨y0, y1⟩ : 0 ≤ x % 16 ∧ x % 16 < 16 := by omega
  have hq := Lib.hid (hs.set 0 (.int .i64 (4 * (x % 16))))
  have hG := Lib.hid (only_setCell (grown_of_below (row := some gs) (Below.refl _ w)) (p := ⟨gs, 0, none⟩) (.inl rfl) (.int .i64 (4 * (x % 16))))
  clear x0 x1 Hg Hs hs hb
  have ha2 := Lib.hid ha
  clear ha
  have ha := ha2.out
  clear ha2
  generalize x % 16 = y at *
  by_cases g : 4 * y < 20
  · have g1 : decide (4 * y < 20) = true := decide_eq_true g
    rw [g1, Bool.true_or]
    go_enter Tryz.func93, Tryz.ntmps93
    go_wp2_with fail
    go_ret
    exact ⟨rfl, hq.out, hG.out⟩
  · have g1 : decide (4 * y < 20) = false := decide_eq_false g
    rw [g1, Bool.false_or]
    go_enter Tryz.func93, Tryz.ntmps93
    go_wp2_with fail
    go_ret
    exact ⟨rfl, hq.out, hG.out⟩
set_option maxRecDepth 100000 in
theorem quote4_any (hn : xs.length = n) (h8 : 8 ≤ n) (hcap : n ≤ cap) (hB : Byt xs) (hb : Blk w gb 26 #[.slice A n cap]) (hr : Rd w w.heap.size A .u8 xs) : Calls Tryz.prog 95 #[.pointer (some ⟨gb, 0, none⟩)] w fun e w' => e = .returned (.bool (quoT xs 3)) ∧ Below w.heap.size w w' := by
  have hc := hb.cell 0
  obtain ⟨b, off, rfl, hbl, hcc⟩ := hr.at0 (by omega)
  have H := Lib.hid (quoWord_any b off (cap - 6) n 6 xs w hn (by omega) hB hr)
  obtain ⟨x0, x1⟩ := w16At_bd hB 6
  have ha := andNot_u16_24576 (w16At xs 6) x0 x1
  simp only [quoT, Bool.not_and]
  clear hr hB hn hcc
  generalize w16At xs 6 = x at *
  have hc6 : cap ≠ 6 := by omega
  have i1 : (6 : Int) ≤ n := by omega
  have i2 : (n : Int) ≤ cap := by omega
  go_enter Tryz.func95, Tryz.ntmps95
  go_wp2_with fail
  refine H.out.mono ?_
  rintro e w1 ⟨rfl, l1⟩
  go_wp2_with fail
  go_ret
  exact ⟨rfl, l1⟩
end
set_option maxRecDepth 100000 in
set_option maxHeartbeats 1000000 in
theorem quote3_any (A : Option Addr) (cap n : Nat) (xs : List Int) (w : World) (gb gs sz : Nat) (hn : xs.length = n) (hl : n ≤ 1000000) (hcap : n ≤ cap) (hB : Byt xs) (hb : Blk w gb 26 #[.slice A n cap]) (hsz : ipSize xs = sz) (hs : Blk w gs 3 #[.int .i64 sz]) (h20 : 20 ≤ sz) (h8 : sz + 8 ≤ n) (hr : Rd w w.heap.size A .u8 xs) :
    Calls Tryz.prog 94 #[.pointer (some ⟨gb, 0, none⟩), .pointer (some ⟨gs, 0, none⟩)] w fun e w' => e = .returned (.bool (quoT xs 2)) ∧ Below w.heap.size w w' := by
  have hlen : (xs.take sz).length = sz := by rw [List.length_take]; omega
  obtain ⟨b, off, rfl, hbl, _⟩ := hr.at0 (by omega)
  have HR := Lib.hid (fun (W : World) (h : Below w.heap.size w W) (hz : w.heap.size ≤ W.heap.size) => right_any (some ⟨b, off, none⟩) cap (xs.take sz) W (hB.take sz) (by omega) (((hr.take sz).below h (Nat.le_refl _)).more hz))
  rw [hlen] at HR
  have HW := Lib.hid (fun (W : World) (h : Below w.heap.size w W) (hz : w.heap.size ≤ W.heap.size) => quoWord_any b off (cap - 2) n 2 xs W hn (by omega) hB ((hr.below h (Nat.le_refl _)).more hz))
  have Hg := Lib.hid (show quoT xs 2 = (!(ofB (xs.take sz) == 0) || decide (w16At xs 2 < (sz : Int) + 8)) by simp only [quoT]; rw [hsz])
  obtain ⟨x0, x1⟩ := w16At_bd hB 2
  rw [Hg.out]
  clear hr hB hn Hg hlen hsz
  generalize w16At xs 2 = x at *
  have hSt := (St.nil (Below.refl w.heap.size w) (Nat.le_refl _)).cons hs |>.cons hb
  have hi : (sz : Int) ≤ cap := by omega
  have hi2 : (2 : Int) ≤ n := by omega
  have hi3 : (n : Int) ≤ cap := by omega
  have hc2 : cap ≠ 2 := by omega
  have hs0 : (0 : Int) ≤ sz := by omega
  have hs1 : (sz : Int) < 1000001 := by omega
  clear hb hs h20 h8 hl hcap
  generalize hBB : (ofB (xs.take sz) == 0) = B at *
  rcases B with _ | _
  · go_enter Tryz.func94, Tryz.ntmps94
    go_upto_region 1 with (fail)
    refine wp_region_walk0 (by kernel_rfl) (fun _ W => St w w.heap.size _ W) [] GTop [0, 1, 2, 3, 4, 5, 6, 7, 8, 9, 10, 11, 12, 13, 14] (by kernel_rfl) hSt.drew ?_
    iterate 3
      apply Walk.one rfl rfl rfl
      case hrun =>
        intro c W hE hF
        have hc0 := (hE.get 0 rfl).cell 0
        have hc1 := (hE.get 1 rfl).cell 0
        go_wp2_with fail
        exact TextPost.mk ⟨GTop.mk, hE⟩
      case hv => rfl
    apply Walk.one rfl rfl rfl
    case hrun =>
      intro c W hE hF
      go_wp2_with fail
      refine (HR.out W hE.1 hE.2.1).mono ?_
      rintro e W2 ⟨rfl, l2⟩
      go_wp2_with fail
      exact TextPost.mk ⟨GTop.mk, hE.below l2⟩
    case hv => rfl
    iterate 11
      apply Walk.one rfl rfl rfl
      case hrun =>
        intro c W hE hF
        go_wp2_with fail
        exact TextPost.mk ⟨GTop.mk, hE⟩
      case hv => rfl
    refine Walk.done (fun W hE hF => ?_)
    have hbW := hE.1
    clear hE hF hSt
    go_wp2_with fail
    go_ret
    exact ⟨rfl, hbW⟩
  · go_enter Tryz.func94, Tryz.ntmps94
    go_upto_region 1 with (fail)
    refine wp_region_walk0 (by kernel_rfl) (fun _ W => St w w.heap.size _ W) [] GTop [0, 1, 2, 3, 4, 5, 6, 7, 8, 9, 10, 11, 12, 13, 14] (by kernel_rfl) hSt.drew ?_
    iterate 3
      apply Walk.one rfl rfl rfl
      case hrun =>
        intro c W hE hF
        have hc0 := (hE.get 0 rfl).cell 0
        have hc1 := (hE.get 1 rfl).cell 0
        go_wp2_with fail
        exact TextPost.mk ⟨GTop.mk, hE⟩
      case hv => rfl
    apply Walk.one rfl rfl rfl
    case hrun =>
      intro c W hE hF
      go_wp2_with fail
      refine (HR.out W hE.1 hE.2.1).mono ?_
      rintro e W2 ⟨rfl, l2⟩
      go_wp2_with fail
      exact TextPost.mk ⟨GTop.mk, hE.below l2⟩
    case hv => rfl
    iterate 4
      apply Walk.one rfl rfl rfl
      case hrun =>
        intro c W hE hF
        have hc0 := (hE.get 0 rfl).cell 0
        go_wp2_with fail
        exact TextPost.mk ⟨GTop.mk, hE⟩
      case hv => rfl
    apply Walk.one rfl rfl rfl
    case hrun =>
      intro c W hE hF
      go_wp2_with fail
      refine (HW.out W hE.1 hE.2.1).mono ?_
      rintro e W2 ⟨rfl, l2⟩
      go_wp2_with fail
      exact TextPost.mk ⟨GTop.mk, hE.below l2⟩
    case hv => rfl
    iterate 6
      apply Walk.one rfl rfl rfl
      case hrun =>
        intro c W hE hF
        have hc1 := (hE.get 1 rfl).cell 0
        go_wp2_with fail
        exact TextPost.mk ⟨GTop.mk, hE⟩
      case hv => rfl
    refine Walk.done (fun W hE hF => ?_)
    have hbW := hE.1
    clear hE hF hSt
    go_wp2_with fail
    go_ret
    exact ⟨rfl, hbW⟩
end Go.Proofs.YtebeekjcepjcnaaGreatDoor
namespace Go.Proofs.YtebeekjcepjcnaaGreatDoor
open Go.RowKit
def keyZ : Array Value := #[.int .u8 0, .int .u32 0, .int .u32 0, .int .u16 0, .int .u16 0]
def quoFn : Nat → Nat
  | 0 => 92 | 1 => 93 | 2 => 94 | _ => 95
def quoCap (g : Nat) : Nat → Array Value
  | 0 => #[.pointer (some ⟨g, 0, none⟩)] | 1 => #[.pointer (some ⟨g, 0, none⟩), .pointer (some ⟨g + 2, 0, none⟩)] | 2 => #[.pointer (some ⟨g, 0, none⟩), .pointer (some ⟨g + 2, 0, none⟩)] | _ => #[.pointer (some ⟨g, 0, none⟩)]
def quoArr (g : Nat) : Array Value := #[.func (.func 92) #[] (quoCap g 0), .func (.func 93) #[] (quoCap g 1), .func (.func 94) #[] (quoCap g 2), .func (.func 95) #[] (quoCap g 3)]
/-- icmp.Quote: its boxes, when the tests before k are done. -/
structure QuSt (w : World) (A : Option Addr) (n cap : Nat) (xs : List Int) (T : TypeId) (k : Nat) (W : World) : Prop where
  below : Below w.heap.size w W
  size : w.heap.size + 4 ≤ W.heap.size
  b : Blk W w.heap.size 26 #[.slice A n cap]
  r : Blk W (w.heap.size + 1) 39 keyZ
  s : ∃ s, Blk W (w.heap.size + 2) 3 #[s] ∧ (2 ≤ k → s = .int .i64 (ipSize xs))
  f : Blk W (w.heap.size + 3) T (quoArr w.heap.size)
section
variable {w W W' : World} {A : Option Addr} {n cap : Nat} {xs : List Int} {k : Nat} {T : TypeId}
theorem QuSt.grow (h : QuSt w A n cap xs T k W) (hb : Below W.heap.size W W') : QuSt w A n cap xs T k W' := by
  have hz := h.size
  obtain ⟨s, s1, s2⟩ := h.s
  exact ⟨h.below.trans (hb.mono (by omega)), Nat.le_trans hz hb.size, h.b.below hb h.b.lt, h.r.below hb h.r.lt, ⟨s, s1.below hb s1.lt, s2⟩, h.f.below hb h.f.lt⟩
theorem QuSt.next (h : QuSt w A n cap xs T k W) (hk : k ≠ 1) : QuSt w A n cap xs T (k + 1) W :=
  ⟨h.below, h.size, h.b, h.r, by
    obtain ⟨s, s1, s2⟩ := h.s
    exact ⟨s, s1, fun hk2 => s2 (by omega)⟩, h.f⟩
theorem QuSt.setS (h : QuSt w A n cap xs T 1 W) (hs : Blk W' (w.heap.size + 2) 3 #[.int .i64 (ipSize xs)]) (hg : W.grownBy W' (some (w.heap.size + 2))) : QuSt w A n cap xs T 2 W' := by
  have hz := h.size
  exact ⟨h.below.grown hg (by omega) (fun g e => by injection e with e; omega), Nat.le_trans hz hg.size, h.b.grown hg (by simp), h.r.grown hg (by simp), ⟨_, hs, fun _ => rfl⟩, h.f.grown hg (by simp)⟩
end
/-- Test number k. -/
theorem quoTest_any (A : Option Addr) (cap n k : Nat) (xs : List Int) (T : TypeId) (w W : World) (hk : k < 4) (hn : xs.length = n) (hl : n ≤ 1000000) (hcap : n ≤ cap) (hB : Byt xs) (hr : Rd w w.heap.size A .u8 xs) (hS : QuSt w A n cap xs T k W) (hT : ∀ j, j < k → quoT xs j = false) :
    Calls Tryz.prog (quoFn k) (quoCap w.heap.size k) W fun e W' => e = .returned (.bool (quoT xs k)) ∧ QuSt w A n cap xs T (k + 1) W' := by
  have hz := hS.size
  have hr2 : Rd W W.heap.size A .u8 xs := (hr.below hS.below (Nat.le_refl _)).more (by omega)
  have e0 : 0 < k → 20 ≤ n := fun h => by have := hT 0 h; simp only [quoT, Bool.or_eq_false_iff, decide_eq_false_iff_not] at this; omega
  have e1 : 1 < k → 20 ≤ ipSize xs ∧ ipSize xs + 8 ≤ n := fun h => by have := hT 1 h; simp only [quoT, Bool.or_eq_false_iff, decide_eq_false_iff_not] at this; omega
  obtain ⟨s, s1, s2⟩ := hS.s
  rcases (show k = 0 ∨ k = 1 ∨ k = 2 ∨ k = 3 by omega) with rfl | rfl | rfl | rfl
  · exact (quote1_any A cap n xs W _ hn hB hS.b hr2).mono fun e W' ⟨he, hb⟩ => ⟨he, (hS.grow hb).next (by decide)⟩
  · exact (quote2_any A cap n xs W _ _ hn (by have := e0 (by omega); omega) hl hB hS.b s s1 (by omega) hr2).mono fun e W' ⟨he, hb, hg⟩ => ⟨he, hS.setS hb hg⟩
  · obtain rfl := s2 (by omega)
    exact (quote3_any A cap n xs W _ _ _ hn hl hcap hB hS.b rfl s1 (e1 (by omega)).1 (e1 (by omega)).2 hr2).mono fun e W' ⟨he, hb⟩ => ⟨he, (hS.grow hb).next (by decide)⟩
  · exact (quote4_any A cap n xs W _ hn (by have := e0 (by omega); omega) hcap hB hS.b hr2).mono fun e W' ⟨he, hb⟩ => ⟨he, (hS.grow hb).next (by decide)⟩
set_option maxRecDepth 100000 in
theorem callFunc_quo (k : Nat) (args : Array Value) (W : World) : (callFunc (quoFn k) args).run Tryz.prog W = .ok (.enter (quoFn k) args) W := by
  unfold quoFn
  split <;> rfl
def QuRel (w : World) (A : Option Addr) (n cap : Nat) (xs : List Int) (T : TypeId) (i : Value) (W : World) : Prop := ∃ k : Nat, k ≤ 4 ∧ i = .int .i64 k ∧ (∀ j, j < k → quoT xs j = false) ∧ QuSt w A n cap xs T k W
theorem quoArr_at {W : World} {g g2 : Nat} {T : TypeId} (h : Blk W g2 T (quoArr g)) (k : Nat) (hk : k < 4) : W.cell? ⟨g2, k, none⟩ = some (.func (.func (quoFn k)) #[] (quoCap g k)) := by
  rcases (show k = 0 ∨ k = 1 ∨ k = 2 ∨ k = 3 by omega) with rfl | rfl | rfl | rfl <;> exact h.cell _
end Go.Proofs.YtebeekjcepjcnaaGreatDoor
