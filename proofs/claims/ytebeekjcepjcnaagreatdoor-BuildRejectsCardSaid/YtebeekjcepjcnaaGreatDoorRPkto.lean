/-
  The method icmp of pkt's packet.
  Package pkt: reasons, strange, header.
-/
import Derived.Test.YtebeekjcepjcnaaGreatDoorRQuotc
namespace Go.Proofs.YtebeekjcepjcnaaGreatDoor
open Go.RowKit
def pkI (p s d ki ty co le a b : Int) : Nat → Facts
  | 0 => ⟨⟨p, s, d, 0, 0⟩, 0, 0, 0, 0, 0, 0, 0, 0, ⟨0, 0, 0, 0, 0⟩, 0⟩
  | 1 => ⟨⟨p, s, d, 0, 0⟩, ki, 0, 0, 0, 0, 0, 0, 0, ⟨0, 0, 0, 0, 0⟩, 0⟩
  | 2 => ⟨⟨p, s, d, 0, 0⟩, ki, 0, ty, 0, 0, 0, 0, 0, ⟨0, 0, 0, 0, 0⟩, 0⟩
  | 3 => ⟨⟨p, s, d, 0, 0⟩, ki, 0, ty, co, 0, 0, 0, 0, ⟨0, 0, 0, 0, 0⟩, 0⟩
  | 4 => ⟨⟨p, s, d, 0, 0⟩, ki, 0, ty, co, 0, 0, 0, le, ⟨0, 0, 0, 0, 0⟩, 0⟩
  | 5 => ⟨⟨p, s, d, a, 0⟩, ki, 0, ty, co, 0, 0, 0, le, ⟨0, 0, 0, 0, 0⟩, 0⟩
  | _ => ⟨⟨p, s, d, a, b⟩, ki, 0, ty, co, 0, 0, 0, le, ⟨0, 0, 0, 0, 0⟩, 0⟩
def quoQ (xs : List Int) : Key := if quoE xs = 0 then quoKey xs else ⟨0, 0, 0, 0, 0⟩
theorem quoOut_lit (xs : List Int) : quoOut xs = .tuple #[.agg #[.int .u8 (quoQ xs).proto, .int .u32 (quoQ xs).src, .int .u32 (quoQ xs).dst, .int .u16 (quoQ xs).sp, .int .u16 (quoQ xs).dp], .int .u8 (if quoE xs = 0 then quoKind xs else 0), .int .i64 (quoE xs)] := by
  unfold quoOut quoQ
  split <;> rfl
theorem Blk.there {W : World} {g : Nat} {t : TypeId} {cs : Array Value} (h : Blk W g t cs) (o n : Nat) (hn : o + n ≤ cs.size) : W.there g o n := fun j hj =>
  ⟨by rw [h.cell, Array.getElem?_eq_getElem (by omega)]; rfl, h.frozen _⟩
theorem SortsAt.under {w W : World} (h : SortsAt w) {C : Nat} (hb : Below C w W) (hg : 0 < C) : SortsAt W := fun k hk =>
  ⟨(hb.cell (by exact hg)).trans (h k hk).1, (hb.cell (by exact hg)).trans (h k hk).2.1, (hb.cell (by exact hg)).trans (h k hk).2.2⟩
set_option maxRecDepth 100000 in
set_option maxHeartbeats 8000000 in
theorem pktIcmp_any (p s d : Int) (A : Option Addr) (cap n : Nat) (xs : List Int) (g : Nat) (w : World) (hn : xs.length = n) (hcap : n ≤ cap) (hl : n ≤ 1000000) (hB : Byt xs) (hr : Rd w g A .u8 xs) (hb : Blk w g 91 (pkC (.slice A n cap) (baseK p s d))) (hs : SortsAt w) (hsg : 0 < g) :
    Calls Tryz.prog 28 #[.pointer (some ⟨g, 0, none⟩)] w fun e W' => e = .returned (.int .i64 (icmpE2 xs)) ∧ Below g w W' ∧ w.heap.size ≤ W'.heap.size ∧ (icmpE2 xs = 0 → Blk W' g 91 (pkC (.slice A n cap) (icmpF (baseK p s d) xs))) := by
  have HT := Lib.hid (icmpReadG_any A cap n xs w hn hcap hB (hr.more (Nat.le_of_lt hb.lt)) hs)
  have hb0 : w.cell? ⟨g, 0, none⟩ = some (.slice A n cap) := hb.cell 0
  have hgl := hb.lt
  by_cases hE : icmpE xs = 0
  case neg =>
    have HX : icmpE2 xs = icmpE xs := by unfold icmpE2; rw [if_pos hE]
    rw [if_neg hE] at HT
    rw [HX]
    have HE := Lib.hid hE
    clear HX hr hB hn hs
    generalize icmpE xs = E at *
    have he : (E != 0) = true := by simpa using hE
    unfold msgZ at HT
    clear hE
    go_enter Tryz.func28, Tryz.ntmps28
    go_wp2_with fail
    refine HT.out.mono ?_
    rintro e w1 ⟨rfl, l1⟩
    have hz1 := l1.size
    have hB1 := (l1.mono (Nat.le_of_lt hgl)).alloc (by omega) (.cells #[.int .u8 0, .int .u8 0, .int .u16 0, .int .u16 0] 98)
    go_wp2_with (first | ((with_reducible refine look_store ?_); refine wpList_store_new rfl _ _ _ rfl _ _ rfl rfl _ _ rfl (by kernel_rfl) (by simp) (by simp [Value.oneCell']) ?_) | fail)
    go_ret
    exact ⟨rfl, hB1, by simp; omega, fun h => absurd h HE.out⟩
  have h8 : 8 ≤ n := by
    rcases Nat.lt_or_ge n 8 with h | h
    · unfold icmpE at hE; rw [if_pos (by omega)] at hE; cases hE
    · exact h
  have hk2 : kind2 (xs.getD 0 0).toNat (xs.getD 1 0).toNat = 0 := by unfold icmpE at hE; rw [if_neg (by omega)] at hE; exact hE
  rw [if_pos hE, hE] at HT
  obtain ⟨b, off, rfl, hbl, hc⟩ := hr.at0 (by omega)
  obtain ⟨x0, x1⟩ := hB.at_ 0
  obtain ⟨y0, y1⟩ := hB.at_ 1
  have HK := Lib.hid (fun (W : World) (h : SortsAt W) => kindI_any (xs.getD 0 0) (xs.getD 1 0) W x0 x1 y0 h)
  rw [hk2] at HK
  have Hs := Lib.hid (fun (W : World) (h : Below g w W) => hs.under h hsg)
  have HQ := Lib.hid (fun (W : World) A' (h : Rd W W.heap.size A' .u8 (xs.drop 8)) (hs : SortsAt W) => icmpQuote_any A' (cap - 8) (n - 8) (xs.drop 8) W (by simp [hn]) (by omega) (by omega) (hB.drop 8) h hs)
  have HRd := Lib.hid (fun (W : World) (h : Below g w W) (hz : w.heap.size ≤ W.heap.size) => (((hr.drop 8 (A' := some ⟨b, off + 8, none⟩) fun _ b2 o2 h => by
    simp only [Option.some.injEq, Addr.mk.injEq] at h
    obtain ⟨rfl, rfl, _⟩ := h
    rfl).below h (Nat.le_refl _)).more (by omega) : Rd W W.heap.size (some ⟨b, off + 8, none⟩) .u8 (xs.drop 8)))
  have HRe : Hid (cap = 8 → ∀ W A', Rd W W.heap.size A' .u8 (xs.drop 8)) := Lib.hid fun hc W A' => by
    rw [List.drop_eq_nil_of_le (by omega)]; exact Rd.nil
  have HM := Lib.hid (show msgN xs = #[.int .u8 (xs.getD 0 0), .int .u8 (xs.getD 1 0), .int .u16 (w16At xs 4), .int .u16 (w16At xs 6)] from rfl)
  rw [HM.out] at HT
  have HF := Lib.hid (show icmpF (baseK p s d) xs = if icmpK xs ≠ 5 then ⟨⟨p, s, d, w16At xs 4, w16At xs 4⟩, icmpK xs, 0, xs.getD 0 0, xs.getD 1 0, 0, 0, 0, xs.length - 8, ⟨0, 0, 0, 0, 0⟩, 0⟩ else ⟨⟨p, s, d, 0, 0⟩, icmpK xs, 0, xs.getD 0 0, xs.getD 1 0, 0, 0, 0, xs.length - 8, quoKey (xs.drop 8), quoKind (xs.drop 8)⟩ from rfl)
  have HE2 := Lib.hid (show icmpE2 xs = if icmpK xs ≠ 5 then 0 else quoE (xs.drop 8) by unfold icmpE2; rw [if_neg (by simpa using hE)])
  have HKI := Lib.hid (show icmpK xs = kind1 (xs.getD 0 0).toNat (xs.getD 1 0).toNat from rfl)
  rw [← HKI.out] at HK
  have HN := Lib.hid hn
  have HQl := Lib.hid (quoOut_lit (xs.drop 8))
  have HQq := Lib.hid (show quoE (xs.drop 8) = 0 → quoQ (xs.drop 8) = quoKey (xs.drop 8) from fun h => if_pos h)
  rw [HQl.out] at HQ
  have HQk := Lib.hid (show quoE (xs.drop 8) = 0 → (if quoE (xs.drop 8) = 0 then quoKind (xs.drop 8) else 0) = quoKind (xs.drop 8) from fun h => if_pos h)
  clear hr hB hn hs hc hE hk2 HM HQl HKI
  generalize icmpE2 xs = E2 at *
  generalize icmpK xs = KK at *
  generalize (if quoE (xs.drop 8) = 0 then quoKind (xs.drop 8) else 0) = QK at *
  generalize quoE (xs.drop 8) = QE at *
  generalize quoQ (xs.drop 8) = QQ at *
  generalize w16At xs 4 = a4 at *
  generalize w16At xs 6 = a6 at *
  generalize xs.getD 0 0 = x at *
  generalize xs.getD 1 0 = y at *
  go_enter Tryz.func28, Tryz.ntmps28
  go_wp2_with fail
  refine HT.out.mono ?_
  rintro e w1 ⟨rfl, l1⟩
  have b1 := hb.below l1 hgl
  have hz1 := l1.size
  clear hb0
  go_upto_region 2 with (first | ((with_reducible refine look_store ?_); refine wpList_store_new rfl _ _ _ rfl _ _ rfl rfl _ _ rfl (by kernel_rfl) (by simp) (by simp [Value.oneCell']) ?_) | fail)
  refine wp_name1 ?_
  intro w2 hb2 hs2 bh
  have b2' := b1.below hb2 (by omega)
  have hk6 : w2.cell? ⟨g, 6, none⟩ = some (.int .u8 0) := b2'.cell 6
  have hf6 := b2'.frozen 6
  have hh0 := bh.cell 0
  have hh1 := bh.cell 1
  have hbx2 := (l1.mono (Nat.le_of_lt hgl)).trans (hb2.mono (by omega : g ≤ w1.heap.size))
  have HS2 := Lib.hid (Hs.out _ hbx2)
  go_wp2_with fail
  refine (HK.out _ HS2.out).mono ?_
  rintro e w3 ⟨rfl, rfl⟩
  go_wp2_with fail
  have hS0 : St w g [(w1.heap.size, 98, #[.int .u8 x, .int .u8 y, .int .u16 a4, .int .u16 a6])] w2 := (St.nil hbx2 (by omega)).cons bh
  have hS1 := hS0.setFar (p := ⟨g, 6, none⟩) (Nat.le_refl _) (by simp; omega) (.int .u8 KK)
  have hB1 : Blk (w2.setCell ⟨g, 6, none⟩ (.int .u8 KK)) g 91 (pkC (.slice (some ⟨b, off, none⟩) n cap) (pkI p s d KK x y (n - 8) a4 a4 1)) := b2'.set 6 _
  have hS : StN w g [(w1.heap.size, 98, #[.int .u8 x, .int .u8 y, .int .u16 a4, .int .u16 a6])] g 91 (fun c => pkC (.slice (some ⟨b, off, none⟩) n cap) (pkI p s d KK x y (n - 8) a4 a4 (c + 1))) 0 _ := ⟨hS1, Nat.le_refl _, by simp; omega, hB1⟩
  clear hS0 hS1 hB1 bh b1 hb2 b2' hk6 hf6 hbx2 hh0 hh1
  refine wp_region_walk0 (by kernel_rfl) (StN w g _ g 91 (fun c => pkC (.slice (some ⟨b, off, none⟩) n cap) (pkI p s d KK x y (n - 8) a4 a4 (c + 1)))) [15, 18, 21] GTop [0, 1, 2, 3, 4, 5, 6, 7, 8, 9, 10, 11, 12, 13, 14, 15, 16, 17, 18, 19, 20, 21] (by kernel_rfl) hS.drew ?_
  iterate 15
    apply Walk.one rfl rfl rfl
    case hrun =>
      intro c W hE hF
      have hsl := (hE.2.2.2.cell 0).trans (pkC_0 _ _)
      have hh := hE.1.get 0 rfl
      have hc0 := hh.cell 0
      have hc1 := hh.cell 1
      go_wp2_with fail
      exact TextPost.mk ⟨GTop.mk, hE⟩
    case hv => rfl
  apply Walk.keep 0 rfl rfl rfl rfl
  case hrun =>
    intro W hE hF
    have hcx : W.cell? ⟨g, 8, none⟩ = some (.int .u8 0) := hE.2.2.2.cell 8
    have hfx := hE.2.2.2.frozen 8
    go_wp2_with fail
    exact TextPost.mk ⟨GTop.mk, hE.set 8 _ rfl⟩
  case hv => rfl
  iterate 2
    apply Walk.one rfl rfl rfl
    case hrun =>
      intro c W hE hF
      have hsl := (hE.2.2.2.cell 0).trans (pkC_0 _ _)
      go_wp2_with fail
      exact TextPost.mk ⟨GTop.mk, hE⟩
    case hv => rfl
  apply Walk.keep 1 rfl rfl rfl rfl
  case hrun =>
    intro W hE hF
    have hcx : W.cell? ⟨g, 9, none⟩ = some (.int .u8 0) := hE.2.2.2.cell 9
    have hfx := hE.2.2.2.frozen 9
    go_wp2_with fail
    exact TextPost.mk ⟨GTop.mk, hE.set 9 _ rfl⟩
  case hv => rfl
  iterate 2
    apply Walk.one rfl rfl rfl
    case hrun =>
      intro c W hE hF
      have hsl := (hE.2.2.2.cell 0).trans (pkC_0 _ _)
      go_wp2_with fail
      exact TextPost.mk ⟨GTop.mk, hE⟩
    case hv => rfl
  apply Walk.keep 2 rfl rfl rfl rfl
  case hrun =>
    intro W hE hF
    have hcx : W.cell? ⟨g, 13, none⟩ = some (.int .i64 0) := hE.2.2.2.cell 13
    have hfx := hE.2.2.2.frozen 13
    go_wp2_with fail
    exact TextPost.mk ⟨GTop.mk, hE.set 13 _ rfl⟩
  case hv => rfl
  refine Walk.done (fun W hE hF => ?_)
  have hS4 : StN w g [(w1.heap.size, 98, #[.int .u8 x, .int .u8 y, .int .u16 a4, .int .u16 a6])] g 91 (fun c => pkC (.slice (some ⟨b, off, none⟩) n cap) (pkI p s d KK x y (n - 8) a4 a4 (c + 4))) 0 W := hE
  have hk6 : W.cell? ⟨g, 6, none⟩ = some (.int .u8 KK) := hS4.2.2.2.cell 6
  have hhl := (hS4.1.get 0 rfl).lt
  clear hE hF hS
  by_cases h5 : KK = 5
  case neg =>
    have e5 : (KK != 5) = true := by simpa using h5
    have HX := Lib.hid (HE2.out.trans (if_pos h5))
    have HX2 := Lib.hid (HF.out.trans (if_pos h5))
    clear h5
    go_wp2_with fail
    clear hk6
    refine wp_region_walk0 (by kernel_rfl) (StN w g _ g 91 (fun c => pkC (.slice (some ⟨b, off, none⟩) n cap) (pkI p s d KK x y (n - 8) a4 a4 (c + 4)))) [9, 13] GTop [0, 1, 2, 3, 4, 5, 6, 7, 8, 9, 10, 11, 12, 13] (by kernel_rfl) hS4.drew ?_
    iterate 9
      apply Walk.one rfl rfl rfl
      case hrun =>
        intro c W hE hF
        have hsl := (hE.2.2.2.cell 0).trans (pkC_0 _ _)
        have hh := hE.1.get 0 rfl
        have hc2 := hh.cell 2
        go_wp2_with fail
        exact TextPost.mk ⟨GTop.mk, hE⟩
      case hv => rfl
    apply Walk.keep 0 rfl rfl rfl rfl
    case hrun =>
      intro W hE hF
      have hcx : W.cell? ⟨g, 4, none⟩ = some (.int .u16 0) := hE.2.2.2.cell 4
      have hfx := hE.2.2.2.frozen 4
      go_wp2_with fail
      exact TextPost.mk ⟨GTop.mk, hE.set 4 _ rfl⟩
    case hv => rfl
    iterate 3
      apply Walk.one rfl rfl rfl
      case hrun =>
        intro c W hE hF
        have hsl := (hE.2.2.2.cell 0).trans (pkC_0 _ _)
        go_wp2_with fail
        exact TextPost.mk ⟨GTop.mk, hE⟩
      case hv => rfl
    apply Walk.keep 1 rfl rfl rfl rfl
    case hrun =>
      intro W hE hF
      have hcx : W.cell? ⟨g, 5, none⟩ = some (.int .u16 0) := hE.2.2.2.cell 5
      have hfx := hE.2.2.2.frozen 5
      go_wp2_with fail
      exact TextPost.mk ⟨GTop.mk, hE.set 5 _ rfl⟩
    case hv => rfl
    refine Walk.done (fun W hE hF => ?_)
    have hbW := hE.1.1
    have hbR := hE.2.2.2
    have hhl := (hE.1.get 0 rfl).lt
    clear hE hF hS4
    go_wp2_with fail
    go_ret
    refine ⟨by rw [HX.out]; rfl, hbW, by omega, fun h => ?_⟩
    rw [HX2.out, HN.out]
    exact hbR
  subst h5
  have HX := Lib.hid (HE2.out.trans (if_neg (by simp)))
  have HX2 := Lib.hid (HF.out.trans (if_neg (by simp)))
  have hB4 := hS4.2.2.2
  have hbW := hS4.1.1
  have hd0 : W.cell? ⟨g, 0, none⟩ = some (.slice (some ⟨b, off, none⟩) n cap) := hB4.cell 0
  have HS4 := Lib.hid (Hs.out _ hbW)
  have i8 : (8 : Int) ≤ n := by omega
  have icap : (n : Int) ≤ cap := by omega
  have HRd4 := Lib.hid (HRd.out W hbW (by omega))
  have hzW : w.heap.size ≤ W.heap.size := by omega
  have HB4 := Lib.hid hB4
  have HbW := Lib.hid hbW
  clear hS4 hB4 hbW
  by_cases hc8 : cap = 8
  · obtain rfl : n = 8 := by omega
    subst hc8
    rw [show 8 - 8 = 0 from rfl] at HQ
    go_wp2_with fail
    refine (HQ.out _ _ (HRe.out (by simp) _ _) HS4.out).mono ?_
    rintro e w5 ⟨rfl, l5⟩
    have hB5 := HB4.out.below l5 HB4.out.lt
    have hb5 := Lib.hid (HbW.out.trans (l5.mono (by omega)))
    have hz5 := l5.size
    have hth := hB5.there 14 5 (by show 14 + 5 ≤ 20; decide)
    go_wp2_with (first | ((with_reducible refine look_store ?_); refine Hid.out ?_) | fail)
    refine Lib.hid ?_
    refine wpList_store_mid rfl _ _ _ rfl g 14 #[.int .u8 QQ.proto, .int .u32 QQ.src, .int .u32 QQ.dst, .int .u16 QQ.sp, .int .u16 QQ.dp] rfl rfl hth (by kernel_rfl) (by simp [Value.oneCell']) ?_
    have hB6 : Blk (w5.setCells g 14 #[.int .u8 QQ.proto, .int .u32 QQ.src, .int .u32 QQ.dst, .int .u16 QQ.sp, .int .u16 QQ.dp].toList) g 91 (pkC (.slice (some ⟨b, off, none⟩) 8 8) ⟨⟨p, s, d, 0, 0⟩, 5, 0, x, y, 0, 0, 0, (8 : Nat) - 8, QQ, 0⟩) := ((((hB5.set 14 _).set 15 _).set 16 _).set 17 _).set 18 _
    have hb6 : Below g w (w5.setCells g 14 #[.int .u8 QQ.proto, .int .u32 QQ.src, .int .u32 QQ.dst, .int .u16 QQ.sp, .int .u16 QQ.dp].toList) := ((((hb5.out.setCell (p := ⟨g, 14, none⟩) (Nat.le_refl _) _).setCell (p := ⟨g, 15, none⟩) (Nat.le_refl _) _).setCell (p := ⟨g, 16, none⟩) (Nat.le_refl _) _).setCell (p := ⟨g, 17, none⟩) (Nat.le_refl _) _).setCell (p := ⟨g, 18, none⟩) (Nat.le_refl _) _
    have hz6 : (w5.setCells g 14 #[.int .u8 QQ.proto, .int .u32 QQ.src, .int .u32 QQ.dst, .int .u16 QQ.sp, .int .u16 QQ.dp].toList).heap.size = w5.heap.size := by simp [World.setCells]
    generalize w5.setCells g 14 _ = w6 at *
    have hc19 : w6.cell? ⟨g, 19, none⟩ = some (.int .u8 0) := hB6.cell 19
    have hf19 := hB6.frozen 19
    have HB6 := Lib.hid hB6
    have Hz6 := Lib.hid hz6
    clear hB6 hz6 hth hB5
    go_wp2_with fail
    go_ret
    refine ⟨by rw [HX.out]; rfl, hb6.setCell (p := ⟨g, 19, none⟩) (Nat.le_refl _) _, by have := Hz6.out; simp; omega, fun h => ?_⟩
    rw [HX.out] at h
    rw [HX2.out, HN.out, ← HQq.out h, ← HQk.out h]
    exact HB6.out.set 19 _
  · go_wp2_with fail
    refine (HQ.out _ _ HRd4.out HS4.out).mono ?_
    rintro e w5 ⟨rfl, l5⟩
    have hB5 := HB4.out.below l5 HB4.out.lt
    have hb5 := Lib.hid (HbW.out.trans (l5.mono (by omega)))
    have hz5 := l5.size
    have hth := hB5.there 14 5 (by show 14 + 5 ≤ 20; decide)
    go_wp2_with (first | ((with_reducible refine look_store ?_); refine Hid.out ?_) | fail)
    refine Lib.hid ?_
    refine wpList_store_mid rfl _ _ _ rfl g 14 #[.int .u8 QQ.proto, .int .u32 QQ.src, .int .u32 QQ.dst, .int .u16 QQ.sp, .int .u16 QQ.dp] rfl rfl hth (by kernel_rfl) (by simp [Value.oneCell']) ?_
    have hB6 : Blk (w5.setCells g 14 #[.int .u8 QQ.proto, .int .u32 QQ.src, .int .u32 QQ.dst, .int .u16 QQ.sp, .int .u16 QQ.dp].toList) g 91 (pkC (.slice (some ⟨b, off, none⟩) n cap) ⟨⟨p, s, d, 0, 0⟩, 5, 0, x, y, 0, 0, 0, (n : Nat) - 8, QQ, 0⟩) := ((((hB5.set 14 _).set 15 _).set 16 _).set 17 _).set 18 _
    have hb6 : Below g w (w5.setCells g 14 #[.int .u8 QQ.proto, .int .u32 QQ.src, .int .u32 QQ.dst, .int .u16 QQ.sp, .int .u16 QQ.dp].toList) := ((((hb5.out.setCell (p := ⟨g, 14, none⟩) (Nat.le_refl _) _).setCell (p := ⟨g, 15, none⟩) (Nat.le_refl _) _).setCell (p := ⟨g, 16, none⟩) (Nat.le_refl _) _).setCell (p := ⟨g, 17, none⟩) (Nat.le_refl _) _).setCell (p := ⟨g, 18, none⟩) (Nat.le_refl _) _
    have hz6 : (w5.setCells g 14 #[.int .u8 QQ.proto, .int .u32 QQ.src, .int .u32 QQ.dst, .int .u16 QQ.sp, .int .u16 QQ.dp].toList).heap.size = w5.heap.size := by simp [World.setCells]
    generalize w5.setCells g 14 _ = w6 at *
    have hc19 : w6.cell? ⟨g, 19, none⟩ = some (.int .u8 0) := hB6.cell 19
    have hf19 := hB6.frozen 19
    have HB6 := Lib.hid hB6
    have Hz6 := Lib.hid hz6
    clear hB6 hz6 hth hB5
    go_wp2_with fail
    go_ret
    refine ⟨by rw [HX.out]; rfl, hb6.setCell (p := ⟨g, 19, none⟩) (Nat.le_refl _) _, by have := Hz6.out; simp; omega, fun h => ?_⟩
    rw [HX.out] at h
    rw [HX2.out, HN.out, ← HQq.out h, ← HQk.out h]
    exact HB6.out.set 19 _
end Go.Proofs.YtebeekjcepjcnaaGreatDoor
namespace Go.Proofs.YtebeekjcepjcnaaGreatDoor
open Go.RowKit
theorem optsY_short : ∀ (n : Nat) (b : List Int), (optsY n b).length ≤ n
  | 0, _ => Nat.le_refl _
  | n + 1, b => by
    have h1 := optsY_short n (b.drop 1)
    have h2 := optsY_short n (b.drop (b.getD 1 0).toNat)
    unfold optsY
    repeat' split
    all_goals first | (simp only [List.length_cons, List.length_nil]; omega) | (simp only [List.length_cons]; omega)
theorem optsR_len : ∀ (l : List (Int × Int)) (acc : List Int), (optsR l acc).1.length ≤ acc.length + l.length
  | [], acc => Nat.le_refl _
  | (k, e) :: l, acc => by
    have h1 := optsR_len l (acc ++ [k])
    unfold optsR
    repeat' split
    all_goals simp only [List.length_nil, List.length_cons, List.length_append] at *
    all_goals omega
theorem optRead_len (b : List Int) : (optRead b).1.length ≤ 40 := by
  unfold optRead
  split
  · simp
  · have h1 := optsR_len (optsY b.length b) []
    have h2 := optsY_short b.length b
    simp only [List.length_nil] at h1
    omega
def reasonsL : List (Int × Int) := [(50, 1), (51, 2), (52, 3), (53, 4), (54, 5), (55, 6), (56, 7), (80, 14), (81, 14), (90, 14), (91, 14), (100, 14), (82, 15), (83, 16), (92, 16), (101, 17), (102, 17), (103, 18), (104, 19)]
def reasonsE (k : Nat) : Array MapEntry := ((reasonsL.take k).zipIdx.map fun x => ⟨.int .i64 x.1.1, .int .u8 x.1.2, x.2⟩).toArray
def ReasonsM (W : World) (m : Nat) : Prop := W.heap[m]? = some (.map (reasonsE 19) 19)
set_option maxRecDepth 100000 in
set_option maxHeartbeats 2000000 in
theorem reasons_any (w : World) : Calls Tryz.prog 24 #[] w fun e w' => ∃ m, e = .returned (.map (some m)) ∧ w.heap.size ≤ m ∧ ReasonsM w' m ∧ Below w.heap.size w w' := by
  have hmm := run_makeMap (P := Tryz.prog) 82 w
  rw [show (#[] : Array MapEntry) = reasonsE 0 from rfl] at hmm
  have i0 := run_insert_int (P := Tryz.prog) Tryz.underlying82 Tryz.underlying46 w (reasonsE 0) 0 50 (.int .u8 1) (by rfl)
  rw [show (reasonsE 0).push ⟨.int .i64 50, .int .u8 1, 0⟩ = reasonsE 1 from rfl] at i0
  have i1 := run_insert_int (P := Tryz.prog) Tryz.underlying82 Tryz.underlying46 w (reasonsE 1) 1 51 (.int .u8 2) (by rfl)
  rw [show (reasonsE 1).push ⟨.int .i64 51, .int .u8 2, 1⟩ = reasonsE 2 from rfl] at i1
  have i2 := run_insert_int (P := Tryz.prog) Tryz.underlying82 Tryz.underlying46 w (reasonsE 2) 2 52 (.int .u8 3) (by rfl)
  rw [show (reasonsE 2).push ⟨.int .i64 52, .int .u8 3, 2⟩ = reasonsE 3 from rfl] at i2
  have i3 := run_insert_int (P := Tryz.prog) Tryz.underlying82 Tryz.underlying46 w (reasonsE 3) 3 53 (.int .u8 4) (by rfl)
  rw [show (reasonsE 3).push ⟨.int .i64 53, .int .u8 4, 3⟩ = reasonsE 4 from rfl] at i3
  have i4 := run_insert_int (P := Tryz.prog) Tryz.underlying82 Tryz.underlying46 w (reasonsE 4) 4 54 (.int .u8 5) (by rfl)
  rw [show (reasonsE 4).push ⟨.int .i64 54, .int .u8 5, 4⟩ = reasonsE 5 from rfl] at i4
  have i5 := run_insert_int (P := Tryz.prog) Tryz.underlying82 Tryz.underlying46 w (reasonsE 5) 5 55 (.int .u8 6) (by rfl)
  rw [show (reasonsE 5).push ⟨.int .i64 55, .int .u8 6, 5⟩ = reasonsE 6 from rfl] at i5
  have i6 := run_insert_int (P := Tryz.prog) Tryz.underlying82 Tryz.underlying46 w (reasonsE 6) 6 56 (.int .u8 7) (by rfl)
  rw [show (reasonsE 6).push ⟨.int .i64 56, .int .u8 7, 6⟩ = reasonsE 7 from rfl] at i6
  have i7 := run_insert_int (P := Tryz.prog) Tryz.underlying82 Tryz.underlying46 w (reasonsE 7) 7 80 (.int .u8 14) (by rfl)
  rw [show (reasonsE 7).push ⟨.int .i64 80, .int .u8 14, 7⟩ = reasonsE 8 from rfl] at i7
  have i8 := run_insert_int (P := Tryz.prog) Tryz.underlying82 Tryz.underlying46 w (reasonsE 8) 8 81 (.int .u8 14) (by rfl)
  rw [show (reasonsE 8).push ⟨.int .i64 81, .int .u8 14, 8⟩ = reasonsE 9 from rfl] at i8
  have i9 := run_insert_int (P := Tryz.prog) Tryz.underlying82 Tryz.underlying46 w (reasonsE 9) 9 90 (.int .u8 14) (by rfl)
  rw [show (reasonsE 9).push ⟨.int .i64 90, .int .u8 14, 9⟩ = reasonsE 10 from rfl] at i9
  have i10 := run_insert_int (P := Tryz.prog) Tryz.underlying82 Tryz.underlying46 w (reasonsE 10) 10 91 (.int .u8 14) (by rfl)
  rw [show (reasonsE 10).push ⟨.int .i64 91, .int .u8 14, 10⟩ = reasonsE 11 from rfl] at i10
  have i11 := run_insert_int (P := Tryz.prog) Tryz.underlying82 Tryz.underlying46 w (reasonsE 11) 11 100 (.int .u8 14) (by rfl)
  rw [show (reasonsE 11).push ⟨.int .i64 100, .int .u8 14, 11⟩ = reasonsE 12 from rfl] at i11
  have i12 := run_insert_int (P := Tryz.prog) Tryz.underlying82 Tryz.underlying46 w (reasonsE 12) 12 82 (.int .u8 15) (by rfl)
  rw [show (reasonsE 12).push ⟨.int .i64 82, .int .u8 15, 12⟩ = reasonsE 13 from rfl] at i12
  have i13 := run_insert_int (P := Tryz.prog) Tryz.underlying82 Tryz.underlying46 w (reasonsE 13) 13 83 (.int .u8 16) (by rfl)
  rw [show (reasonsE 13).push ⟨.int .i64 83, .int .u8 16, 13⟩ = reasonsE 14 from rfl] at i13
  have i14 := run_insert_int (P := Tryz.prog) Tryz.underlying82 Tryz.underlying46 w (reasonsE 14) 14 92 (.int .u8 16) (by rfl)
  rw [show (reasonsE 14).push ⟨.int .i64 92, .int .u8 16, 14⟩ = reasonsE 15 from rfl] at i14
  have i15 := run_insert_int (P := Tryz.prog) Tryz.underlying82 Tryz.underlying46 w (reasonsE 15) 15 101 (.int .u8 17) (by rfl)
  rw [show (reasonsE 15).push ⟨.int .i64 101, .int .u8 17, 15⟩ = reasonsE 16 from rfl] at i15
  have i16 := run_insert_int (P := Tryz.prog) Tryz.underlying82 Tryz.underlying46 w (reasonsE 16) 16 102 (.int .u8 17) (by rfl)
  rw [show (reasonsE 16).push ⟨.int .i64 102, .int .u8 17, 16⟩ = reasonsE 17 from rfl] at i16
  have i17 := run_insert_int (P := Tryz.prog) Tryz.underlying82 Tryz.underlying46 w (reasonsE 17) 17 103 (.int .u8 18) (by rfl)
  rw [show (reasonsE 17).push ⟨.int .i64 103, .int .u8 18, 17⟩ = reasonsE 18 from rfl] at i17
  have i18 := run_insert_int (P := Tryz.prog) Tryz.underlying82 Tryz.underlying46 w (reasonsE 18) 18 104 (.int .u8 19) (by rfl)
  rw [show (reasonsE 18).push ⟨.int .i64 104, .int .u8 19, 18⟩ = reasonsE 19 from rfl] at i18
  have Hs := Lib.hid (show ReasonsM (w.alloc (.map (reasonsE 19) 19)) w.heap.size from heap_alloc_new w _)
  generalize reasonsE 0 = e0 at *
  generalize reasonsE 1 = e1 at *
  generalize reasonsE 2 = e2 at *
  generalize reasonsE 3 = e3 at *
  generalize reasonsE 4 = e4 at *
  generalize reasonsE 5 = e5 at *
  generalize reasonsE 6 = e6 at *
  generalize reasonsE 7 = e7 at *
  generalize reasonsE 8 = e8 at *
  generalize reasonsE 9 = e9 at *
  generalize reasonsE 10 = e10 at *
  generalize reasonsE 11 = e11 at *
  generalize reasonsE 12 = e12 at *
  generalize reasonsE 13 = e13 at *
  generalize reasonsE 14 = e14 at *
  generalize reasonsE 15 = e15 at *
  generalize reasonsE 16 = e16 at *
  generalize reasonsE 17 = e17 at *
  generalize reasonsE 18 = e18 at *
  generalize reasonsE 19 = e19 at *
  go_enter Tryz.func24, Tryz.ntmps24
  go_wp2_with fail
  go_ret
  exact ⟨_, rfl, Nat.le_refl _, Hs.out, (Below.refl _ _).alloc (Nat.le_refl _) _⟩
theorem lookup_reasons (W : World) (m : Nat) (h : ReasonsM W m) (e : Int) (he : (50 ≤ e ∧ e ≤ 56) ∨ (80 ≤ e ∧ e ≤ 83) ∨ (90 ≤ e ∧ e ≤ 92) ∨ (100 ≤ e ∧ e ≤ 104)) :
    (Instr.lookup 82 (.map (some m)) (.int .i64 e) false).run Tryz.prog W = .ok (.int .u8 (reasonOf e)) W := by
  rcases (show e = 50 ∨ e = 51 ∨ e = 52 ∨ e = 53 ∨ e = 54 ∨ e = 55 ∨ e = 56 ∨ e = 80 ∨ e = 81 ∨ e = 90 ∨ e = 91 ∨ e = 100 ∨ e = 82 ∨ e = 83 ∨ e = 92 ∨ e = 101 ∨ e = 102 ∨ e = 103 ∨ e = 104 by omega) with rfl | rfl | rfl | rfl | rfl | rfl | rfl | rfl | rfl | rfl | rfl | rfl | rfl | rfl | rfl | rfl | rfl | rfl | rfl
  · exact run_lookup_int Tryz.underlying82 Tryz.underlying46 W m _ _ 50 0 _ false h rfl
  · exact run_lookup_int Tryz.underlying82 Tryz.underlying46 W m _ _ 51 1 _ false h rfl
  · exact run_lookup_int Tryz.underlying82 Tryz.underlying46 W m _ _ 52 2 _ false h rfl
  · exact run_lookup_int Tryz.underlying82 Tryz.underlying46 W m _ _ 53 3 _ false h rfl
  · exact run_lookup_int Tryz.underlying82 Tryz.underlying46 W m _ _ 54 4 _ false h rfl
  · exact run_lookup_int Tryz.underlying82 Tryz.underlying46 W m _ _ 55 5 _ false h rfl
  · exact run_lookup_int Tryz.underlying82 Tryz.underlying46 W m _ _ 56 6 _ false h rfl
  · exact run_lookup_int Tryz.underlying82 Tryz.underlying46 W m _ _ 80 7 _ false h rfl
  · exact run_lookup_int Tryz.underlying82 Tryz.underlying46 W m _ _ 81 8 _ false h rfl
  · exact run_lookup_int Tryz.underlying82 Tryz.underlying46 W m _ _ 90 9 _ false h rfl
  · exact run_lookup_int Tryz.underlying82 Tryz.underlying46 W m _ _ 91 10 _ false h rfl
  · exact run_lookup_int Tryz.underlying82 Tryz.underlying46 W m _ _ 100 11 _ false h rfl
  · exact run_lookup_int Tryz.underlying82 Tryz.underlying46 W m _ _ 82 12 _ false h rfl
  · exact run_lookup_int Tryz.underlying82 Tryz.underlying46 W m _ _ 83 13 _ false h rfl
  · exact run_lookup_int Tryz.underlying82 Tryz.underlying46 W m _ _ 92 14 _ false h rfl
  · exact run_lookup_int Tryz.underlying82 Tryz.underlying46 W m _ _ 101 15 _ false h rfl
  · exact run_lookup_int Tryz.underlying82 Tryz.underlying46 W m _ _ 102 16 _ false h rfl
  · exact run_lookup_int Tryz.underlying82 Tryz.underlying46 W m _ _ 103 17 _ false h rfl
  · exact run_lookup_int Tryz.underlying82 Tryz.underlying46 W m _ _ 104 18 _ false h rfl
set_option maxHeartbeats 400000 in
theorem strange_any (a : Int) (w : World) : Calls Tryz.prog 63 #[.int .u32 a] w fun e w' => e = .returned (.bool (strangeB a)) ∧ w = w' := by
  unfold strangeB
  cases h0 : a == 0 <;> cases h1 : decide (3758096384 ≤ a)
  all_goals
    go_enter Tryz.func63, Tryz.ntmps63
    go_wp2
    go_ret
    exact ⟨rfl, rfl⟩
def IpH.cells (h : IpH) (v : Value) : Array Value := #[.int .u8 h.tos, .int .u16 h.id, .bool h.df, .bool h.mf, .int .i64 h.off, .int .u8 h.ttl, .int .u8 h.proto, .int .u32 h.src, .int .u32 h.dst, v]
set_option maxRecDepth 100000 in
set_option maxHeartbeats 4000000 in
theorem pktHeader_any (h : IpH) (A : Option Addr) (cap n : Nat) (w : World) (hn : h.opts.length = n) (hcap : n ≤ cap) (hl : n ≤ 40) (hB : Byt h.opts) (hr : Rd w w.heap.size A .u8 h.opts) :
    Calls Tryz.prog 25 #[.agg (h.cells (.slice A n cap))] w fun e w' => e = .returned (.int .u8 h.reason) ∧ Below w.heap.size w w' := by
  have HO := Lib.hid (fun (W : World) (hb : Below w.heap.size w W) => optsRead_any A cap n h.opts W hn hcap hl hB (hr.belows hb (Nat.le_refl _)))
  have HRt := Lib.hid (fun (W : World) A' c' (ho : OptsAt W W.heap.size A' (optRead h.opts).1) => routed_any A' c' (optRead h.opts).1.length (optRead h.opts).1 W rfl (by have := optRead_len h.opts; omega) ho)
  have HR := Lib.hid (show h.reason = if h.off ≠ 0 ∨ h.mf = true then 8 else if (optRead h.opts).2 ≠ 0 then 9 else if routedB (optRead h.opts).1 then 10 else if h.ttl = 0 then 11 else if strangeB h.src || strangeB h.dst || h.src == h.dst then 12 else 0 from rfl)
  have HS := Lib.hid (fun a W => strange_any a W)
  obtain ⟨tos, id, df, mf, off, ttl, proto, src, dst, os⟩ := h
  simp only [IpH.cells] at *
  clear hr hB hn
  generalize IpH.reason _ = R at *
  generalize (optRead os).2 = E at *
  generalize hks : (optRead os).1 = ks at *
  have HL := Lib.hid (show ks.length ≤ 40 by rw [← hks]; exact optRead_len os)
  clear hks
  by_cases q0 : off = 0
  case neg =>
    have b0 : (off != 0) = true := by simpa using q0
    have HX := Lib.hid (HR.out.trans (if_pos (.inl q0)))
    clear q0
    go_enter Tryz.func25, Tryz.ntmps25
    go_wp2_with fail
    go_ret
    exact ⟨by rw [HX.out]; rfl, (Below.refl _ _).alloc (Nat.le_refl _) _⟩
  have b0 : (off != 0) = false := by simpa using q0
  cases mf
  case true =>
    have HX := Lib.hid (HR.out.trans (if_pos (.inr rfl)))
    clear q0
    go_enter Tryz.func25, Tryz.ntmps25
    go_wp2_with fail
    go_ret
    exact ⟨by rw [HX.out]; rfl, (Below.refl _ _).alloc (Nat.le_refl _) _⟩
  have HX := Lib.hid (HR.out.trans (if_neg (by simpa using q0)))
  clear q0
  go_enter Tryz.func25, Tryz.ntmps25
  go_wp2_with fail
  have hA := (Below.refl w.heap.size w).alloc (Nat.le_refl _) (.cells #[.int .u8 tos, .int .u16 id, .bool df, .bool false, .int .i64 off, .int .u8 ttl, .int .u8 proto, .int .u32 src, .int .u32 dst, .slice A n cap] 37)
  have bA := Blk.new w 37 #[.int .u8 tos, .int .u16 id, .bool df, .bool false, .int .i64 off, .int .u8 ttl, .int .u8 proto, .int .u32 src, .int .u32 dst, .slice A n cap]
  refine (HO.out _ hA).mono ?_
  rintro e w2 ⟨A', c', rfl, ho, l2⟩
  have Hb2 := Lib.hid (hA.trans (l2.mono (by simp)))
  have b2 := bA.below l2 bA.lt
  have HRo := Lib.hid (HRt.out w2 A' c' ho)
  clear hA bA ho l2
  by_cases hE : E = 0
  case neg =>
    have he : (E != 0) = true := by simpa using hE
    have HY := Lib.hid (HX.out.trans (if_pos hE))
    clear hE b2
    go_wp2_with fail
    go_ret
    exact ⟨by rw [HY.out]; rfl, Hb2.out⟩
  subst hE
  have HX2 := Lib.hid (HX.out.trans (if_neg (by simp)))
  clear HX
  go_wp2_with fail
  refine HRo.out.mono ?_
  rintro e w3 ⟨rfl, l3⟩
  have Hb3 := Lib.hid (Hb2.out.trans (l3.mono Hb2.out.size))
  have b3 := b2.below l3 b2.lt
  clear b2 l3 Hb2
  rcases hrt : routedB ks with _ | _
  case true =>
    have HY := Lib.hid (HX2.out.trans (if_pos hrt))
    clear b3
    go_wp2_with fail
    go_ret
    exact ⟨by rw [HY.out]; rfl, Hb3.out⟩
  have HX3 := Lib.hid (HX2.out.trans (if_neg (by rw [hrt]; decide)))
  have c5 := b3.cell 5
  have c7 := b3.cell 7
  have c8 := b3.cell 8
  clear HX2 b3
  by_cases ht : ttl = 0
  · subst ht
    have HY := Lib.hid (HX3.out.trans (if_pos rfl))
    go_wp2_with fail
    go_ret
    exact ⟨by rw [HY.out]; rfl, Hb3.out⟩
  have ht0 : (ttl == 0) = false := by simpa using ht
  have HX4 := Lib.hid (HX3.out.trans (if_neg ht))
  have S1 := Lib.hid (fun W => HS.out src W)
  have S2 := Lib.hid (fun W => HS.out dst W)
  clear HX3 ht HS
  cases h1 : strangeB src
  case true =>
    have HY := Lib.hid (HX4.out.trans (by rw [h1]))
    rw [h1] at S1
    go_wp2_with fail
    refine (S1.out _).mono ?_
    rintro e w4 ⟨rfl, rfl⟩
    go_wp2_with fail
    go_ret
    exact ⟨by rw [HY.out]; rfl, Hb3.out⟩
  rw [h1] at S1
  cases h2 : strangeB dst
  case true =>
    have HY := Lib.hid (HX4.out.trans (by rw [h1, h2]))
    rw [h2] at S2
    go_wp2_with fail
    refine (S1.out _).mono ?_
    rintro e w4 ⟨rfl, rfl⟩
    go_wp2_with fail
    refine (S2.out _).mono ?_
    rintro e w4 ⟨rfl, rfl⟩
    go_wp2_with fail
    go_ret
    exact ⟨by rw [HY.out]; rfl, Hb3.out⟩
  rw [h2] at S2
  have HY := Lib.hid (HX4.out.trans (by rw [h1, h2, Bool.false_or, Bool.false_or]))
  cases h3 : src == dst
  all_goals
    rw [h3] at HY
    go_wp2_with fail
    refine (S1.out _).mono ?_
    rintro e w4 ⟨rfl, rfl⟩
    go_wp2_with fail
    refine (S2.out _).mono ?_
    rintro e w4 ⟨rfl, rfl⟩
    go_wp2_with fail
    go_ret
    exact ⟨by rw [HY.out]; rfl, Hb3.out⟩
end Go.Proofs.YtebeekjcepjcnaaGreatDoor
