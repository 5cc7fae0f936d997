/-
  What content of the fourth kind is: an error with a quote that is read.
  bafflelaw11.content, an error.
-/
import Derived.Test.YtebeekjcepjcnaaGreatDoorRIcmprd
namespace Go.Proofs.YtebeekjcepjcnaaGreatDoor
open Go.RowKit
theorem cont_quote {k : Nat} {b rest : List Int} {f : Facts} {h : IpH} {t c : Nat} {i s : Int} (hC : Cont k b f) (hk3 : k < 3) (ho : h.Ok) (hR : h.Right b.length) (hoff : h.off = 0) (hp : h.proto = f.key.proto) (h8 : 8 ≤ rest.length) (hrl : rest.length ≤ b.length) (hrb : Byt rest) (hpre : ∀ i, i < 8 → rest.getD i 0 = b.getD i 0)
    (ht : t < 256) (hc : c < 256) (i0 : 0 ≤ i) (i1 : i < 65536) (s0 : 0 ≤ s) (s1 : s < 65536) (hkk : kind2 t c = 0) (h5 : kind1 t c = 5) :
    Cont 3 (icmpL t c i s (headL h b.length ++ rest)) { Facts.zero with key := ⟨1, 0, 0, 0, 0⟩, kind := 5, type := t, code := c, length := (headL h b.length ++ rest).length, quoted := { f.key with src := h.src, dst := h.dst }, qkind := f.kind } := by
  have hfk : f.kind ≠ 5 := by
    obtain ⟨k0, k1, k2, _⟩ := hC.kind
    rcases (show k = 0 ∨ k = 1 ∨ k = 2 by omega) with rfl | rfl | rfl
    · rw [k0 rfl]; decide
    · rw [k1 rfl]; decide
    · rcases k2 rfl with h | h <;> rw [h] <;> decide
  have hpr : h.proto = 6 ∨ h.proto = 17 ∨ h.proto = 1 := by
    rw [hp, hC.proto]
    rcases (show k = 0 ∨ k = 1 ∨ k = 2 by omega) with rfl | rfl | rfl <;> simp
  have hF := hC.facts h hp
  have hlen := hC.len
  obtain ⟨q1, q2, q3⟩ := quo_back h b.length rest b ho hR hoff hlen.1 h8 hpre hpr (by rw [hp]; exact hC.data) (by rw [hp, hF]; exact hfk)
  rw [hp, hF] at q2 q3
  have hraw : (headL h b.length ++ rest).length = 20 + h.opts.length + rest.length := by rw [List.length_append, headL_len]
  have hrawb : Byt (headL h b.length ++ rest) := (headL_byt ho hR.len _).append hrb
  have hol := hR.len
  have hl2 := hlen.2.2 (by omega)
  generalize headL h b.length ++ rest = raw at *
  obtain ⟨x, y, e⟩ := icmpL_eq t c i s raw
  obtain ⟨a1, a2, a3, a4, a5, a6, a7⟩ := icmp_back t c x y i s raw hkk _ e
  rw [h5] at a2
  refine ⟨icmpW_byt (by omega) (by omega) (by omega) (by omega) i0 i1 s0 s1 hrawb, by omega, rfl, rfl, rfl, ?_, fun h' hp' => ?_, (fun h => absurd h (by decide)), (fun h => absurd h (by decide)), (fun h => absurd h (by decide)), fun _ => rfl⟩
  · show icmpE2 _ = 0
    unfold icmpE2
    rw [if_neg (by omega), if_neg (by omega), a3]
    exact q1
  · show icmpF (baseF h') _ = _
    unfold icmpF
    rw [if_neg (by omega), a2, a3, a5, a6, a7, q2, q3]
    have hp2 : h'.proto = 1 := hp'
    have h3 : (((8 + raw.length : Nat)) : Int) - 8 = raw.length := by omega
    rw [h3]
    simp [baseF, Facts.zero, hp2]
end Go.Proofs.YtebeekjcepjcnaaGreatDoor
namespace Go.Proofs.YtebeekjcepjcnaaGreatDoor
open Go.RowKit
/-- What content returns, and how long the quote's header is. -/
def ContPostX (k n : Nat) (w : World) (e : Ending) (W : World) : Prop := ∃ (b : List Int) (p : Option Addr × Nat) (f : Facts), e = .returned (.tuple #[.slice p.1 b.length p.2, f.val]) ∧ Own W w.heap.size (.slice p.1 b.length p.2) b ∧ Cont k b f ∧ (k = 3 → ipSize (b.drop 8) = 20 + n) ∧ Below w.heap.size w W
theorem icmpL_drop (t c : Nat) (i s : Int) (d : List Int) : (icmpL t c i s d).drop 8 = d := by
  obtain ⟨x, y, e⟩ := icmpL_eq t c i s d
  rw [e]
  rfl
theorem OSmAt.more {W : World} {B C : Nat} {A : Option Addr} {l : List OSm} (h : OSmAt W B A l) (hC : B ≤ C) : OSmAt W C A l := fun j x hx => by
  obtain ⟨ok, b, off, e, hB, h1, h2⟩ := h j x hx
  exact ⟨ok, b, off, e, by omega, h1, h2.more hC⟩
theorem SmAt.more {W : World} {B C : Nat} {x : Sm} (h : SmAt W B x) (hC : B ≤ C) : SmAt W C x := ⟨h.os.more hC, h.tb.more hC, h.ub.more hC, h.ib.more hC⟩
theorem SmAt.turn {W : World} {B : Nat} {x : Sm} (h : SmAt W B x) (t : Int) : SmAt W B { x with ity := t } := ⟨h.os, h.tb, h.ub, h.ib⟩
set_option maxRecDepth 100000 in
set_option maxHeartbeats 8000000 in
theorem content_error (x : Sm) (hx : x.Ok) (src dst : Int) (w : World) (x0 : 0 ≤ src) (x1 : src < 4294967296) (y0 : 0 ≤ dst) (y1 : dst < 4294967296) (hA : SmAt w w.heap.size x) (hT : Tabs w) (hs : SortsAt w) :
    Calls Tryz.prog 19 #[x.val, .int .u8 3, .int .u32 src, .int .u32 dst] w (ContPostX 3 (x.tos % 3 * 4).toNat w) := by
  obtain ⟨g0, g1⟩ := hx.ity
  obtain ⟨m0, m1⟩ := hx.ico
  obtain ⟨i0, i1⟩ := hx.iid
  obtain ⟨s0, s1⟩ := hx.isq
  obtain ⟨j0, j1⟩ := hx.id
  obtain ⟨v0, v1⟩ := hx.tos
  obtain ⟨ul, uc, ub⟩ := hx.il
  have hU := hA.ib
  have ht2 : x.ity.tmod 5 = x.ity % 5 := Int.tmod_eq_emod_of_nonneg g0
  have htw : IntKind.u8.wrap (6 + x.ity % 5) = 6 + x.ity % 5 := by rw [IntKind.wrap_u8]; omega
  have hiw : IntKind.u8.wrap x.id = x.id % 256 := IntKind.wrap_u8 _
  have him : (x.id % 256).tmod 3 = x.id % 256 % 3 := Int.tmod_eq_emod_of_nonneg (by omega)
  have hv3 : x.tos.tmod 3 = x.tos % 3 := Int.tmod_eq_emod_of_nonneg v0
  obtain ⟨n, hn⟩ : ∃ n : Nat, x.tos % 3 * 4 = n := ⟨(x.tos % 3 * 4).toNat, by omega⟩
  have hnn : (x.tos % 3 * 4).toNat = n := by omega
  rw [hnn]
  clear hnn
  have hn8 : n ≤ 8 := by omega
  have hn4 : n % 4 = 0 := by omega
  have hnw : IntKind.u8.wrap (x.tos % 3 * 4) = n := by rw [IntKind.wrap_u8]; omega
  have hxk : (x.id % 256 % 3).toNat < 3 := by omega
  have hkk : x.id % 256 % 3 = 0 ∨ x.id % 256 % 3 = 1 ∨ x.id % 256 % 3 = 2 := by omega
  have HM := Lib.hid (fun w' (hb : Below w.heap.size w w') => made10_any (6 + x.ity % 5) x.ico x.iid x.isq x.iA x.ic x.inn (min x.inn 80) x.ib w' (by omega) m0 m1 ul uc rfl (hU.belows hb (Nat.le_refl _)) (hT.below hb (Nat.le_refl _)))
  unfold Made10Post at HM
  obtain ⟨T, C, hT1, hC1, hT2, hC2, hk2, hk1, _, hk6⟩ := m10_good (6 + x.ity % 5) x.ico (by omega)
  have h5 : m10K (6 + x.ity % 5) = 5 := hk6 (by omega)
  rw [hT1, hC1, h5] at HM
  rw [h5] at hk1
  have hxo : Sm.Ok { x with ity := 6 + x.ity % 5 } := ⟨hx.kind, hx.tos, hx.ttl, hx.id, hx.src, hx.dst, hx.ol, hx.hd, hx.tf, hx.tm, hx.tw, hx.tl, hx.ufr, hx.uto, hx.ul, ⟨by show 0 ≤ 6 + x.ity % 5; omega, by show 6 + x.ity % 5 < 256; omega⟩, hx.ico, hx.iid, hx.isq, hx.il⟩
  have HL := Lib.hid (fun w' (hb : Below w.heap.size w w') => content_low (x.id % 256 % 3) { x with ity := 6 + x.ity % 5 } hxo dst src w' hkk y0 y1 x0 x1 (((hA.below hb (Nat.le_refl _)).more hb.size).turn _) (hT.below hb (Nat.le_refl _)) (hs.below hb (Nat.le_refl _)))
  unfold ContPost at HL
  dsimp only [Sm.val, Sm.cells] at HL
  clear hA hx hU ul uc ub hT hT1 hC1 hk6 h5 hxo
  dsimp only [Sm.val, Sm.cells]
  generalize hz : 6 + x.ity % 5 = tt at HM HL hk1
  replace htw : IntKind.u8.wrap (6 + x.ity % 5) = tt := htw.trans hz
  clear hz
  generalize x.id % 256 % 3 = kk at *
  go_enter Tryz.func19, Tryz.ntmps19
  go_upto_region 1 with fail
  refine wp_name2 ?_
  intro w1 hb1 hs1 bx bf
  have hcx := bx.cell
  have hfx := bx.frozen
  go_upto_region 17 with fail
  try dsimp only [Act.put]
  have bx2 : Blk (w1.setCell ⟨w.heap.size, 36, none⟩ (.int .u8 tt)) w.heap.size 34 #[.int .u8 x.kind, .int .u8 x.tos, .int .u8 x.ttl, .int .u16 x.id, .bool x.df, .int .u32 x.src, .int .u32 x.dst, .slice x.oA x.on x.oc, .int .u8 x.h0, .int .u8 x.h1, .int .u8 x.h2, .int .u8 x.h3, .int .u8 x.h4, .int .u8 x.h5, .int .u8 x.h6, .int .u8 x.h7, .int .u8 x.h8, .int .u8 x.h9, .int .u8 x.h10, .int .u8 x.h11, .int .u8 x.h12, .int .u8 x.h13, .int .u8 x.h14, .int .u8 x.h15, .int .u8 x.tf, .int .u8 x.tm, .int .u8 x.tw, .int .u32 x.ts, .int .u32 x.td, .slice x.tA x.tn x.tc, .int .u16 x.ufr, .int .u16 x.uto, .bool x.uck, .int .u32 x.us, .int .u32 x.ud, .slice x.uA x.un x.uc, .int .u8 tt, .int .u8 x.ico, .int .u16 x.iid, .int .u16 x.isq, .slice x.iA x.inn x.ic] := bx.set 36 _
  have hbx := hb1.setCell (p := ⟨w.heap.size, 36, none⟩) (Nat.le_refl _) (.int .u8 tt)
  have bf2 := bf.far (p := ⟨w.heap.size, 36, none⟩) (by show w.heap.size + 1 ≠ w.heap.size; omega) (.int .u8 tt)
  have hs2 : (w1.setCell ⟨w.heap.size, 36, none⟩ (.int .u8 tt)).heap.size = w.heap.size + 2 := by simp [hs1]
  clear hcx hfx bx bf hb1 hs1
  revert bx2 hbx bf2 hs2
  generalize w1.setCell ⟨w.heap.size, 36, none⟩ (.int .u8 tt) = w2
  intro bx2 hbx bf2 hs2
  have hru := bx2.range 36 (l := [.int .u8 tt, .int .u8 x.ico, .int .u16 x.iid, .int .u16 x.isq, .slice x.iA x.inn x.ic]) (by simp)
  go_upto_region 18 with (first | ((with_reducible refine look_load ?_); refine wpList_load_mid rfl _ _ rfl _ _ rfl _ _ hru Tryz.underlying32 rfl (by kernel_rfl) ?_) | (go_at_call 41; refine (HM.out _ hbx).mono ?_; rintro e w3 ⟨p, rfl, ho3, hl3⟩) | ((with_reducible refine look_store ?_); refine wpList_store_new rfl _ _ _ rfl _ _ rfl rfl _ _ rfl (by kernel_rfl) (by simp) (by simp [Value.oneCell']) ?_) | fail)
  try dsimp only [Act.put]
  refine wp_name1 ?_
  intro w4 hb4 hs4 bh4
  clear hru HM
  have hw3s := hl3.size
  have bf4 := (bf2.below hl3 bf2.lt).below hb4 (bf2.below hl3 bf2.lt).lt
  have bx4 := (bx2.below hl3 bx2.lt).below hb4 (bx2.below hl3 bx2.lt).lt
  have hbw := (hbx.trans (hl3.mono hbx.size)).trans (hb4.mono (Nat.le_trans hbx.size hl3.size))
  clear hl3 hb4 bf2 bx2 ho3
  have hcx := bx4.cell
  go_upto_region 19 with (first | ((with_reducible refine look_load ?_); refine wpList_load_row rfl _ _ rfl _ rfl _ _ _ _ bx4 Tryz.underlying34 rfl (by kernel_rfl) ?_) | (go_at_call 19; refine (HL.out _ hbw).mono ?_; rintro e w5 ⟨b, q, ⟨⟨k0, k1, k2, k3, k4⟩, kind, flags, type, code, seqn, ackn, window, length, ⟨z0, z1, z2, z3, z4⟩, qkind⟩, rfl, ho5, hC, hl5⟩; dsimp only [Facts.val, Facts.cells, Key.cells, List.cons_append, List.nil_append]) | ((with_reducible refine look_store ?_); refine wpList_store_new rfl _ _ _ rfl _ _ rfl rfl _ _ rfl (by kernel_rfl) (by simp) (by simp [Value.oneCell']) ?_) | fail)
  try dsimp only [Act.put]
  refine wp_name1 ?_
  intro w6 hb6 hs6 bg
  have bf6 := (bf4.below hl5 bf4.lt).below hb6 (bf4.below hl5 bf4.lt).lt
  have bx6 := (bx4.below hl5 bx4.lt).below hb6 (bx4.below hl5 bx4.lt).lt
  have bh6 := (bh4.below hl5 bh4.lt).below hb6 (bh4.below hl5 bh4.lt).lt
  have hqf : (Value.slice q.1 b.length q.2).ownBlock ≠ some w5.heap.size := fun h => by have := (ho5.lt h).2; omega
  have ho6 := ho5.below hb6 (Nat.le_refl _)
  have hl5s := hl5.size
  have hbw6 := (hbw.trans (hl5.mono hbw.size)).trans (hb6.mono (Nat.le_trans hbw.size hl5.size))
  have HC := Lib.hid hC
  clear hl5 hb6 bf4 bx4 bh4 ho5 hC hbw hcx HL
  have hcg := bg.cell
  have hfg := bg.frozen
  go_upto_region 20 with fail
  try dsimp only [Act.put]
  have bg7 : Blk ((w6.setCell ⟨w5.heap.size, 1, none⟩ (.int .u32 dst)).setCell ⟨w5.heap.size, 2, none⟩ (.int .u32 src)) w5.heap.size 41 #[.int .u8 k0, .int .u32 dst, .int .u32 src, .int .u16 k3, .int .u16 k4, .int .u8 kind, .int .u8 flags, .int .u8 type, .int .u8 code, .int .u32 seqn, .int .u32 ackn, .int .i64 window, .int .i64 length, .int .u8 z0, .int .u32 z1, .int .u32 z2, .int .u16 z3, .int .u16 z4, .int .u8 qkind] := (bg.set 1 (.int .u32 dst)).set 2 (.int .u32 src)
  have hb7 := ((Below.refl w5.heap.size w6).setCell (p := ⟨w5.heap.size, 1, none⟩) (Nat.le_refl _) (.int .u32 dst)).setCell (p := ⟨w5.heap.size, 2, none⟩) (Nat.le_refl _) (.int .u32 src)
  have hlt3 := bh6.lt
  have hlt5 : w3.heap.size < w5.heap.size := by omega
  have bf7 := bf6.below hb7 (by omega)
  have bx7 := bx6.below hb7 (by omega)
  have bh7 := bh6.below hb7 hlt5
  have hbw7 := hbw6.trans (hb7.mono (by omega))
  have ho7 : Own ((w6.setCell ⟨w5.heap.size, 1, none⟩ (.int .u32 dst)).setCell ⟨w5.heap.size, 2, none⟩ (.int .u32 src)) w4.heap.size (.slice q.1 b.length q.2) b := ((ho6.setCell_far (a := ⟨w5.heap.size, 1, none⟩) hqf _).setCell_far (a := ⟨w5.heap.size, 2, none⟩) hqf _)
  clear hcg hfg bg bf6 bx6 bh6 ho6 hb7 hbw6 hqf
  revert bg7 bf7 bx7 bh7 hbw7 ho7
  generalize (w6.setCell ⟨w5.heap.size, 1, none⟩ (.int .u32 dst)).setCell ⟨w5.heap.size, 2, none⟩ (.int .u32 src) = w7
  intro bg7 bf7 bx7 bh7 hbw7 ho7
  have hk0 : 0 ≤ k0 ∧ k0 < 256 := by
    have h := HC.out.proto
    dsimp only at h
    rw [h]
    rcases hkk with h | h | h <;> rw [h] <;> decide
  have hbL := HC.out.len.2.1
  have HK := Lib.hid (show IpH.Ok ⟨0, 0, false, false, 0, 1, k0, dst, src, zerosL n⟩ ∧ IpH.Right ⟨0, 0, false, false, 0, 1, k0, dst, src, zerosL n⟩ b.length from ⟨⟨(show (0 : Int) ≤ 0 by decide), (show (0 : Int) < 256 by decide), (show (0 : Int) ≤ 0 by decide), (show (0 : Int) < 65536 by decide), (show (0 : Int) ≤ 1 by decide), (show (1 : Int) < 256 by decide), hk0.1, hk0.2, y0, y1, x0, x1, zerosL_byt n⟩, ⟨(show (0 : Int) ≤ 0 by decide), (show (0 : Int) ≤ 65528 by decide), (show (0 : Int) % 8 = 0 by decide), by show (zerosL n).length ≤ 40; rw [zerosL_len]; omega, by show (zerosL n).length % 4 = 0; rw [zerosL_len]; omega, by show (zerosL n).length + _ ≤ 65515; rw [zerosL_len]; omega, by show 0 + (b.length : Int) ≤ 65515; omega, fun h => absurd h (show ¬ (false = true) by decide)⟩⟩)
  have HI := Lib.hid (fun (g : Nat) (W : World) (hO : Own W w7.heap.size (.slice (some ⟨g, 0, none⟩) n n) (zerosL n)) (hD : Rd W W.heap.size q.1 .u8 b) => ipWrite_any ⟨0, 0, false, false, 0, 1, k0, dst, src, zerosL n⟩ (some ⟨g, 0, none⟩) n q.1 q.2 b W HK.out.1 HK.out.2 (by have := hO.rd; exact this) hD)
  simp only [IpH.val, zerosL_len] at HI
  generalize hraw : ipWriteL ⟨0, 0, false, false, 0, 1, k0, dst, src, zerosL n⟩ b = raw at HI
  have hrl : raw.length = 20 + n + b.length := by rw [← hraw, ipWriteL_len]; show 20 + (zerosL n).length + _ = _; rw [zerosL_len]
  have Hraw := Lib.hid hraw
  clear hraw
  refine wp_region_walk0 (by kernel_rfl) (fun _ W => St w7 w7.heap.size [] W) [] Grow [0, 1, 2, 3, 4, 5, 6, 7, 8, 11, 9, 10, 12, 13, 14, 15, 16, 17] (by kernel_rfl) (St.nil (Below.refl _ w7) (Nat.le_refl _)).drew ?_
  iterate 10
    apply Walk.one rfl rfl rfl
    case hrun =>
      intro c W hE hF
      have d0 := (bg7.below hE.1 bg7.lt).cell
      have d1 := (bx7.below hE.1 bx7.lt).cell
      go_wp2_with fail
      exact TextPost.mk ⟨Grow.refl _, hE⟩
    case hv => rfl
  refine Walk.anyOf (fun g => .slice (some ⟨g, 0, none⟩) n n) slice_inj (fun g W => Own W w7.heap.size (.slice (some ⟨g, 0, none⟩) n n) (zerosL n)) (fun _ _ _ h hG => h.keep hG) rfl rfl rfl (by kernel_rfl) (by kernel_rfl) ?_ (fun g => ?_)
  · intro c W hE hF
    refine make_own rfl _ _ rfl w7.heap.size _ _ _ _ n n rfl rfl rfl rfl (Nat.le_refl _) (by omega) hE.2.1 ?_
    intro w2 hown hb2 hlt2
    go_wp2_with fail
    exact ⟨_, rfl, hown, hb2, hE.below hb2⟩
  dsimp only [Act.put]
  simp only [List.setIfInBounds_toArray, List.set_cons_succ, List.set_cons_zero]
  iterate 1
    apply Walk.one rfl rfl rfl
    case hrun =>
      intro c W hE hF
      go_wp2_with fail
      exact TextPost.mk ⟨Grow.refl _, hE⟩
    case hv => rfl
  refine Walk.anyOf (fun v => .tuple #[v, .int .i64 0]) tup_inj (fun v W => Own W w7.heap.size v raw) (fun _ _ _ h hG => h.keep hG) rfl rfl rfl (by kernel_rfl) (by kernel_rfl) ?_ (fun v => ?_)
  · intro c W hE hF
    have ho := hF.head
    go_wp2_with fail
    refine (HI.out g W ho (ho7.below hE.1 (Nat.le_refl _)).rd).mono ?_
    rintro e W2 ⟨v, rfl, hown, l⟩
    go_wp2_with fail
    exact ⟨v, rfl, hown.base_le hE.2.1, l, hE.below l⟩
  dsimp only [Act.put]
  simp only [List.setIfInBounds_toArray, List.set_cons_succ, List.set_cons_zero]
  iterate 5
    apply Walk.one rfl rfl rfl
    case hrun =>
      intro c W hE hF
      go_wp2_with fail
      exact TextPost.mk ⟨Grow.refl _, hE⟩
    case hv => rfl
  refine Walk.done (fun W hE hF => ?_)
  have ho := hF.head
  have hbW := hE.1
  obtain ⟨qv, rfl⟩ := ho.shape rfl
  have bf8 := bf7.below hbW bf7.lt
  have bx8 := bx7.below hbW bx7.lt
  have bh8 := bh7.below hbW bh7.lt
  have bg8 := bg7.below hbW bg7.lt
  have hbw8 := hbw7.trans (hbW.mono hbw7.size)
  have hs8 := hs.below hbw8 (Nat.le_refl _)
  obtain ⟨_, cap, ev, hrd, hcap, hcm⟩ := ho.open_
  simp only [Value.slice.injEq] at ev
  obtain ⟨e1, _, e2⟩ := ev
  subst e1
  subst e2
  have hb8 := HC.out.len.1
  have hnc : IntKind.i64.wrap (n : Int) = n := by rw [IntKind.wrap_i64]; omega
  clear bf7 bx7 bh7 bg7 hbw7 hbW hE hF HI ho7 hs
  obtain ⟨df, hdf⟩ : ∃ df, x.df = df := ⟨_, rfl⟩
  rw [hdf] at bx8
  clear hdf
  have hcx := bx8.cell
  have hrb : Byt raw := by
    rw [← Hraw.out]
    exact ipWriteL_byt HK.out.1 HK.out.2.len HC.out.byt
  have hr28 : 28 + n ≤ raw.length := by omega
  have hr400 : raw.length ≤ 400 := by have := HC.out.len.2.2 (by omega); omega
  go_upto_if 180 with fail
  go_cut [28] (fun s28 wx => ∃ m : Nat, s28 = .slice qv.1 m qv.2 ∧ (m = raw.length ∨ m = 28 + n) ∧ wx = W)
  case first =>
    cases df
    · go_wp2_with fail
      go_meet
      exact ⟨raw.length, rfl, .inl rfl, rfl⟩
    · go_wp2_with fail
      all_goals (go_meet; exact ⟨28 + n, by go_num, .inr rfl, rfl⟩)
  case rest =>
    obtain ⟨m, rfl, hm, hWx⟩ := hcut
    subst hWx
    rename World => W
    have hm1 : 28 + n ≤ m ∧ m ≤ raw.length := by rcases hm with rfl | rfl <;> omega
    have hql : (raw.take m).length = m := by rw [List.length_take]; omega
    have hqb : Byt (raw.take m) := hrb.take m
    have hqr := hrd.take m
    have hzl := zerosL_len n
    have hQ : raw.take m = headL ⟨0, 0, false, false, 0, 1, k0, dst, src, zerosL n⟩ b.length ++ b.take (m - (20 + n)) := by
      have hhl := headL_len ⟨0, 0, false, false, 0, 1, k0, dst, src, zerosL n⟩ b.length
      dsimp only at hhl
      rw [hzl] at hhl
      rw [← Hraw.out]
      unfold ipWriteL
      rw [List.take_append, hhl, List.take_of_length_le (by omega)]
    have HCo : Hid (Cont 3 (icmpL T C x.iid x.isq (raw.take m)) { Facts.zero with key := ⟨1, 0, 0, 0, 0⟩, kind := 5, type := T, code := C, length := (raw.take m).length, quoted := ⟨k0, dst, src, k3, k4⟩, qkind := kind } ∧ ipSize ((icmpL T C x.iid x.isq (raw.take m)).drop 8) = 20 + n) := Lib.hid (by
      rw [icmpL_drop, hQ]
      refine ⟨?_, ?_⟩
      · have htl : (b.take (m - (20 + n))).length = m - (20 + n) := by rw [List.length_take]; omega
        have hkl : (x.id % 256 % 3).toNat < 3 := by omega
        refine cont_quote (rest := b.take (m - (20 + n))) HC.out ?_ HK.out.1 HK.out.2 rfl rfl (by omega) (by omega) (HC.out.byt.take _) ?_ hT2 hC2 i0 i1 s0 s1 hk2 hk1
        · rcases hkk with h | h | h <;> rw [h] <;> decide
        · intro i hi
          rw [List.getD_eq_getElem?_getD, List.getD_eq_getElem?_getD, List.getElem?_take, if_pos (by omega)]
      · have := (ip_back ⟨0, 0, false, false, 0, 1, k0, dst, src, zerosL n⟩ b.length (b.take (m - (20 + n))) HK.out.1 HK.out.2).size
        dsimp only at this
        rw [hzl] at this
        exact this)
    clear hQ hzl Hraw hrb hrd hcap hcm HK HC hm
    generalize raw.take m = qt at *
    have hqt4 : qt.length ≤ 400 := by omega
    subst hql
    have HW := Lib.hid (icmpWrite_any T C x.iid x.isq qv.1 qv.2 qt W hT2 hC2 i0 i1 s0 s1 hs8 hk2 (by omega) hqb hqr)
    clear hk2 hk1 hqb hqr hcx hs8
    go_upto_region 24 with (first | ((with_reducible refine look_load ?_); refine wpList_load_row rfl _ _ rfl _ rfl _ _ _ _ bh8 Tryz.underlying98 rfl (by kernel_rfl) ?_) | (go_at_call 31; refine HW.out.mono ?_; rintro e w9 ⟨v, rfl, ho9, hl9⟩) | fail)
    try dsimp only [Act.put]
    obtain ⟨r, rfl⟩ := ho9.shape rfl
    have z1 := bf8.lt
    have z2 := bh8.lt
    have z3 := bg8.lt
    have bf9 := bf8.below hl9 bf8.lt
    have bh9 := bh8.below hl9 bh8.lt
    have bg9 := bg8.below hl9 bg8.lt
    have hbw9 := hbw8.trans (hl9.mono hbw8.size)
    have hO := ho9.base_le (show w.heap.size + 1 + 1 ≤ W.heap.size by omega)
    have hSt : St1 w w.heap.size [(w5.heap.size, _, _), (w3.heap.size, _, _)] (w.heap.size + 1) 41 _ #[.int .u8 1, .int .u32 0, .int .u32 0, .int .u16 0, .int .u16 0, .int .u8 5, .int .u8 0, .int .u8 (T : Int), .int .u8 (C : Int), .int .u32 0, .int .u32 0, .int .i64 0, .int .i64 qt.length, .int .u8 k0, .int .u32 dst, .int .u32 src, .int .u16 k3, .int .u16 k4, .int .u8 kind] 0 w9 := ⟨((St.nil hbw9 hbw9.size).cons bh9).cons bg9, by omega, by simp; omega, bf9⟩
    clear HW hl9 bf8 bh8 bg8 bx8 hbw8 bf9 bh9 bg9 hbw9 ho9 z1 z2 z3
    have HC' := Lib.hid HCo.out
    clear HCo
    generalize icmpL T C x.iid x.isq qt = ys at *
    generalize hyl : ys.length = k at *
    refine wp_region_walk0 (by kernel_rfl) (fun c W => St1 w w.heap.size _ (w.heap.size + 1) 41 _ #[.int .u8 1, .int .u32 0, .int .u32 0, .int .u16 0, .int .u16 0, .int .u8 5, .int .u8 0, .int .u8 (T : Int), .int .u8 (C : Int), .int .u32 0, .int .u32 0, .int .i64 0, .int .i64 qt.length, .int .u8 k0, .int .u32 dst, .int .u32 src, .int .u16 k3, .int .u16 k4, .int .u8 kind] c W ∧ Own W (w.heap.size + 1 + 1) (.slice r.1 k r.2) ys) [15] (GrowR (w.heap.size + 1)) [0, 1, 2, 3, 4, 5, 6, 7, 8, 9, 10, 11, 12, 13, 14, 15] (by kernel_rfl) ⟨hSt.drew, hO.drew⟩ ?_
    iterate 15
      apply Walk.one rfl rfl rfl
      case hrun =>
        intro c W hE hF
        have hc := (hE.1.1.get 0 rfl).cell
        have hc1 := (hE.1.1.get 1 rfl).cell
        have hr1 := (hE.1.1.get 0 rfl).range 0 (l := [.int .u8 k0, .int .u32 dst, .int .u32 src, .int .u16 k3, .int .u16 k4]) (by simp)
        go_wp2_with (first | ((with_reducible refine look_load ?_); refine wpList_load_mid rfl _ _ rfl _ _ rfl _ _ hr1 Tryz.underlying39 rfl (by kernel_rfl) ?_) | fail)
        exact TextPost.mk ⟨GrowR.refl _ _, hE⟩
      case hv => rfl
    apply Walk.keep 0 rfl rfl rfl rfl
    case hrun =>
      intro W2 hE hF
      have hbR := hE.1.2.2.2
      rw [if_pos rfl] at hbR
      go_wp2_with (first | ((with_reducible refine look_store ?_); refine wpList_store_row rfl _ _ _ rfl _ _ rfl rfl _ _ hbR (by kernel_rfl) (by simp) (by simp [Value.oneCell']) ?_) | fail)
      exact TextPost.mk ⟨grown_setRow _ _ _, hE.1.put, hE.2.growR (grown_setRow _ _ _)⟩
    case hv => rfl
    refine Walk.done (fun W hE hF => ?_)
    have hbR := hE.1.2.2.2
    have hbW := hE.1.1.1
    have ho := hE.2
    clear hE hF hSt hO
    go_wp2_with fail
    refine bodyPost_ret (results_tmp_cell Tryz.results19 _ _ _ _ _ _ _ rfl hbR Tryz.underlying41 rfl (by kernel_rfl)) rfl ⟨ys, r, _, ?_, ?_, HC'.out.1, fun _ => HC'.out.2, hbW⟩
    · rw [hyl]
      rfl
    · rw [hyl]; exact ho.base_le (by omega)
theorem content_any (k : Int) (x : Sm) (hx : x.Ok) (src dst : Int) (w : World) (k0 : 0 ≤ k) (k4 : k < 4) (x0 : 0 ≤ src) (x1 : src < 4294967296) (y0 : 0 ≤ dst) (y1 : dst < 4294967296) (hA : SmAt w w.heap.size x) (hT : Tabs w) (hs : SortsAt w) :
    Calls Tryz.prog 19 #[x.val, .int .u8 k, .int .u32 src, .int .u32 dst] w (ContPostX k.toNat (x.tos % 3 * 4).toNat w) := by
  by_cases h3 : k = 3
  · subst h3
    exact content_error x hx src dst w x0 x1 y0 y1 hA hT hs
  · refine (content_low k x hx src dst w (by omega) x0 x1 y0 y1 hA hT hs).mono ?_
    rintro e W ⟨b, p, f, h1, h2, h3', h4⟩
    exact ⟨b, p, f, h1, h2, h3', fun h => absurd h (by omega), h4⟩
end Go.Proofs.YtebeekjcepjcnaaGreatDoor
