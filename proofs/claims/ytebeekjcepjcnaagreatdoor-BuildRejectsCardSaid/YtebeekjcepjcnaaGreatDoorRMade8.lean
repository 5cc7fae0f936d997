/-
  bafflelaw08.Made.
-/
import Derived.Laws.BitsAllLaws
import Derived.Test.YtebeekjcepjcnaaGreatDoorRFresh
import Derived.Test.YtebeekjcepjcnaaGreatDoorRTcprd
namespace Go.Proofs.YtebeekjcepjcnaaGreatDoor
open Go.RowKit
def HeadAt (w : World) (g : Nat) (hd : List Int) : Prop := ∀ j, j < 16 → w.cell? ⟨g, j, none⟩ = some (.int .u8 (hd.getD j 0))
set_option maxRecDepth 100000 in
set_option maxHeartbeats 4000000 in
theorem two_any (g i : Nat) (hd : List Int) (w : World) (hB : Byt hd) (hi : i = 0 ∨ i = 2 ∨ i = 4 ∨ i = 6 ∨ i = 8 ∨ i = 10 ∨ i = 12 ∨ i = 14) (hh : HeadAt w g hd) :
    Calls Tryz.prog 73 #[.int .i64 i, .pointer (some ⟨g, 0, none⟩)] w fun e w' => e = .returned (.int .u16 (w16At hd i)) ∧ Below w.heap.size w w' := by
  have hg : g < w.heap.size := World.lt_of_cell (hh 0 (by omega))
  have c0 := hh i (by omega)
  have c1 := hh (i + 1) (by omega)
  obtain ⟨x0, x1⟩ := hB.at_ i
  obtain ⟨y0, y1⟩ := hB.at_ (i + 1)
  have ho := or_u16_word (hd.getD i 0) (hd.getD (i + 1) 0) x0 x1 y0 y1
  rw [show 256 * hd.getD i 0 + hd.getD (i + 1) 0 = w16At hd i from rfl] at ho
  clear hh hB
  generalize w16At hd i = R at *
  generalize hd.getD i 0 = x at *
  generalize hd.getD (i + 1) 0 = y at *
  rcases hi with rfl | rfl | rfl | rfl | rfl | rfl | rfl | rfl
  all_goals
    go_enter Tryz.func73, Tryz.ntmps73
    go_wp2_with fail
    refine wp_region_walk0 (by kernel_rfl) (fun _ W => St w w.heap.size [] W) [] Grow [0, 1, 2, 3, 4, 5, 6, 7, 8, 9, 10, 11] (by kernel_rfl) (St.nil (Below.refl _ w) (Nat.le_refl _)).drew ?_
    iterate 12
      apply Walk.one rfl rfl rfl
      case hrun =>
        intro c W hE hF
        have d0 := (hE.1.cell (p := ⟨g, _, none⟩) hg).trans c0
        have d1 := (hE.1.cell (p := ⟨g, _, none⟩) hg).trans c1
        go_wp2_with fail
        exact TextPost.mk ⟨Grow.refl _, hE⟩
      case hv => rfl
    refine Walk.done (fun W hE hF => ?_)
    have hbW := hE.1
    clear hE hF
    go_wp2_with fail
    go_ret
    exact ⟨rfl, hbW⟩
def flbL : List Int := [2, 18, 16, 17, 4, 20]
theorem made8_sane : ∀ r, r < 6 → ∀ more, more < 256 → saneB (((flbL.getD r 0).toNat) ||| (more &&& 232)) = true ∧ (((flbL.getD r 0).toNat) ||| (more &&& 232)) < 256 := by
  have h : ((List.range 6).all fun r => (List.range 256).all fun more => saneB (((flbL.getD r 0).toNat) ||| (more &&& 232)) && decide ((((flbL.getD r 0).toNat) ||| (more &&& 232)) < 256)) = true := by decide +kernel
  intro r hr more hm
  have h1 := List.all_eq_true.1 h r (List.mem_range.2 hr)
  have h2 := List.all_eq_true.1 h1 more (List.mem_range.2 hm)
  simpa using h2
/-- The options of the header. -/
def m8O (hd : List Int) (j : Nat) : List Int := (List.range j).map fun i => bits .xor .u8 (hd.getD (i % 16) 0) i
theorem m8O_len (hd : List Int) (j : Nat) : (m8O hd j).length = j := by simp [m8O]
theorem m8O_succ (hd : List Int) (j : Nat) : m8O hd (j + 1) = m8O hd j ++ [bits .xor .u8 (hd.getD (j % 16) 0) j] := by simp [m8O, List.range_succ]
theorem m8O_byt (hd : List Int) (hB : Byt hd) (j : Nat) (hj : j ≤ 40) : Byt (m8O hd j) := by
  intro x hx
  obtain ⟨i, hi, rfl⟩ := List.mem_map.1 hx
  have hi2 := List.mem_range.1 hi
  have hb := hB.at_ (i % 16)
  rw [u8_xor _ _ hb.1 hb.2 (by omega) (by omega)]
  have := Nat.xor_lt_two_pow (x := (hd.getD (i % 16) 0).toNat) (y := ((i : Nat) : Int).toNat) (n := 8) (by omega) (by omega)
  omega
def m8N (sp dp sq ak F win urg : Int) : Nat → Array Value
  | 0 => #[.int .u16 (max sp 1), .int .u16 (max dp 1), .int .u32 sq, .int .u32 ak, .int .u8 0, .int .u16 win, .int .u16 urg, .slice none 0 0]
  | _ => #[.int .u16 (max sp 1), .int .u16 (max dp 1), .int .u32 sq, .int .u32 ak, .int .u8 F, .int .u16 win, .int .u16 urg, .slice none 0 0]
theorem StN.below {w W W' : World} {B : Nat} {L : List (Nat × TypeId × Array Value)} {R : Nat} {t : TypeId} {cs : Nat → Array Value} {c : Nat} (h : StN w B L R t cs c W) (hb : Below W.heap.size W W') : StN w B L R t cs c W' := ⟨h.1.below hb, h.2.1, h.2.2.1, h.2.2.2.below hb h.2.2.2.lt⟩
theorem St.belowAt {w W W' : World} {B C : Nat} {L : List (Nat × TypeId × Array Value)} (h : St w B L W) (hb : Below C W W') (hBC : B ≤ C) (hL : ∀ x ∈ L, x.1 < C) : St w B L W' :=
  ⟨h.1.trans (hb.mono hBC), by have := hb.size; have := h.2.1; omega, fun x hx => (h.2.2 x hx).below hb (hL x hx)⟩
theorem sl_inj6 : ∀ g h : Nat, Value.slice (some ⟨g, 0, none⟩) 6 6 = Value.slice (some ⟨h, 0, none⟩) 6 6 → g = h := fun g h e => by simpa using e
theorem grown_set (w : World) (a : Addr) (u : Value) : w.grownBy (w.setCell a u) (some a.block) :=
  ⟨rfl, rfl, rfl, by simp, fun k _ hk => Below.heap_setCell w a u k (fun e => hk (by rw [e]))⟩
def Made8Post (hd : List Int) (wo : Int) (m : Nat) (xs : List Int) (w : World) (e : Ending) (W : World) : Prop := ∃ (F : Nat) (o p : Option Addr × Nat), F < 256 ∧ saneB F = true ∧
  e = .returned (.tuple #[.agg #[.int .u16 (max (w16At hd 0) 1), .int .u16 (max (w16At hd 2) 1), .int .u32 (l32At hd 4), .int .u32 (l32At hd 8), .int .u8 F, .int .u16 (w16At hd 12), .int .u16 (w16At hd 14), .slice o.1 (4 * (wo.toNat % 11)) o.2], .slice p.1 m p.2])
  ∧ Own W w.heap.size (.slice o.1 (4 * (wo.toNat % 11)) o.2) (m8O hd (4 * (wo.toNat % 11))) ∧ Own W w.heap.size (.slice p.1 m p.2) (xs.take 100) ∧ Below w.heap.size w W
set_option maxRecDepth 100000 in
set_option maxHeartbeats 8000000 in
theorem made8_any (hd : List Int) (fl mo wo s d : Int) (A : Option Addr) (cap n m : Nat) (xs : List Int) (w : World) (hB : Byt hd) (f0 : 0 ≤ fl) (m0 : 0 ≤ mo) (m1 : mo < 256) (w0 : 0 ≤ wo) (w1 : wo < 256) (hn : xs.length = n) (hcap : n ≤ cap) (hm : m = min n 100) (hr : Rd w w.heap.size A .u8 xs) :
    Calls Tryz.prog 37 #[.agg #[.int .u8 (hd.getD 0 0), .int .u8 (hd.getD 1 0), .int .u8 (hd.getD 2 0), .int .u8 (hd.getD 3 0), .int .u8 (hd.getD 4 0), .int .u8 (hd.getD 5 0), .int .u8 (hd.getD 6 0), .int .u8 (hd.getD 7 0), .int .u8 (hd.getD 8 0), .int .u8 (hd.getD 9 0), .int .u8 (hd.getD 10 0), .int .u8 (hd.getD 11 0), .int .u8 (hd.getD 12 0), .int .u8 (hd.getD 13 0), .int .u8 (hd.getD 14 0), .int .u8 (hd.getD 15 0), .int .u8 fl, .int .u8 mo, .int .u8 wo, .int .u32 s, .int .u32 d, .slice A n cap]] w (Made8Post hd wo m xs w) := by
  have hmi : min (n : Int) 100 = (m : Int) := by omega
  have hmc : (m : Int) ≤ cap := by omega
  have HL := Lib.hid (show (xs.take 100).length = m by rw [List.length_take]; omega)
  have HR := Lib.hid (hr.take 100)
  have HB := Lib.hid hB

  have H0 := Lib.hid (fun (g : Nat) (W : World) (hh : HeadAt W g hd) => two_any g 0 hd W hB (by omega) hh)
  have H2 := Lib.hid (fun (g : Nat) (W : World) (hh : HeadAt W g hd) => two_any g 2 hd W hB (by omega) hh)
  have H4 := Lib.hid (fun (g : Nat) (W : World) (hh : HeadAt W g hd) => two_any g 4 hd W hB (by omega) hh)
  have H6 := Lib.hid (fun (g : Nat) (W : World) (hh : HeadAt W g hd) => two_any g 6 hd W hB (by omega) hh)
  have H8 := Lib.hid (fun (g : Nat) (W : World) (hh : HeadAt W g hd) => two_any g 8 hd W hB (by omega) hh)
  have H10 := Lib.hid (fun (g : Nat) (W : World) (hh : HeadAt W g hd) => two_any g 10 hd W hB (by omega) hh)
  have H12 := Lib.hid (fun (g : Nat) (W : World) (hh : HeadAt W g hd) => two_any g 12 hd W hB (by omega) hh)
  have H14 := Lib.hid (fun (g : Nat) (W : World) (hh : HeadAt W g hd) => two_any g 14 hd W hB (by omega) hh)
  obtain ⟨v, hv⟩ : ∃ v : Nat, wo.toNat % 11 = v := ⟨_, rfl⟩
  have hwo : wo.tmod 11 = (v : Int) := by rw [Int.tmod_eq_emod_of_nonneg w0]; omega
  have hv10 : v ≤ 10 := by omega
  have hv11 : (v : Int) ≤ 10 := by omega
  obtain ⟨r, hr6, hr7⟩ : ∃ r : Nat, fl.tmod 6 = r ∧ r < 6 := ⟨(fl % 6).toNat, by rw [Int.tmod_eq_emod_of_nonneg f0]; omega, by omega⟩
  obtain ⟨F, hF0, hF1, hF2⟩ : ∃ F : Nat, bits .or .u8 (flbL.getD r 0) (bits .and .u8 mo 232) = (F : Int) ∧ F < 256 ∧ saneB F = true := by
    have h := made8_sane r hr7 mo.toNat (by omega)
    refine ⟨_, ?_, h.2, h.1⟩
    have hf : 0 ≤ flbL.getD r 0 ∧ flbL.getD r 0 < 256 := by
      rcases (show r = 0 ∨ r = 1 ∨ r = 2 ∨ r = 3 ∨ r = 4 ∨ r = 5 by omega) with rfl | rfl | rfl | rfl | rfl | rfl <;> decide
    have e1 : bits .and .u8 mo 232 = ((mo.toNat &&& 232 : Nat) : Int) := by
      have := u8_and_nat mo.toNat 232 (by omega) (by omega)
      rwa [show ((mo.toNat : Nat) : Int) = mo by omega] at this
    have h2 : mo.toNat &&& 232 < 256 := Nat.lt_of_le_of_lt Nat.and_le_right (by omega)
    rw [e1, show flbL.getD r 0 = ((flbL.getD r 0).toNat : Int) by omega]
    rw [u8_or_nat _ _ (by omega) h2]
    rfl
  unfold Made8Post
  rw [hv]
  have b0 := w16At_bd hB 0
  have b2 := w16At_bd hB 2
  have b4 := w16At_bd hB 4
  have b6 := w16At_bd hB 6
  have b8 := w16At_bd hB 8
  have b10 := w16At_bd hB 10
  have o4 := or_u32_long (w16At hd 4) (w16At hd 6) b4.1 b4.2 b6.1 b6.2
  have o8 := or_u32_long (w16At hd 8) (w16At hd 10) b8.1 b8.2 b10.1 b10.2
  rw [show 65536 * w16At hd 4 + w16At hd 6 = l32At hd 4 from rfl] at o4
  rw [show 65536 * w16At hd 8 + w16At hd 10 = l32At hd 8 from rfl] at o8
  have HHd : Hid (∀ (W : World) (g : Nat), Blk W g 25 #[.int .u8 (hd.getD 0 0), .int .u8 (hd.getD 1 0), .int .u8 (hd.getD 2 0), .int .u8 (hd.getD 3 0), .int .u8 (hd.getD 4 0), .int .u8 (hd.getD 5 0), .int .u8 (hd.getD 6 0), .int .u8 (hd.getD 7 0), .int .u8 (hd.getD 8 0), .int .u8 (hd.getD 9 0), .int .u8 (hd.getD 10 0), .int .u8 (hd.getD 11 0), .int .u8 (hd.getD 12 0), .int .u8 (hd.getD 13 0), .int .u8 (hd.getD 14 0), .int .u8 (hd.getD 15 0)] → HeadAt W g hd) := Lib.hid fun W g h j hj => by
    rw [h.cell j]
    rcases (show j = 0 ∨ j = 1 ∨ j = 2 ∨ j = 3 ∨ j = 4 ∨ j = 5 ∨ j = 6 ∨ j = 7 ∨ j = 8 ∨ j = 9 ∨ j = 10 ∨ j = 11 ∨ j = 12 ∨ j = 13 ∨ j = 14 ∨ j = 15 by omega) with rfl | rfl | rfl | rfl | rfl | rfl | rfl | rfl | rfl | rfl | rfl | rfl | rfl | rfl | rfl | rfl <;> rfl
  clear hn hm hr hcap hB hv
  generalize hd.getD 0 0 = h0 at *
  generalize hd.getD 1 0 = h1 at *
  generalize hd.getD 2 0 = h2 at *
  generalize hd.getD 3 0 = h3 at *
  generalize hd.getD 4 0 = h4 at *
  generalize hd.getD 5 0 = h5 at *
  generalize hd.getD 6 0 = h6 at *
  generalize hd.getD 7 0 = h7 at *
  generalize hd.getD 8 0 = h8 at *
  generalize hd.getD 9 0 = h9 at *
  generalize hd.getD 10 0 = h10 at *
  generalize hd.getD 11 0 = h11 at *
  generalize hd.getD 12 0 = h12 at *
  generalize hd.getD 13 0 = h13 at *
  generalize hd.getD 14 0 = h14 at *
  generalize hd.getD 15 0 = h15 at *
  generalize w16At hd 0 = t0 at *
  generalize w16At hd 2 = t2 at *
  generalize w16At hd 4 = t4 at *
  generalize w16At hd 6 = t6 at *
  generalize w16At hd 8 = t8 at *
  generalize w16At hd 10 = t10 at *
  generalize w16At hd 12 = t12 at *
  generalize w16At hd 14 = t14 at *
  generalize l32At hd 4 = q4 at *
  generalize l32At hd 8 = q8 at *
  go_enter Tryz.func37, Tryz.ntmps37
  go_upto_region 1 with fail
  refine wp_name2 ?_
  intro wi hb1 hs1 bx bt
  have hrg := bx.range 0 (l := [.int .u8 h0, .int .u8 h1, .int .u8 h2, .int .u8 h3, .int .u8 h4, .int .u8 h5, .int .u8 h6, .int .u8 h7, .int .u8 h8, .int .u8 h9, .int .u8 h10, .int .u8 h11, .int .u8 h12, .int .u8 h13, .int .u8 h14, .int .u8 h15]) (by simp)
  go_upto_region 2 with (first | ((with_reducible refine look_load ?_); refine wpList_load_mid rfl _ _ rfl _ _ rfl _ _ hrg Tryz.underlying25 rfl (by kernel_rfl) ?_) | ((with_reducible refine look_store ?_); refine wpList_store_new rfl _ _ _ rfl _ _ rfl rfl _ _ rfl (by kernel_rfl) (by simp) (by simp [Value.oneCell']) ?_) | fail)
  refine wp_name1 ?_
  intro w2 hb2 hs2 ba
  have S0 := Lib.hid ((((St.nil (hb1.trans (hb2.mono hb1.size)) (hb1.trans (hb2.mono hb1.size)).size).cons (show Blk w2 (w.heap.size + 2) _ _ from by rw [← hs1]; exact ba)).cons (bt.below hb2 bt.lt)).cons (bx.below hb2 bx.lt))
  have Z0 : Hid (w.heap.size + 3 ≤ w2.heap.size) := Lib.hid (by omega)
  clear hb1 hs1 bx bt hb2 hs2 ba hrg
  go_wp2_with fail
  refine (H0.out _ w2 (HHd.out _ _ (S0.out.get 2 rfl))).mono ?_
  rintro e w3 ⟨rfl, l⟩
  have S1 := Lib.hid (S0.out.below l)
  have Z1 := Lib.hid (Nat.le_trans Z0.out l.size)
  clear l S0 Z0
  go_wp2_with fail
  refine (H2.out _ w3 (HHd.out _ _ (S1.out.get 2 rfl))).mono ?_
  rintro e w4 ⟨rfl, l⟩
  have S2 := Lib.hid (S1.out.below l)
  have Z2 := Lib.hid (Nat.le_trans Z1.out l.size)
  clear l S1 Z1
  go_wp2_with fail
  refine (H4.out _ w4 (HHd.out _ _ (S2.out.get 2 rfl))).mono ?_
  rintro e w5 ⟨rfl, l⟩
  have S3 := Lib.hid (S2.out.below l)
  have Z3 := Lib.hid (Nat.le_trans Z2.out l.size)
  clear l S2 Z2
  go_wp2_with fail
  refine (H6.out _ w5 (HHd.out _ _ (S3.out.get 2 rfl))).mono ?_
  rintro e w6 ⟨rfl, l⟩
  have S4 := Lib.hid (S3.out.below l)
  have Z4 := Lib.hid (Nat.le_trans Z3.out l.size)
  clear l S3 Z3
  go_wp2_with fail
  refine (H8.out _ w6 (HHd.out _ _ (S4.out.get 2 rfl))).mono ?_
  rintro e w7 ⟨rfl, l⟩
  have S5 := Lib.hid (S4.out.below l)
  have Z5 := Lib.hid (Nat.le_trans Z4.out l.size)
  clear l S4 Z4
  go_wp2_with fail
  refine (H10.out _ w7 (HHd.out _ _ (S5.out.get 2 rfl))).mono ?_
  rintro e w8 ⟨rfl, l⟩
  have S6 := Lib.hid (S5.out.below l)
  have Z6 := Lib.hid (Nat.le_trans Z5.out l.size)
  clear l S5 Z5
  go_wp2_with fail
  refine (H12.out _ w8 (HHd.out _ _ (S6.out.get 2 rfl))).mono ?_
  rintro e w9 ⟨rfl, l⟩
  have S7 := Lib.hid (S6.out.below l)
  have Z7 := Lib.hid (Nat.le_trans Z6.out l.size)
  clear l S6 Z6
  go_wp2_with fail
  refine (H14.out _ w9 (HHd.out _ _ (S7.out.get 2 rfl))).mono ?_
  rintro e w10 ⟨rfl, l⟩
  have S8 := Lib.hid (S7.out.below l)
  have Z8 := Lib.hid (Nat.le_trans Z7.out l.size)
  clear l S7 Z7
  go_upto_region 4 with (first | ((with_reducible refine look_store ?_); refine wpList_store_new rfl _ _ _ rfl _ _ rfl rfl _ _ rfl (by kernel_rfl) (by simp) (by simp [Value.oneCell']) ?_) | fail)
  refine wp_name1 ?_
  intro wa hba hsa bq
  have hE0 : StN w w.heap.size [(w.heap.size, 28, #[.int .u8 h0, .int .u8 h1, .int .u8 h2, .int .u8 h3, .int .u8 h4, .int .u8 h5, .int .u8 h6, .int .u8 h7, .int .u8 h8, .int .u8 h9, .int .u8 h10, .int .u8 h11, .int .u8 h12, .int .u8 h13, .int .u8 h14, .int .u8 h15, .int .u8 fl, .int .u8 mo, .int .u8 wo, .int .u32 s, .int .u32 d, .slice A n cap]), (w.heap.size + 1, 110, #[.int .u16 0, .int .u16 0, .int .u32 0, .int .u32 0, .int .u8 0, .int .u16 0, .int .u16 0, .slice none 0 0]), (w.heap.size + 2, 25, #[.int .u8 h0, .int .u8 h1, .int .u8 h2, .int .u8 h3, .int .u8 h4, .int .u8 h5, .int .u8 h6, .int .u8 h7, .int .u8 h8, .int .u8 h9, .int .u8 h10, .int .u8 h11, .int .u8 h12, .int .u8 h13, .int .u8 h14, .int .u8 h15])] w10.heap.size 110 (m8N t0 t2 q4 q8 F t12 t14) 0 wa :=
    ⟨S8.out.below hba, by have := Z8.out; omega, by have := Z8.out; simp; omega, bq⟩
  have ZR := Lib.hid Z8.out
  have ZA : Hid (w10.heap.size + 1 ≤ wa.heap.size) := Lib.hid (by omega)
  clear S8 Z8 hba hsa bq b0 b2 b4 b6 b8 b10 o4 o8 H0 H2 H4 H6 H8 H10 H12 H14
  generalize w10.heap.size = R at *

  obtain ⟨FB, hFB'⟩ : ∃ FB, flbL.getD r 0 = FB := ⟨_, rfl⟩
  have hFB := Lib.hid hFB'
  rw [hFB'] at hF0
  clear hFB'
  refine wp_region_walk0 (by kernel_rfl) (StN w w.heap.size _ R 110 (m8N t0 t2 q4 q8 F t12 t14)) [11] (GrowR R) [1, 2, 3, 6, 7, 8, 10, 0, 4, 5, 9, 11] (by kernel_rfl) hE0.drew ?_
  iterate 7
    apply Walk.one rfl rfl rfl
    case hrun =>
      intro k W hE hF
      have hc := (hE.1.get 0 rfl).cell
      go_wp2_with fail
      exact TextPost.mk ⟨GrowR.refl _ _, hE⟩
    case hv => rfl
  refine Walk.anyOf (fun g : Nat => .slice (some ⟨g, 0, none⟩) 6 6) sl_inj6 (fun g W => R < g ∧ Blk W g 5 #[.int .u8 2, .int .u8 18, .int .u8 16, .int .u8 17, .int .u8 4, .int .u8 20]) (fun _ _ _ h hG => ⟨h.1, h.2.grown hG (by intro e; injection e with e; have := h.1; omega)⟩) rfl rfl rfl (by kernel_rfl) (by kernel_rfl) ?_ (fun g => ?_)
  · intro k W hE hF
    have hlt := hE.2.2.2.lt
    go_wp2_with fail
    exact ⟨W.heap.size, rfl, ⟨hlt, Blk.new _ _ _⟩, GrowR.of ((Below.refl _ _).alloc (Nat.le_refl _) _), hE.below ((Below.refl _ _).alloc (Nat.le_refl _) _)⟩
  dsimp only [Act.put]
  simp only [List.setIfInBounds_toArray, List.set_cons_succ, List.set_cons_zero]
  apply Walk.one rfl rfl rfl
  case hrun =>
    intro k W hE hF
    have hrc : (r : Int) < 6 := by omega
    go_wp2_with fail
    exact TextPost.mk ⟨GrowR.refl _ _, hE⟩
  case hv => rfl
  apply Walk.one rfl rfl rfl
  case hrun =>
    intro k W hE hF
    have hcell : W.cell? ⟨g, r, none⟩ = some (.int .u8 FB) := by
      rw [← hFB.out]
      rw [hF.head.2.cell r]
      rcases (show r = 0 ∨ r = 1 ∨ r = 2 ∨ r = 3 ∨ r = 4 ∨ r = 5 by omega) with rfl | rfl | rfl | rfl | rfl | rfl <;> rfl
    go_wp2_with fail
    exact TextPost.mk ⟨GrowR.refl _ _, hE⟩
  case hv => rfl
  apply Walk.one rfl rfl rfl
  case hrun =>
    intro k W hE hF
    go_wp2_with fail
    exact TextPost.mk ⟨GrowR.refl _ _, hE⟩
  case hv => rfl
  apply Walk.keep 0 rfl rfl rfl rfl
  case hrun =>
    intro W2 hE hF
    have hc := hE.2.2.2.cell
    have hf := hE.2.2.2.frozen
    go_wp2_with fail
    exact TextPost.mk ⟨grown_set _ _ _, hE.set 4 _ rfl⟩
  case hv => rfl
  refine Walk.done (fun W hE hF => ?_)
  have HS := Lib.hid hE.1
  have HBk : Hid (Blk W R 110 #[.int .u16 (max t0 1), .int .u16 (max t2 1), .int .u32 q4, .int .u32 q8, .int .u8 F, .int .u16 t12, .int .u16 t14, .slice none 0 0]) := Lib.hid hE.2.2.2
  have hcw := (hE.1.get 0 rfl).cell
  clear hE hF hE0 hFB hF0 ZA
  go_wp2_with fail
  have HZ : Hid (R + 1 ≤ W.heap.size) := Lib.hid (HBk.out.lt)
  clear hcw
  go_loopw [7, 54] (fun _ i W => ∃ (j : Nat) (dv : Value), j ≤ 4 * v ∧ i = .int .i64 j ∧ Hid (St w w.heap.size [(w.heap.size, 28, #[.int .u8 h0, .int .u8 h1, .int .u8 h2, .int .u8 h3, .int .u8 h4, .int .u8 h5, .int .u8 h6, .int .u8 h7, .int .u8 h8, .int .u8 h9, .int .u8 h10, .int .u8 h11, .int .u8 h12, .int .u8 h13, .int .u8 h14, .int .u8 h15, .int .u8 fl, .int .u8 mo, .int .u8 wo, .int .u32 s, .int .u32 d, .slice A n cap]), (w.heap.size + 1, 110, #[.int .u16 0, .int .u16 0, .int .u32 0, .int .u32 0, .int .u8 0, .int .u16 0, .int .u16 0, .slice none 0 0]), (w.heap.size + 2, 25, #[.int .u8 h0, .int .u8 h1, .int .u8 h2, .int .u8 h3, .int .u8 h4, .int .u8 h5, .int .u8 h6, .int .u8 h7, .int .u8 h8, .int .u8 h9, .int .u8 h10, .int .u8 h11, .int .u8 h12, .int .u8 h13, .int .u8 h14, .int .u8 h15])] W ∧ R + 1 ≤ W.heap.size ∧ Blk W R 110 #[.int .u16 (max t0 1), .int .u16 (max t2 1), .int .u32 q4, .int .u32 q8, .int .u8 F, .int .u16 t12, .int .u16 t14, dv] ∧ Own W (R + 1) dv (m8O hd j))) (fun _ i _ => 4 * v - (intOf i).toNat)
  case atStart => exact ⟨0, _, by omega, rfl, Lib.hid ⟨HS.out, HZ.out, HBk.out, Own.nil_ _ _⟩⟩
  case round =>
    obtain ⟨j, dv, hj, rfl, hJ⟩ := hrel
    rename World => wj
    clear HS HBk HZ
    by_cases hlt : j < 4 * v
    · have hjl : (j : Int) < 4 * (v : Int) := by omega
      have e1 : decide ((j : Int) < 4 * (v : Int)) = true := by simp; omega
      have e2 : decide (j < 4 * v) = true := by simp; omega
      have hj256 : (j : Int) < 256 := by omega
      have hwj : IntKind.u8.wrap (j : Int) = j := by rw [IntKind.wrap_u8]; omega
      obtain ⟨q, hq, hq2, hq3⟩ : ∃ q : Nat, (j : Int).tmod 16 = (q : Int) ∧ q < 16 ∧ j % 16 = q := ⟨j % 16, by rw [Int.tmod_eq_emod_of_nonneg (by omega)]; omega, by omega, rfl⟩
      have hqi : (q : Int) < 16 := by omega
      have HSn := Lib.hid (m8O_succ hd j)
      rw [hq3] at HSn
      have HDl : Hid ((m8O hd j).length = j) := Lib.hid (m8O_len hd j)
      have hc7 := hJ.out.2.2.1.cell 7
      have hch := HHd.out _ _ (hJ.out.1.get 2 rfl) q hq2
      have hwl : R < wj.heap.size := by have := hJ.out.2.1; omega
      have hwl2 : w.heap.size + 2 < wj.heap.size := by have := hJ.out.2.1; have := ZR.out; omega
      clear hq3
      generalize hd.getD q 0 = y at *
      generalize m8O hd j = D at *
      go_wp2_with fail
      go_region_law (refine step_app_own rfl _ _ rfl (R + 1) dv D rfl (Own.alloc hJ.out.2.2.2.drew _) _ (some ⟨wj.heap.size, 0, none⟩) 1 1 [bits .xor .u8 y j] rfl rfl (Rd.new _ _ _ _) (by have := HDl.out; simp; omega) (by have := hJ.out.2.1; simp; omega) ?_; intro v' w3 o3 l3 g3 a3; obtain ⟨pp, rfl⟩ := o3.shape rfl; have b3 := (hJ.out.2.2.1.drew.alloc _).grown g3 (fun e => by have := (hJ.out.2.2.2.lt e.symm).1; omega); have c3 := b3.cell 7; have f3 := b3.frozen 7)
      all_goals
        have HX := Lib.hid (show R + 1 ≤ w3.heap.size ∧ Below (R + 1) wj w3 from ⟨by have h3 := g3.size; have := hJ.out.2.1; have h4 : wj.heap.size + 1 ≤ w3.heap.size := (by simpa using h3); omega, ((Below.refl (R + 1) wj).drew.alloc (by have := hJ.out.2.1; exact this) _).trans l3⟩)
        have hne := Lib.hid (show (Value.slice pp.1 (D ++ [bits .xor .u8 y j]).length pp.2).ownBlock ≠ some R from fun e => by have := (o3.lt e).1; omega)
        clear c3
        go_wp2_with fail
        go_roundw
        case rel =>
          have hst : St w w.heap.size _ w3 := hJ.out.1.belowAt HX.out.2 (by have := ZR.out; omega) (by have := ZR.out; simp; omega)
          refine ⟨j + 1, _, by omega, by go_num, Lib.hid ⟨hst.setFar (p := ⟨R, 7, none⟩) (by have := ZR.out; show w.heap.size ≤ R; omega) (by have := ZR.out; simp; omega) _, by simpa using HX.out.1, b3.set 7 _, ?_⟩⟩
          rw [HSn.out]
          try rw [show D.length + 1 = (D ++ [bits .xor .u8 y j]).length by simp]
          exact o3.setCell_far (a := ⟨R, 7, none⟩) hne.out _
        case measure => simp [intOf]; omega
    · obtain rfl : j = 4 * v := by omega
      obtain ⟨hS, hR1, hBk, hO⟩ := hJ.out
      obtain ⟨o, rfl⟩ := hO.shape (m8O_len hd (4 * v))
      have e1 : decide (((4 * v : Nat) : Int) < 4 * (v : Int)) = false := by simp
      have hSt : St1 w w.heap.size [(w.heap.size, 28, #[.int .u8 h0, .int .u8 h1, .int .u8 h2, .int .u8 h3, .int .u8 h4, .int .u8 h5, .int .u8 h6, .int .u8 h7, .int .u8 h8, .int .u8 h9, .int .u8 h10, .int .u8 h11, .int .u8 h12, .int .u8 h13, .int .u8 h14, .int .u8 h15, .int .u8 fl, .int .u8 mo, .int .u8 wo, .int .u32 s, .int .u32 d, .slice A n cap]), (R, 110, #[.int .u16 (max t0 1), .int .u16 (max t2 1), .int .u32 q4, .int .u32 q8, .int .u8 F, .int .u16 t12, .int .u16 t14, .slice o.1 (4 * v) o.2])] (w.heap.size + 1) 110 #[.int .u16 0, .int .u16 0, .int .u32 0, .int .u32 0, .int .u8 0, .int .u16 0, .int .u16 0, .slice none 0 0] #[.int .u16 (max t0 1), .int .u16 (max t2 1), .int .u32 q4, .int .u32 q8, .int .u8 F, .int .u16 t12, .int .u16 t14, .slice o.1 (4 * v) o.2] 0 wj ∧ Own wj (w.heap.size + 1 + 1) (.slice o.1 (4 * v) o.2) (m8O hd (4 * v)) :=
        ⟨⟨((St.nil hS.1 hS.2.1).cons hBk).cons (hS.get 0 rfl), by omega, by have := ZR.out; simp; omega, hS.get 1 rfl⟩, hO.base_le (by have := ZR.out; omega)⟩
      clear hS hBk hO hJ HHd hlt hj hR1
      go_wp2_with fail
      refine wp_region_walk0 (by kernel_rfl) (fun k W => St1 w w.heap.size _ (w.heap.size + 1) 110 _ #[.int .u16 (max t0 1), .int .u16 (max t2 1), .int .u32 q4, .int .u32 q8, .int .u8 F, .int .u16 t12, .int .u16 t14, .slice o.1 (4 * v) o.2] k W ∧ Own W (w.heap.size + 1 + 1) (.slice o.1 (4 * v) o.2) (m8O hd (4 * v))) [10] (GrowR (w.heap.size + 1)) [0, 2, 3, 4, 5, 6, 7, 8, 10, 1, 9, 11] (by kernel_rfl) ⟨hSt.1.drew, hSt.2.drew⟩ ?_
      iterate 8
        apply Walk.one rfl rfl rfl
        case hrun =>
          intro k W hE hF
          have hc := (hE.1.1.get 0 rfl).cell
          have hb6 := hE.1.1.get 1 rfl
          go_wp2_with (first | ((with_reducible refine look_load ?_); refine wpList_load_row rfl _ _ rfl _ rfl _ _ _ _ hb6 Tryz.underlying110 rfl (by kernel_rfl) ?_) | fail)
          exact TextPost.mk ⟨GrowR.refl _ _, hE⟩
        case hv => rfl
      apply Walk.keep 0 rfl rfl rfl rfl
      case hrun =>
        intro W2 hE hF
        have hbR := hE.1.2.2.2
        rw [if_pos rfl] at hbR
        go_wp2_with (first | ((with_reducible refine look_store ?_); refine wpList_store_row rfl _ _ _ rfl _ _ rfl rfl _ _ hbR (by kernel_rfl) (by simp) (by simp [Value.oneCell']) ?_) | fail)
        exact TextPost.mk ⟨grown_setRow _ _ _, hE.1.put, hE.2.growR (grown_setRow _ _ _)⟩
      case hv => rfl
      refine Walk.anyOf (fun g : Nat => .slice (some ⟨g, 0, none⟩) 0 0) sl_injg (fun g W => Own W (w.heap.size + 1 + 1) (.slice (some ⟨g, 0, none⟩) 0 0) []) (fun _ _ _ h hG => h.growR hG) rfl rfl rfl (by kernel_rfl) (by kernel_rfl) ?_ (fun g => ?_)
      · intro k W hE hF
        have hsz := hE.1.2.2.2.lt
        go_wp2_with fail
        exact ⟨W.heap.size, rfl, own_lit W (w.heap.size + 1 + 1) 0 [] _ rfl rfl (by simp [maxLen]) (by omega), GrowR.of ((Below.refl _ _).alloc (Nat.le_refl _) _), hE.1.below ((Below.refl _ _).alloc (Nat.le_refl _) _), hE.2.below ((Below.refl _ _).alloc (Nat.le_refl _) _) (Nat.le_refl _)⟩
      dsimp only [Act.put]
      simp only [List.setIfInBounds_toArray, List.set_cons_succ, List.set_cons_zero]
      refine Walk.anyOf (fun p : Option Addr × Nat => .slice p.1 m p.2) (sl_inj0 m) (fun p W => Own W (w.heap.size + 1 + 1) (.slice p.1 m p.2) (xs.take 100)) (fun _ _ _ h hG => h.growR hG) rfl rfl rfl (by kernel_rfl) (by kernel_rfl) ?_ (fun p => ?_)
      · intro k W hE hF
        have hsz := hE.1.2.2.2.lt
        have hO := hF.head
        have hbel := hE.1.1.1
        go_wp2_with (first | (at_builtin; refine app_fresh rfl _ _ rfl (w.heap.size + 1 + 1) _ rfl hO w.heap.size A m cap (xs.take 100) rfl HL.out.symm (HR.out.below hbel (Nat.le_refl _)) (by have := HL.out; omega) (by omega) ?_; intro v2 w2 o2 l2) | fail)
        obtain ⟨p, rfl⟩ := o2.shape HL.out
        exact ⟨p, rfl, o2, GrowR.of l2, hE.1.below l2, hE.2.below l2 (Nat.le_refl _)⟩
      dsimp only [Act.put]
      simp only [List.setIfInBounds_toArray, List.set_cons_succ, List.set_cons_zero]
      apply Walk.one rfl rfl rfl
      case hrun =>
        intro k W hE hF
        go_wp2_with fail
        exact TextPost.mk ⟨GrowR.refl _ _, hE⟩
      case hv => rfl
      refine Walk.done (fun W hE hF => ?_)
      have hbR := hE.1.2.2.2
      have ho1 := hE.2
      have ho2 := hF.head
      have hbW := hE.1.1.1
      clear hE hF hSt
      go_wp2_with fail
      exact bodyPost_ret (results_cell_tmp Tryz.results37 _ _ _ _ _ _ _ rfl hbR Tryz.underlying110 rfl (by kernel_rfl)) rfl ⟨F, o, p, hF1, hF2, rfl, ho1.base_le (by omega), ho2.base_le (by omega), hbW⟩
end Go.Proofs.YtebeekjcepjcnaaGreatDoor
