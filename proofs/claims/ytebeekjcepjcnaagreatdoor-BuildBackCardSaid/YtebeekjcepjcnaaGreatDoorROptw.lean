/-
  opts.Write at options that are right.
-/
import Derived.Test.YtebeekjcepjcnaaGreatDoorRMade6p
namespace Go.Proofs.YtebeekjcepjcnaaGreatDoor
open Go.RowKit
/-- A slice of options: kinds and data. -/
def OEAt (W : World) (B : Nat) (A : Option Addr) (os : List OE) : Prop :=
  ∀ j o, os[j]? = some o → ∃ b off, A = some ⟨b, off, none⟩ ∧ b < B ∧ W.cell? ⟨b, off + j * 2, none⟩ = some (.int .u8 o.k) ∧ W.cell? ⟨b, off + j * 2 + 1, none⟩ = some (.slice o.A o.d.length o.c) ∧ Rd W B o.A .u8 o.d
theorem OEAt.below {W W' : World} {B C : Nat} {A : Option Addr} {os : List OE} (h : OEAt W B A os) (hb : Below C W W') (hC : B ≤ C) : OEAt W' B A os := fun j o ho => by
  obtain ⟨b, off, e, hB, h1, h2, h3⟩ := h j o ho
  exact ⟨b, off, e, hB, (hb.cell (p := ⟨b, off + j * 2, none⟩) (by show b < C; omega)).trans h1, (hb.cell (p := ⟨b, off + j * 2 + 1, none⟩) (by show b < C; omega)).trans h2, h3.below hb hC⟩
theorem OEAt.more {W : World} {B C : Nat} {A : Option Addr} {os : List OE} (h : OEAt W B A os) (hC : B ≤ C) : OEAt W C A os := fun j o ho => by
  obtain ⟨b, off, e, hB, h1, h2, h3⟩ := h j o ho
  exact ⟨b, off, e, by omega, h1, h2, h3.more hC⟩
theorem oeC_get : ∀ (os : List OE) (j : Nat) (o : OE), os[j]? = some o → (oeC os)[j * 2]? = some (.int .u8 o.k) ∧ (oeC os)[j * 2 + 1]? = some (.slice o.A o.d.length o.c)
  | [], j, o, h => by simp at h
  | p :: os, 0, o, h => by
    obtain rfl : p = o := by simpa using h
    exact ⟨rfl, rfl⟩
  | p :: os, j + 1, o, h => by
    have := oeC_get os j o (by simpa using h)
    rw [show (j + 1) * 2 = j * 2 + 1 + 1 by omega]
    exact this
theorem M6.at_ {w W : World} {k tot : Nat} {os : List OE} {v : Value} (h : M6 w k os v tot W) : ∃ A cap, v = .slice A os.length cap ∧ os.length ≤ cap ∧ OEAt W W.heap.size A os := by
  rcases h.row.2 with ⟨rfl, h0⟩ | ⟨g, cap, cur, rfl, hb, hgg, hcap, _⟩
  · exact ⟨none, 0, by rw [h0], by omega, fun j o ho => by rw [List.getElem?_eq_none (by omega)] at ho; cases ho⟩
  · refine ⟨some ⟨g, 0, none⟩, cap, rfl, hcap, fun j o ho => ?_⟩
    obtain ⟨e1, e2⟩ := oeC_get os j o ho
    have hj : j < os.length := by rcases Nat.lt_or_ge j os.length with h | h; exact h; rw [List.getElem?_eq_none h] at ho; cases ho
    have d1 := World.ownsRow.cellAt h.row (j * 2) (by omega)
    have d2 := World.ownsRow.cellAt h.row (j * 2 + 1) (by omega)
    exact ⟨g, 0, rfl, lt_of_block hgg, by rw [Nat.zero_add, d1, e1], by rw [Nat.zero_add, d2, e2], (h.data o (List.mem_of_getElem? ho)).1.rd⟩
theorem take_snoc_at {os : List OE} {j : Nat} {o : OE} (h : os[j]? = some o) : os.take (j + 1) = os.take j ++ [o] := take_snoc_get h
theorem oeB_snoc (os : List OE) (o : OE) : oeB (os ++ [o]) = oeB os ++ o.bytes := by unfold oeB; rw [List.flatMap_append]; simp
theorem OsOk.take {os : List OE} (h : OsOk os) (j : Nat) : (os.take j).countP (fun o => o.k == 7) ≤ 1 ∧ (os.take j).countP (fun o => o.k == 68) ≤ 1 ∧ (oeB (os.take j)).length ≤ 40 := by
  have e := List.take_append_drop j os
  refine ⟨?_, ?_, ?_⟩
  · have := h.one7; rw [← e, List.countP_append] at this; omega
  · have := h.one68; rw [← e, List.countP_append] at this; omega
  · have := h.len; unfold oeB at *; rw [← e, List.flatMap_append, List.length_append] at this; omega
def vlen : Value → Nat
  | .slice _ n _ => n
  | _ => 0
def WJ (w : World) (os : List OE) (j : Nat) (v : Value) (W : World) : Prop := Below w.heap.size w W ∧ w.heap.size + 1 ≤ W.heap.size ∧ Blk W w.heap.size 106 #[.int .i64 0, .int .i64 ((os.take j).countP fun o => o.k == 7), .int .i64 ((os.take j).countP fun o => o.k == 68), .int .i64 0] ∧ Own W (w.heap.size + 1) v (oeB (os.take j))
set_option maxRecDepth 100000 in
set_option maxHeartbeats 8000000 in
theorem optsWrite_any (A : Option Addr) (cap n : Nat) (os : List OE) (w : World) (hn : os.length = n) (hl : n ≤ 1000) (hok : OsOk os) (hat : OEAt w w.heap.size A os) :
    Calls Tryz.prog 18 #[.slice A n cap] w fun e W => ∃ v, e = .returned (.tuple #[v, .int .i64 0]) ∧ Own W w.heap.size v (oeB os ++ List.replicate ((4 - (oeB os).length % 4) % 4) 0) ∧ Below w.heap.size w W := by
  have HN := Lib.hid hn
  have HO := Lib.hid hok
  have HA := Lib.hid hat
  have hni : (n : Int) ≤ 1000 := by omega
  clear hn hok hat
  go_enter Tryz.func18, Tryz.ntmps18
  go_upto_region 4 with fail
  have H0 : Hid (WJ w os 0 (.slice none 0 0) (w.alloc (.cells #[.int .i64 0, .int .i64 0, .int .i64 0, .int .i64 0] 106))) := Lib.hid ⟨(Below.refl _ _).alloc (Nat.le_refl _) _, by simp, Blk.new _ _ _, Own.nil_ _ _⟩
  generalize w.alloc (.cells #[.int .i64 0, .int .i64 0, .int .i64 0, .int .i64 0] 106) = w1 at *
  go_wp2_with fail
  go_loopw [4, 6, 8, 9, 12] (fun v tw _ _ i W => ∃ j : Nat, j ≤ n ∧ i = .int .i64 j ∧ tw = .bool false ∧ Hid (WJ w os j v W)) (fun _ _ _ _ i _ => n - (intOf i).toNat)
  case atStart => exact ⟨0, by omega, rfl, rfl, H0⟩
  case round =>
    obtain ⟨j, hj, rfl, rfl, hJ⟩ := hrel
    rename World => wo
    clear H0
    by_cases hlt : j < n
    · have e1 : decide ((j : Int) < n) = true := by simp; omega
      have e2 : decide (j < n) = true := by simp; omega
      obtain ⟨o, ho⟩ : ∃ o, os[j]? = some o := ⟨_, List.getElem?_eq_getElem (by have := HN.out; omega)⟩
      obtain ⟨b, off, rfl, hbB, q0, q1, hrd⟩ := HA.out.below hJ.out.1 (Nat.le_refl _) j o ho
      have HRo := Lib.hid (HO.out.right o (List.mem_of_getElem? ho))
      have HSn := Lib.hid (take_snoc_at ho)
      have HTk := Lib.hid (HO.out.take (j + 1))
      rw [HSn.out, count_snoc, count_snoc, oeB_snoc] at HTk
      have HRd := Lib.hid hrd
      have hji : (j : Int) < n := by omega
      have hj1000 : (j : Int) ≤ 1000 := by omega
      clear ho hrd
      obtain ⟨K, oA, oc, D⟩ := o
      dsimp only at q0 q1 HRo HRd HTk
      obtain ⟨L, hL⟩ : ∃ L : Nat, D.length = L := ⟨_, rfl⟩
      rw [hL] at q1
      have HLD := Lib.hid hL
      have hL38 : L ≤ 40 := by
        have := HTk.out.2.2
        rw [List.length_append, OE.bytes_len] at this
        dsimp only at this
        have h1 := HRo.out.1
        by_cases hk1 : K = 1
        · rw [hk1] at h1
          unfold optRight at h1
          rw [if_pos (.inr rfl)] at h1
          have h2 : D.length = 0 := by simp at h1; simp [h1]
          omega
        · rw [if_neg hk1] at this
          omega
      have HRt := Lib.hid (fun (W : World) (h : Rd W W.heap.size oA .u8 D) => optRight_any K oA oc L D W hL (by omega) HRo.out.2.1 h)
      rw [HRo.out.1] at HRt
      have HGp := Lib.hid (fun (W : World) => optGroup_any K W)
      clear hL
      go_upto_region 7 with (first | ((with_reducible refine look_store ?_); refine wpList_store_new rfl _ _ _ rfl _ _ rfl rfl _ _ rfl (by kernel_rfl) (by simp) (by simp [Value.oneCell']) ?_) | fail)
      refine wp_name1 ?_
      intro w2 hb2 hs2 b8
      have B8 := Lib.hid b8
      have J2 : Hid (WJ w os j u4 w2) := Lib.hid ⟨hJ.out.1.trans (hb2.mono hJ.out.1.size), by have := hJ.out.2.1; have := hb2.size; omega, hJ.out.2.2.1.below hb2 hJ.out.2.2.1.lt, hJ.out.2.2.2.below hb2 (Nat.le_refl _)⟩
      have R2 := Lib.hid (HRt.out w2 ((HRd.out.below hb2 (by have := hJ.out.1.size; omega)).more (by have := hJ.out.1.size; have := hb2.size; omega)))
      have HRd2 := Lib.hid (HRd.out.below hb2 (by have := hJ.out.1.size; omega))
      have Z8 : Hid (w.heap.size + 1 ≤ wo.heap.size) := Lib.hid hJ.out.2.1
      have HOB : Hid (∀ z, u4.ownBlock = some z → z < wo.heap.size) := Lib.hid fun z e => (hJ.out.2.2.2.lt e).2
      clear hb2 hs2 q0 q1 HRt HRd hJ b8
      have hb8 := B8.out
      go_wp2_with (first | ((with_reducible refine look_load ?_); refine wpList_load_row rfl _ _ rfl _ rfl _ _ _ _ hb8 Tryz.underlying104 rfl (by kernel_rfl) ?_) | fail)
      refine R2.out.mono ?_
      rintro e w3 ⟨rfl, l3⟩
      have B83 := Lib.hid (B8.out.below l3 B8.out.lt)
      have J3 : Hid (WJ w os j u4 w3) := Lib.hid ⟨J2.out.1.trans (l3.mono J2.out.1.size), by have := J2.out.2.1; have := l3.size; omega, J2.out.2.2.1.below l3 J2.out.2.2.1.lt, J2.out.2.2.2.below l3 (Nat.le_refl _)⟩
      have HRd3 := Lib.hid (HRd2.out.below l3 (by have := J2.out.1.size; omega))
      clear l3 B8 J2 R2 HRd2 hb8
      have hc8 := B83.out.cell
      go_wp2_with fail
      refine (HGp.out w3).mono ?_
      rintro e w4 ⟨rfl, rfl⟩
      have HCl := Lib.hid (show (K = 7 ∧ optGroup K = 1) ∨ (K = 68 ∧ optGroup K = 2) ∨ (K ≠ 7 ∧ K ≠ 68 ∧ optGroup K = 0) by
        have h3 := HRo.out.2.2.2.2
        by_cases a : K = 7
        · subst a; exact .inl ⟨rfl, rfl⟩
        · by_cases b : K = 68
          · subst b; exact .inr (.inl ⟨rfl, rfl⟩)
          · refine .inr (.inr ⟨a, b, ?_⟩)
            unfold optGroup at h3 ⊢
            rw [if_neg a, if_neg b] at h3 ⊢
            split at h3
            · exact absurd rfl h3
            · split at h3
              · exact absurd rfl h3
              · rename_i h1 h2; rw [if_neg h1, if_neg h2])
      have HC1 := Lib.hid HTk.out.1
      have HC2 := Lib.hid HTk.out.2.1
      have HL40 := Lib.hid HTk.out.2.2
      clear HTk HGp
      obtain ⟨c7, hc7⟩ : ∃ c7 : Nat, (os.take j).countP (fun o => o.k == 7) = c7 := ⟨_, rfl⟩
      obtain ⟨c68, hc68⟩ : ∃ c68 : Nat, (os.take j).countP (fun o => o.k == 68) = c68 := ⟨_, rfl⟩
      rw [hc7] at HC1
      rw [hc68] at HC2
      try dsimp only at HC1 HC2
      have HM := Lib.hid J3.out.2.2.1
      rw [hc7, hc68] at HM
      have Hc7 := Lib.hid hc7
      have Hc68 := Lib.hid hc68
      clear hc7 hc68
      obtain ⟨gk, hgk⟩ : ∃ gk : Nat, optGroup K = gk := ⟨_, rfl⟩
      rw [hgk] at HCl ⊢
      clear hgk
      go_upto_if 23 with fail
      go_cut [6] (fun s6 wx => s6 = .bool false ∧ Hid (Below w.heap.size w wx ∧ w.heap.size + 1 ≤ wx.heap.size ∧ Blk wx w.heap.size 106 #[.int .i64 0, .int .i64 (((os.take (j + 1)).countP fun o => o.k == 7 : Nat) : Int), .int .i64 (((os.take (j + 1)).countP fun o => o.k == 68 : Nat) : Int), .int .i64 0] ∧ Own wx (w.heap.size + 1) u4 (oeB (os.take j)) ∧ Blk wx wo.heap.size 104 #[.int .u8 K, .slice oA L oc] ∧ Rd wx w.heap.size oA .u8 D ∧ w3.grownBy wx (some w.heap.size)))
      case first =>
        have hmc := HM.out.cell
        have hmf := HM.out.frozen
        have hcl := HCl.out
        rcases hcl with ⟨rfl, rfl⟩ | ⟨rfl, rfl⟩ | ⟨k7, k68, rfl⟩
        · have hcz : c7 = 0 := by have := HC1.out; simp at this; omega
          subst hcz
          go_wp2_with fail
          go_meet
          refine ⟨by first | rfl | simp, Lib.hid ⟨J3.out.1.setCell (p := ⟨w.heap.size, 1, none⟩) (Nat.le_refl _) _, by simpa using J3.out.2.1, ?_, J3.out.2.2.2.setCell_far (a := ⟨w.heap.size, 1, none⟩) (fun e => by have h := (J3.out.2.2.2.lt e).1; simp only at h; omega) _, B83.out.far (p := ⟨w.heap.size, 1, none⟩) (by have := Z8.out; show wo.heap.size ≠ w.heap.size; omega) _, HRd3.out.setCell (p := ⟨w.heap.size, 1, none⟩) (Nat.le_refl _) _, grown_set6 _ _ _⟩⟩
          rw [HSn.out, count_snoc, count_snoc, Hc7.out, Hc68.out]
          exact HM.out.set 1 _
        · have hcz : c68 = 0 := by have := HC2.out; simp at this; omega
          subst hcz
          go_wp2_with fail
          go_meet
          refine ⟨by first | rfl | simp, Lib.hid ⟨J3.out.1.setCell (p := ⟨w.heap.size, 2, none⟩) (Nat.le_refl _) _, by simpa using J3.out.2.1, ?_, J3.out.2.2.2.setCell_far (a := ⟨w.heap.size, 2, none⟩) (fun e => by have h := (J3.out.2.2.2.lt e).1; simp only at h; omega) _, B83.out.far (p := ⟨w.heap.size, 2, none⟩) (by have := Z8.out; show wo.heap.size ≠ w.heap.size; omega) _, HRd3.out.setCell (p := ⟨w.heap.size, 2, none⟩) (Nat.le_refl _) _, grown_set6 _ _ _⟩⟩
          rw [HSn.out, count_snoc, count_snoc, Hc7.out, Hc68.out]
          exact HM.out.set 2 _
        · go_wp2_with fail
          go_meet
          refine ⟨by first | rfl | simp, Lib.hid ⟨J3.out.1, J3.out.2.1, ?_, J3.out.2.2.2, B83.out, HRd3.out, grown_of_below (Below.refl _ _)⟩⟩
          rw [HSn.out, count_snoc, count_snoc, Hc7.out, Hc68.out, if_neg k7, if_neg k68]
          exact HM.out
      case rest =>
        rename World => w5
        obtain ⟨rfl, hcut⟩ := hcut
        clear hc8 J3 HM HRd3 B83 HC1 HC2 Hc7 Hc68 HCl
        obtain ⟨A4, c4, rfl, _, hca, hcb⟩ := hcut.out.2.2.2.1.open_
        obtain ⟨T4, hT4⟩ : ∃ T4 : Nat, (oeB (os.take j)).length = T4 := ⟨_, rfl⟩
        have HT4 := Lib.hid hT4
        have HOB2 := HOB
        rw [hT4] at hcut HOB2 ⊢
        clear HOB
        have HLb := Lib.hid (show T4 + (⟨K, oA, oc, D⟩ : OE).bytes.length ≤ 40 by have := HL40.out; rw [List.length_append] at this; omega)
        have hT40 : T4 ≤ 40 := by have := HLb.out; omega
        have e5 : decide ((40 : Int) < (T4 : Int)) = false := by simp; omega
        have e6 : decide (40 < T4) = false := by simp; omega
        clear hT4 hca hcb HL40
        have hc8 := hcut.out.2.2.2.2.1.cell
        have hlt8 : wo.heap.size < w5.heap.size := hcut.out.2.2.2.2.1.lt
        have hc8a := fun o i => (World.cell?_alloc_lt w5 o ⟨wo.heap.size, i, none⟩ hlt8).trans (hc8 i)
        go_upto_region 15 with (first | (at_builtin; refine app_own rfl _ _ rfl (w.heap.size + 1) _ (oeB (os.take j)) rfl (hcut.out.2.2.2.1.alloc _) _ (some ⟨w5.heap.size, 0, none⟩) 1 1 [K] rfl rfl (Rd.new _ _ _ _) (by have := HT4.out; simp; omega) (by have := hcut.out.2.1; simp; omega) ?_; intro v6 w6 o6 l6 g6 a6; obtain ⟨p6, rfl⟩ := o6.shape (m := T4 + 1) (by have := HT4.out; simp; omega); have hF6 := Lib.hid (show Below w.heap.size w w6 ∧ w.heap.size + 1 ≤ w6.heap.size ∧ Blk w6 w.heap.size _ _ ∧ Own w6 (w.heap.size + 1) _ (oeB (os.take j) ++ [K]) ∧ Blk w6 wo.heap.size 104 #[.int .u8 K, .slice oA L oc] ∧ Rd w6 w.heap.size oA .u8 D from ⟨(hcut.out.1.alloc (by have := hcut.out.2.1; omega) _).trans (l6.mono (by omega)), by have h3 := g6.size; have := hcut.out.2.1; simp at h3; omega, (hcut.out.2.2.1.alloc _).grown g6 (fun e => by have := (hcut.out.2.2.2.1.lt e.symm).1; omega), o6, (hcut.out.2.2.2.2.1.alloc _).grown g6 (fun e => by have := HOB2.out _ e.symm; omega), (hcut.out.2.2.2.2.2.1.alloc (by have := hcut.out.2.1; omega) _).below l6 (by omega)⟩); have A6 := Lib.hid a6; clear o6 l6 g6 a6) | fail)
        have HOB3 : Hid (∀ z, (Value.slice p6.1 (T4 + 1) p6.2).ownBlock = some z → z ≠ wo.heap.size) := Lib.hid fun z e => by
          rcases A6.out with h | h
          · rw [h] at e
            have := HOB2.out z e
            omega
          · rw [h] at e
            injection e with e
            simp at e
            omega
        have HSn2 : Hid (oeB (os.take (j + 1)) = oeB (os.take j) ++ (⟨K, oA, oc, D⟩ : OE).bytes) := Lib.hid (by rw [HSn.out, oeB_snoc])
        clear hc8 hc8a hlt8 hcut HSn
        have hc6 := hF6.out.2.2.2.2.1.cell
        by_cases hK1 : K = 1
        · subst hK1
          go_wp2_with fail
          go_roundw
          case rel =>
            refine ⟨j + 1, by omega, by go_num, rfl, Lib.hid ⟨hF6.out.1, hF6.out.2.1, hF6.out.2.2.1, ?_⟩⟩
            rw [HSn2.out]
            exact hF6.out.2.2.2.1
          case measure => simp [intOf]; omega
        · have n1 : (K != 1) = true := by simpa using hK1
          have HE : Hid (oeB (os.take j) ++ (⟨K, oA, oc, D⟩ : OE).bytes = oeB (os.take j) ++ [K] ++ [(L : Int) + 2] ++ D) := Lib.hid (by
            rw [show (⟨K, oA, oc, D⟩ : OE).bytes = K :: ((D.length : Int) + 2) :: D from if_neg hK1, HLD.out]
            simp)
          have hLi : (L : Int) ≤ 40 := by omega
          have hwl : IntKind.u8.wrap ((L : Int) + 2) = (L : Int) + 2 := by rw [IntKind.wrap_u8]; omega
          have hwi : IntKind.i64.wrap ((L : Int) + 2) = (L : Int) + 2 := by rw [IntKind.wrap_i64]; omega
          have HLD2 := HLD
          go_wp2_with fail
          have hlw : wo.heap.size < w6.heap.size := hF6.out.2.2.2.2.1.lt
          go_region_law (first | (refine step_app_own rfl (.tmp 47) (.tmp 53) rfl (w.heap.size + 1) _ (oeB (os.take j) ++ [K]) rfl (Own.alloc hF6.out.2.2.2.1.drew _) _ (some ⟨w6.heap.size, 0, none⟩) 1 1 [(L : Int) + 2] rfl rfl (Rd.new _ _ _ _) (by have := HT4.out; simp; omega) (by have := hF6.out.2.1; simp; omega) ?_; intro v7 w7 o7 l7 g7 a7; obtain ⟨p7, rfl⟩ := o7.shape (m := T4 + 2) (by have := HT4.out; simp; omega); have c7 := ((hF6.out.2.2.2.2.1.drew.alloc _).grown g7 (fun e => by have := HOB3.out _ e.symm; omega)).cell 1) | (refine step_app_own rfl (.tmp 54) (.tmp 56) rfl (w.heap.size + 1) _ (oeB (os.take j) ++ [K] ++ [(L : Int) + 2]) rfl o7 w.heap.size oA L oc D rfl HLD.out.symm ((hF6.out.2.2.2.2.2.drew.alloc (by have := hF6.out.2.1; show w.heap.size ≤ w6.heap.size; omega) _).below l7 (by omega)) (by have := HT4.out; have := HLD.out; simp; omega) (by have h3 := g7.size; have := hF6.out.2.1; simp at h3; omega) ?_; intro v8 w8 o8 l8 g8 a8))
          all_goals
            have HX := Lib.hid (show Below w.heap.size w w8 ∧ w.heap.size + 1 ≤ w8.heap.size ∧ Blk w8 w.heap.size 106 _ from ⟨((hF6.out.1.drew.alloc (by have := hF6.out.2.1; show w.heap.size ≤ w6.heap.size; omega) _).trans (l7.mono (by omega))).trans (l8.mono (by omega)), by have h3 := g7.size; have h4 := g8.size; have := hF6.out.2.1; simp at h3; omega, ((hF6.out.2.2.1.drew.alloc _).below l7 (by omega)).below l8 (by omega)⟩)
            have O8 := Lib.hid o8
            clear o7 l7 g7 a7 c7 o8 l8 g8 a8
            go_wp2_with fail
            go_roundw
            case rel => exact ⟨j + 1, by omega, by go_num, rfl, Lib.hid ⟨HX.out.1, HX.out.2.1, HX.out.2.2, by rw [HSn2.out, HE.out]; exact O8.out⟩⟩
            case measure => simp [intOf]; omega
    · obtain rfl : j = n := by omega
      obtain ⟨hb1, hz1, _, ho1⟩ := hJ.out
      rw [List.take_of_length_le (by rw [HN.out]; exact Nat.le_refl _)] at ho1
      obtain ⟨T, hT⟩ : ∃ T : Nat, (oeB os).length = T := ⟨_, rfl⟩
      have hT40 : T ≤ 40 := by rw [← hT]; exact HO.out.len
      obtain ⟨Z, hZ⟩ : ∃ Z : Nat, (4 - T % 4) % 4 = Z := ⟨_, rfl⟩
      have HZ := Lib.hid hZ
      have HT := Lib.hid hT
      obtain ⟨A4, c4, rfl, _, _, _⟩ := ho1.open_
      rw [hT] at ho1 ⊢
      have hS0 := Lib.hid (show Below w.heap.size w wo ∧ w.heap.size + 1 ≤ wo.heap.size ∧ Own wo (w.heap.size + 1) (.slice A4 T c4) (oeB os ++ List.replicate 0 0) from ⟨hb1, hz1, by simpa using ho1⟩)
      have e5 : decide ((40 : Int) < (T : Int)) = false := by simp; omega
      have e6 : decide (40 < T) = false := by simp; omega
      clear hJ hb1 hz1 ho1 hT
      go_wp2_with fail
      go_loopw [4] (fun v W => ∃ z : Nat, z ≤ Z ∧ Hid (Below w.heap.size w W ∧ w.heap.size + 1 ≤ W.heap.size ∧ Own W (w.heap.size + 1) v (oeB os ++ List.replicate z 0))) (fun v _ => 44 - vlen v)
      case atStart => exact ⟨0, by omega, hS0⟩
      case round =>
        obtain ⟨z, hz, hS⟩ := hrel
        rename World => wz
        clear hS0
        obtain ⟨A5, c5, rfl, _, _, _⟩ := hS.out.2.2.open_
        have hlen : (oeB os ++ List.replicate z (0 : Int)).length = T + z := by rw [List.length_append, List.length_replicate, HT.out]
        rw [hlen] at hS ⊢
        obtain ⟨M, hM⟩ : ∃ M : Nat, T + z = M := ⟨_, rfl⟩
        rw [hM] at hS ⊢
        have HM := Lib.hid hM
        obtain ⟨q, hq, hq2⟩ : ∃ q : Nat, (M : Int).tmod 4 = (q : Int) ∧ M % 4 = q := ⟨M % 4, by rw [Int.tmod_eq_emod_of_nonneg (by omega)]; rfl, rfl⟩
        by_cases hzz : z < Z
        · have hq0 : 0 < q := by omega
          have e7 : decide ((0 : Int) < (q : Int)) = true := by simp; omega
          have e8 : decide (0 < q) = true := by simp; omega
          have hM43 : M ≤ 43 := by omega
          have HLn := Lib.hid hlen
          clear hq2 hM hlen
          go_wp2_with (first | (at_builtin; refine app_own rfl _ _ rfl (w.heap.size + 1) _ (oeB os ++ List.replicate z 0) rfl (hS.out.2.2.alloc _) _ (some ⟨wz.heap.size, 0, none⟩) 1 1 [0] rfl rfl (Rd.new _ _ _ _) (by have h1 := HLn.out; have h2 := HM.out; simp at h1 ⊢; omega) (by have := hS.out.2.1; simp; omega) ?_; intro v6 w6 o6 l6 g6 a6; obtain ⟨p6, rfl⟩ := o6.shape (m := M + 1) (by have h1 := HLn.out; have h2 := HM.out; simp at h1 ⊢; omega)) | fail)
          have HF := Lib.hid (show Below w.heap.size w w6 ∧ w.heap.size + 1 ≤ w6.heap.size ∧ Own w6 (w.heap.size + 1) (.slice p6.1 (M + 1) p6.2) (oeB os ++ List.replicate (z + 1) 0) from ⟨(hS.out.1.alloc (by have := hS.out.2.1; omega) _).trans (l6.mono (by omega)), by have h3 := g6.size; have := hS.out.2.1; simp at h3; omega, by rw [List.replicate_succ', ← List.append_assoc]; exact o6⟩)
          clear o6 l6 g6 a6
          go_roundw
          case rel => exact ⟨z + 1, by omega, HF⟩
          case measure => simp [vlen]; omega
        · have hz2 : z = Z := by omega
          have hq0 : q = 0 := by omega
          subst hq0
          subst hz2
          clear hq2 hM hlen
          go_wp2_with fail
          go_ret2
          exact ⟨_, rfl, by rw [HT.out, HZ.out]; exact hS.out.2.2.base_le (by omega), hS.out.1⟩
end Go.Proofs.YtebeekjcepjcnaaGreatDoor
