/-
  bafflelaw11.Made.
-/
import Derived.Test.YtebeekjcepjcnaaGreatDoorRMade11p
import Derived.Test.YtebeekjcepjcnaaGreatDoorRContq
import Derived.Test.YtebeekjcepjcnaaGreatDoorRMade6
namespace Go.Proofs.YtebeekjcepjcnaaGreatDoor
open Go.RowKit
/-- The first region, in any order. -/
def M11E (w : World) (cs row : Array Value) (c : Nat) (W : World) : Prop := Below w.heap.size w W ∧ Blk W w.heap.size 34 cs ∧ Blk W (w.heap.size + 1) 37 #[.int .u8 0, .int .u16 0, .bool false, .bool false, .int .i64 0, .int .u8 0, .int .u8 0, .int .u32 0, .int .u32 0, .slice none 0 0] ∧ Blk W (w.heap.size + 2) 41 #[.int .u8 0, .int .u32 0, .int .u32 0, .int .u16 0, .int .u16 0, .int .u8 0, .int .u8 0, .int .u8 0, .int .u8 0, .int .u32 0, .int .u32 0, .int .i64 0, .int .i64 0, .int .u8 0, .int .u32 0, .int .u32 0, .int .u16 0, .int .u16 0, .int .u8 0] ∧
  (if c = 0 then W.heap.size = w.heap.size + 3 else Blk W (w.heap.size + 3) 37 (if c = 1 then #[.int .u8 0, .int .u16 0, .bool false, .bool false, .int .i64 0, .int .u8 0, .int .u8 0, .int .u32 0, .int .u32 0, .slice none 0 0] else row))
theorem M11E.drew {w W : World} {cs row : Array Value} {c : Nat} (h : M11E w cs row c W) : M11E w cs row c W.drew := by
  obtain ⟨h1, h2, h3, h4, h5⟩ := h
  refine ⟨h1.drew, h2.drew, h3.drew, h4.drew, ?_⟩
  split at h5 <;> rename_i hc <;> simp only [hc, if_true, if_false] <;> exact h5
theorem M11E.alloc {w W : World} {cs row : Array Value} (h : M11E w cs row 0 W) : W.heap.size = w.heap.size + 3 ∧ M11E w cs row 1 (W.alloc (.cells #[.int .u8 0, .int .u16 0, .bool false, .bool false, .int .i64 0, .int .u8 0, .int .u8 0, .int .u32 0, .int .u32 0, .slice none 0 0] 37)) := by
  obtain ⟨h1, h2, h3, h4, h5⟩ := h
  rw [if_pos rfl] at h5
  refine ⟨h5, h1.alloc (by omega) _, h2.alloc _, h3.alloc _, h4.alloc _, ?_⟩
  rw [if_neg (by decide), if_pos rfl]
  exact Blk.next h5 _ _
theorem M11E.put {w W : World} {cs row : Array Value} (h : M11E w cs row 1 W) : M11E w cs row 2 (W.setRow (w.heap.size + 3) row) := by
  obtain ⟨h1, h2, h3, h4, h5⟩ := h
  rw [if_neg (by decide), if_pos rfl] at h5
  have hs : St w w.heap.size [(w.heap.size, _, _), (w.heap.size + 1, _, _), (w.heap.size + 2, _, _)] W := (((St.nil h1 h1.size).cons h4).cons h3).cons h2
  have hs2 := hs.rowFar (R := w.heap.size + 3) (by omega) (by simp) row
  refine ⟨hs2.1, hs2.get 0 rfl, hs2.get 1 rfl, hs2.get 2 rfl, ?_⟩
  rw [if_neg (by decide), if_neg (by decide)]
  exact setRow_heap _ _ _ _ _ _ h5
theorem M11E.done {w W : World} {cs row : Array Value} (h : M11E w cs row 2 W) : M11B w cs row W := by
  obtain ⟨h1, h2, h3, h4, h5⟩ := h
  rw [if_neg (by decide), if_neg (by decide)] at h5
  exact ⟨h1, by have := h5.lt; omega, h2, h3, h4, h5⟩
theorem own_rows0 {W : World} {base g : Nat} (hg : g = W.heap.size) (hb : base ≤ W.heap.size) : (W.alloc (.cells #[] 62)).ownsRow base 62 4 (.slice (some ⟨g, 0, none⟩) 0 0) 0 [] := by
  subst hg
  exact ⟨rfl, .inr ⟨W.heap.size, 0, #[], rfl, hb, heap_alloc_new W _, Nat.le_refl _, by simp [maxLen], rfl, rfl⟩⟩
theorem rows_shape {W : World} {base n : Nat} {t : TypeId} {s : Nat} {v : Value} {l : List Value} (h : W.ownsRow base t s v n l) : ∃ A c, v = .slice A n c ∧ n ≤ c ∧ (0 < n → ∃ g, A = some ⟨g, 0, none⟩ ∧ base ≤ g ∧ g < W.heap.size) := by
  rcases h.2 with ⟨rfl, rfl⟩ | ⟨g, cap, cur, rfl, hb, hg, hc, _⟩
  · exact ⟨none, 0, rfl, Nat.le_refl _, fun h => by omega⟩
  · exact ⟨_, _, rfl, hc, fun _ => ⟨g, rfl, hb, lt_of_block hg⟩⟩
theorem osm_of_row {W : World} {base k c : Nat} {A : Option Addr} {l : List OSm} (h : W.ownsRow base 62 4 (.slice A k c) k (osC l)) (hl : l.length = k) (hd : ∀ x ∈ l, x.Ok ∧ Rd W W.heap.size x.A .u8 x.bytes) : OSmAt W W.heap.size A l := fun j x hx => by
  obtain ⟨A', c', e, _, hf⟩ := rows_shape h
  cases e
  have hj : j < l.length := (List.getElem?_eq_some_iff.1 hx).1
  obtain ⟨g, rfl, _, hgs⟩ := hf (by omega)
  obtain ⟨d1, d2⟩ := hd x (List.mem_of_getElem? hx)
  refine ⟨d1, g, 0, rfl, hgs, fun i u hu => ?_, d2⟩
  have hi : i < 4 := (List.getElem?_eq_some_iff.1 hu).1
  rw [Nat.zero_add, World.ownsRow.cellAt h (j * 4 + i) (by omega), osC_at l j i x hx hi, hu]

set_option maxRecDepth 100000 in
set_option maxHeartbeats 16000000 in
theorem made11_any (x : Sm) (hx : x.Ok) (w : World) (hA : SmAt w w.heap.size x) (hT : Tabs w) (hs : SortsAt w) :
    Calls Tryz.prog 6 #[x.val] w (Made11Post x w) := by
  obtain ⟨s0, s1⟩ := hx.src
  obtain ⟨d0, d1⟩ := hx.dst
  have hon := hx.ol.1
  have hoc := hx.ol.2
  have HH1 := Lib.hid (fun W => host_any x.src W s0 s1)
  have HH2 := Lib.hid (fun W => host_any x.dst W d0 d1)
  have HH3 := Lib.hid (fun W => host_any ((x.dst + 1) % 4294967296) W (by omega) (by omega))
  have hw3 : IntKind.u32.wrap (x.dst + 1) = (x.dst + 1) % 4294967296 := IntKind.wrap_u32 _
  obtain ⟨k, hk⟩ : ∃ k : Nat, k = min x.on 6 := ⟨_, rfl⟩
  have hmi : min (x.on : Int) 6 = (k : Int) := by omega
  have hmc : (k : Int) ≤ x.oc := by omega
  have hk6 : k ≤ 6 := by omega
  have hkl : k = (x.os.take k).length := by rw [List.length_take]; omega
  have HX := Lib.hid hx
  have HA := Lib.hid hA
  have HKL := Lib.hid hkl
  clear hx hA hon hoc hk hkl
  have HC := Lib.hid (fun (W : World) (kk : Int) (k0 : 0 ≤ kk) (k4 : kk < 4) (hb : Below w.heap.size w W) => content_any kk x HX.out (hostI x.src) (dstI x.src x.dst) W k0 k4 (by have := hostI_bd x.src; omega) (by have := hostI_bd x.src; omega) (by have := dstI_ne x.src x.dst d0 d1; omega) (by have := dstI_ne x.src x.dst d0 d1; omega) ((HA.out.below hb (Nat.le_refl _)).more hb.size) (hT.below hb (Nat.le_refl _)) (hs.below hb (Nat.le_refl _)))
  clear hT hs
  dsimp only [Sm.val, Sm.cells] at HC
  dsimp only [Sm.val, Sm.cells]
  go_enter Tryz.func6, Tryz.ntmps6
  go_upto_region 1 with fail
  refine wp_name3 ?_
  intro w1 hb1 hs1 bx b1 b2
  have hE0 : M11E w _ #[.int .u8 x.tos, .int .u16 x.id, .bool x.df, .bool false, .int .i64 0, .int .u8 (max x.ttl 1), .int .u8 0, .int .u32 (hostI x.src), .int .u32 (hostI x.dst), .slice none 0 0] 0 w1 := ⟨hb1, bx, b1, b2, hs1⟩
  clear hb1 hs1 bx b1 b2
  refine wp_region_walk0 (by kernel_rfl) (M11E w _ #[.int .u8 x.tos, .int .u16 x.id, .bool x.df, .bool false, .int .i64 0, .int .u8 (max x.ttl 1), .int .u8 0, .int .u32 (hostI x.src), .int .u32 (hostI x.dst), .slice none 0 0]) [16, 17] GTop [0, 1, 2, 3, 4, 5, 6, 7, 8, 9, 10, 11, 12, 13, 14, 15, 16, 17] (by kernel_rfl) (M11E.drew hE0) ?_
  iterate 16
    apply Walk.one rfl rfl rfl
    case hrun =>
      intro c W hE hF
      have hc := hE.2.1.cell
      go_wp2_with (first | (go_at_call 16; first | (refine (HH1.out _).mono ?_; rintro e w9 ⟨rfl, rfl⟩) | (refine (HH2.out _).mono ?_; rintro e w9 ⟨rfl, rfl⟩)) | fail)
      exact TextPost.mk ⟨GTop.mk, hE⟩
    case hv => rfl
  apply Walk.store 0 (ops_at rfl) rfl rfl rfl
  case hrun =>
    intro W hE hF
    obtain ⟨hz, hE1⟩ := M11E.alloc hE
    go_wp2_with fail
    exact TextPost.mk ⟨GTop.mk, hE1⟩
  case hv => rfl
  apply Walk.keep 1 rfl rfl rfl rfl
  case hrun =>
    intro W hE hF
    have hbR := hE.2.2.2.2
    rw [if_neg (by decide), if_pos rfl] at hbR
    go_wp2_with (first | ((with_reducible refine look_store ?_); refine wpList_store_row rfl _ _ _ rfl _ _ rfl rfl _ _ hbR (by kernel_rfl) (by simp) (by simp [Value.oneCell']) ?_) | fail)
    exact TextPost.mk ⟨GTop.mk, M11E.put hE⟩
  case hv => rfl
  refine Walk.done (fun W hE hF => ?_)
  have hM := Lib.hid (M11E.done hE)
  clear hE hF hE0 HH1 HH2
  have hcx := hM.out.2.2.1.cell
  have hch := hM.out.2.2.2.2.2.cell
  go_upto_if 33 with fail
  go_cut [] (fun wx => Hid (M11B w _ #[.int .u8 x.tos, .int .u16 x.id, .bool x.df, .bool false, .int .i64 0, .int .u8 (max x.ttl 1), .int .u8 0, .int .u32 (hostI x.src), .int .u32 (dstI x.src x.dst), .slice none 0 0] wx))
  case first =>
    have hfh := hM.out.2.2.2.2.2.frozen
    by_cases he : hostI x.src = hostI x.dst
    · have e1 : (hostI x.src == hostI x.dst) = true := by simpa using he
      have hst := Lib.hid (hM.out.set 8 (.int .u32 (hostI ((x.dst + 1) % 4294967296))))
      have hdd : dstI x.src x.dst = hostI ((x.dst + 1) % 4294967296) := by unfold dstI; rw [if_pos he]
      clear he
      go_wp2_with (first | (go_at_call 16; refine (HH3.out _).mono ?_; rintro e w9 ⟨rfl, rfl⟩) | fail)
      go_meet
      rw [hdd]
      exact hst
    · have e1 : (hostI x.src == hostI x.dst) = false := by simpa using he
      have hdd : dstI x.src x.dst = hostI x.dst := by unfold dstI; rw [if_neg he]
      clear he
      go_wp2_with fail
      go_meet
      rw [hdd]
      exact hM
  case rest =>
    rename World => w2
    have hM := hcut
    have hcx := hcut.out.2.2.1.cell
    clear hcut HH3 hw3 hch
    have HR := Lib.hid (fun (W : World) (hb : Below w.heap.size w W) (y : OSm) (hy : y ∈ x.os.take k) => (show y.Ok ∧ Rd W w.heap.size y.A .u8 y.bytes from by
      obtain ⟨j, hj⟩ := List.getElem?_of_mem (List.mem_of_mem_take hy)
      obtain ⟨h1, _, _, _, _, _, h2⟩ := (HA.out.below hb (Nat.le_refl _)).os j y hj
      exact ⟨h1, h2⟩))
    have HO := Lib.hid (show OSmAt w w.heap.size x.oA (x.os.take k) from fun j y hy => HA.out.os j y (by
      rw [List.getElem?_take] at hy
      split at hy
      · exact hy
      · cases hy))
    generalize hl : x.os.take k = l at *
    clear hl
    have hm4 := hM.out.2.1
    have hcx2 := fun o => (hM.out.2.2.1.alloc o).cell 7
    go_upto_region 5 with (first | (at_builtin; refine Hid.out ?_) | fail)
    refine Lib.hid ?_
    refine app_rows rfl _ _ rfl (w.heap.size + 4) _ rfl (own_rows0 rfl hm4) (by simp) x.oA k x.oc l rfl HKL.out hk6 ((HO.out.below ((hM.out.1.alloc hM.out.1.size) _) (Nat.le_refl _)).more (by have := hM.out.1.size; simp; omega)) (by simp; omega) ?_
    intro v3 w3 o3 l3 h3
    obtain ⟨A, c, rfl, hkc, hAg⟩ := rows_shape o3
    have hM3 := Lib.hid ((hM.out.next ((Below.refl w2.heap.size w2).alloc (Nat.le_refl _) (.cells #[] 62))).below l3 hm4 (by simp; omega))
    have O3 := Lib.hid o3
    have HG := Lib.hid hAg
    clear hm4 hcx2 o3 l3 h3 hM hcx hAg
    go_wp2_with fail
    go_loopw [7, 8, 50] (fun _ _ i W => ∃ j : Nat, j ≤ k ∧ i = .int .i64 j ∧ Hid (M11B w _ #[.int .u8 x.tos, .int .u16 x.id, .bool x.df, .bool false, .int .i64 0, .int .u8 (max x.ttl 1), .int .u8 0, .int .u32 (hostI x.src), .int .u32 (dstI x.src x.dst), .slice none 0 0] W ∧ W.ownsRow (w.heap.size + 4) 62 4 (.slice A k c) k (osC (fixN l j)))) (fun _ _ i _ => k - (intOf i).toNat)
    case atStart => exact ⟨0, by omega, rfl, Lib.hid ⟨hM3.out, by rw [fixN_zero]; exact O3.out⟩⟩
    case round =>
      obtain ⟨j, hj, rfl, hJ⟩ := hrel
      rename World => wo
      clear hM3 O3
      by_cases hlt : j < k
      · have e1 : decide ((j : Int) < k) = true := by simp; omega
        have e2 : decide (j < k) = true := by simp; omega
        have hjk : (j : Int) < k := by omega
        obtain ⟨y, hy⟩ : ∃ y, l[j]? = some y := ⟨_, List.getElem?_eq_getElem (by have := HKL.out; omega)⟩
        obtain ⟨g, rfl, hg4, _⟩ := HG.out (by omega)
        have hyk := (HR.out w (Below.refl _ _) y (List.mem_of_getElem? hy)).1
        have y0 := hyk.k0
        have hcy := World.ownsRow.cellAt hJ.out.2 (j * 4) (by omega)
        rw [show j * 4 = j * 4 + 0 by omega, osC_at _ j 0 y (fixN_at l j y hy) (by omega)] at hcy
        have hcy2 : wo.cell? ⟨g, j * 4, none⟩ = some (.int .u8 y.kind) := hcy
        have hfy := World.ownsRow.frozenAt hJ.out.2 (j * 4)
        have hsy := Lib.hid (World.ownsRow.stored hJ.out.2 (j * 4) (.int .u8 1)).1
        rw [osC_set _ j y 1 (fixN_at l j y hy)] at hsy
        have hnx := Lib.hid (fixN_next l j y hy)
        have hMs := Lib.hid (hJ.out.1.below ((Below.refl (w.heap.size + 4) wo).setCell (p := ⟨g, j * 4, none⟩) hg4 (.int .u8 1)) (Nat.le_refl _) (by simp))
        have HYS := Lib.hid (show (fixN l j).set j y = fixN l j from by
          have := fixN_at l j y hy
          apply List.ext_getElem?
          intro q
          rw [List.getElem?_set]
          split
          · rename_i h; subst h; rw [this]; split
            · rfl
            · rename_i h2; rw [List.getElem?_eq_none (by omega)] at this; cases this
          · rfl)
        obtain ⟨r, hr1, hr2⟩ : ∃ r : Nat, y.kind.tmod 8 = r ∧ y.kind % 8 = r := ⟨(y.kind % 8).toNat, by rw [Int.tmod_eq_emod_of_nonneg y0]; omega, by omega⟩
        by_cases h23 : r = 2 ∨ r = 3
        · have hfo : fixO y = { y with kind := 1 } := by unfold fixO; rw [if_pos (by omega)]
          have hfin : Hid (M11B w _ #[.int .u8 x.tos, .int .u16 x.id, .bool x.df, .bool false, .int .i64 0, .int .u8 (max x.ttl 1), .int .u8 0, .int .u32 (hostI x.src), .int .u32 (dstI x.src x.dst), .slice none 0 0] (wo.setCell ⟨g, j * 4, none⟩ (.int .u8 1)) ∧ (wo.setCell ⟨g, j * 4, none⟩ (.int .u8 1)).ownsRow (w.heap.size + 4) 62 4 (.slice (some ⟨g, 0, none⟩) k c) k (osC (fixN l (j + 1)))) := Lib.hid ⟨hMs.out, by rw [hnx.out, hfo]; exact hsy.out⟩
          clear hfo hMs hnx hsy HYS hyk hcy hr2 hy
          rcases h23 with rfl | rfl
          all_goals
            go_wp2_with fail
            go_roundw
            case rel => exact ⟨j + 1, by omega, by go_num, hfin⟩
            case measure => simp [intOf]; omega
        · have hfo : fixO y = y := by unfold fixO; rw [if_neg (by omega)]
          have hfin : Hid (M11B w _ #[.int .u8 x.tos, .int .u16 x.id, .bool x.df, .bool false, .int .i64 0, .int .u8 (max x.ttl 1), .int .u8 0, .int .u32 (hostI x.src), .int .u32 (dstI x.src x.dst), .slice none 0 0] wo ∧ wo.ownsRow (w.heap.size + 4) 62 4 (.slice (some ⟨g, 0, none⟩) k c) k (osC (fixN l (j + 1)))) := Lib.hid ⟨hJ.out.1, by rw [hnx.out, hfo, HYS.out]; exact hJ.out.2⟩
          have hn2 : ((r : Int) == 2) = false := by simp; omega
          have hn3 : ((r : Int) == 3) = false := by simp; omega
          clear hfo hMs hnx hsy HYS hyk hcy hr2 hy h23
          go_wp2_with fail
          go_roundw
          case rel => exact ⟨j + 1, by omega, by go_num, hfin⟩
          case measure => simp [intOf]; omega
      · obtain rfl : j = k := by omega
        have e1 : decide ((j : Int) < j) = false := by simp
        have hM := Lib.hid hJ.out.1
        have hrow := hJ.out.2
        rw [fixN_full l j HKL.out.symm] at hrow
        have HM6 := Lib.hid (made6_any A c j j (l.map fixO) wo (by rw [List.length_map]; exact HKL.out.symm) hkc (by omega) (osm_of_row hrow (by rw [List.length_map]; exact HKL.out.symm) (fun z hz => by
          obtain ⟨y, hy, rfl⟩ := List.mem_map.1 hz
          obtain ⟨h1, h2⟩ := HR.out wo hM.out.1 y hy
          refine ⟨fixO_ok h1, ?_⟩
          rw [(fixO_same y).1, (fixO_same y).2]
          exact h2.more hM.out.1.size)) (fun z hz => by
          obtain ⟨y, hy, rfl⟩ := List.mem_map.1 hz
          exact fixO_kind y))
        unfold M6Post at HM6
        clear hrow hJ HO HR HG HKL hlt hj hcx hmi hmc
        go_upto_region 13 with (first | (go_at_call 17; refine HM6.out.mono ?_; rintro e w6 ⟨os, v, tot, rfl, h6⟩) | fail)
        try dsimp only [Act.put]
        have hM6 := Lib.hid (hM.out.next h6.below)
        obtain ⟨A2, c2, rfl, hoc2, hat⟩ := h6.at_
        have hlen6 := h6.len
        have HOk := Lib.hid h6.ok
        have HW := Lib.hid (optsWrite_any A2 c2 os.length os w6 rfl (by omega) h6.ok hat)
        obtain ⟨ol, hol⟩ : ∃ ol, oeB os ++ List.replicate ((4 - (oeB os).length % 4) % 4) 0 = ol := ⟨_, rfl⟩
        rw [hol] at HW
        have HOL := Lib.hid hol
        clear hol
        have hB6 := Lib.hid (show w.heap.size + 4 ≤ w6.heap.size from hM6.out.2.1)
        clear HM6 hM h6 hat e1
        go_upto_region 14 with (first | (go_at_call 18; refine HW.out.mono ?_; rintro e w7 ⟨v, rfl, ho7, hl7⟩; obtain ⟨⟨oA, oc⟩, rfl⟩ := ho7.shape rfl; have hM7 := hM6.out.next hl7; have hf7 := hM7.2.2.2.2.2.frozen 9; have hc7 := hM7.2.2.2.2.2.cell 9; have hlt73 := Lib.hid hM7.2.2.2.2.2.lt) | fail)
        try dsimp only [Act.put]
        have hM8 : M11B w _ #[.int .u8 x.tos, .int .u16 x.id, .bool x.df, .bool false, .int .i64 0, .int .u8 (max x.ttl 1), .int .u8 0, .int .u32 (hostI x.src), .int .u32 (dstI x.src x.dst), .slice oA ol.length oc] (w7.setCell ⟨w.heap.size + 3, 9, none⟩ (.slice oA ol.length oc)) := hM7.set 9 _
        have ho8 := ho7.setCell_far (a := ⟨w.heap.size + 3, 9, none⟩) (fun e => by have h := (ho7.lt e).1; have := hB6.out; simp only at h; omega) (.slice oA ol.length oc)
        clear hM7 hf7 hc7 ho7 hl7 hM6 HW
        have hw3 : w.heap.size + 3 < w7.heap.size := hlt73.out
        revert hM8 ho8
        generalize hw8 : w7.setCell ⟨w.heap.size + 3, 9, none⟩ (.slice oA ol.length oc) = w8
        have hs8 : w8.heap.size = w7.heap.size := by rw [← hw8]; simp
        intro hM8 ho8
        clear hw8
        obtain ⟨kk, hkk⟩ : ∃ kk, x.kind % 4 = kk := ⟨_, rfl⟩
        have hk04 : 0 ≤ kk ∧ kk < 4 := by omega
        have htm : x.kind.tmod 4 = kk := by rw [Int.tmod_eq_emod_of_nonneg HX.out.kind.1]; exact hkk
        have HC8 := Lib.hid (HC.out w8 kk hk04.1 hk04.2 hM8.1)
        unfold ContPostX at HC8
        have hbx := hM8.2.2.1
        have hcx := hbx.cell 0
        have hch := hM8.2.2.2.2.2.cell
        have HKK := Lib.hid hkk
        have HM8 := Lib.hid hM8
        clear HC hkk hM8
        go_upto_region 15 with (first | ((with_reducible refine look_load ?_); refine wpList_load_row rfl _ _ rfl _ rfl _ _ _ _ hbx Tryz.underlying34 rfl (by kernel_rfl) ?_) | (go_at_call 19; refine HC8.out.mono ?_; rintro e w9 ⟨b, p, ⟨⟨k0, k1, k2, k3, k4⟩, kind, flags, type, code, seqn, ackn, window, length, ⟨z0, z1, z2, z3, z4⟩, qkind⟩, rfl, ho9, hC, hsz, hl9⟩; dsimp only [Facts.val, Facts.cells, Key.cells, List.cons_append, List.nil_append]) | ((with_reducible refine look_store ?_); refine wpList_store_new rfl _ _ _ rfl _ _ rfl rfl _ _ rfl (by kernel_rfl) (by simp) (by simp [Value.oneCell']) ?_) | fail)
        try dsimp only [Act.put]
        refine wp_name1 ?_
        intro w10 hb10 hs10 bf
        have hM10 := Lib.hid ((HM8.out.next hl9).next hb10)
        have ho10 := (ho8.below hl9 (Nat.le_refl _)).below hb10 (Nat.le_refl _)
        have hp10 := ho9.below hb10 (Nat.le_refl _)
        have hp9 := Lib.hid (show ∀ g, (Value.slice p.1 b.length p.2).ownBlock = some g → g < w9.heap.size from fun g hg => (ho9.lt hg).2)
        have hlt9 := Lib.hid (show w8.heap.size ≤ w9.heap.size from hl9.size)
        have HCc := Lib.hid (And.intro hC hsz)
        have hap := Lib.hid (show ∀ g, (Value.slice oA ol.length oc).ownBlock = some g → g < w8.heap.size from fun g hg => (ho8.lt hg).2)
        clear hl9 hb10 hC hsz HM8 ho9 HC8 hbx hcx hch htm ho8
        have hch := hM10.out.2.2.2.2.2.cell
        have hfh := hM10.out.2.2.2.2.2.frozen
        have hcf := bf.cell
        have hff := bf.frozen
        go_upto_region 16 with fail
        try dsimp only [Act.put]
        have hMf : M11C w w9.heap.size #[.int .u8 x.tos, .int .u16 x.id, .bool x.df, .bool false, .int .i64 0, .int .u8 (max x.ttl 1), .int .u8 k0, .int .u32 (hostI x.src), .int .u32 (dstI x.src x.dst), .slice oA ol.length oc] #[.int .u8 k0, .int .u32 (hostI x.src), .int .u32 (dstI x.src x.dst), .int .u16 k3, .int .u16 k4, .int .u8 kind, .int .u8 flags, .int .u8 type, .int .u8 code, .int .u32 seqn, .int .u32 ackn, .int .i64 window, .int .i64 length, .int .u8 z0, .int .u32 z1, .int .u32 z2, .int .u16 z3, .int .u16 z4, .int .u8 qkind] (.slice oA ol.length oc) ol (.slice p.1 b.length p.2) b false false (((w10.setCell ⟨w.heap.size + 3, 6, none⟩ (.int .u8 k0)).setCell ⟨w9.heap.size, 1, none⟩ (.int .u32 (hostI x.src))).setCell ⟨w9.heap.size, 2, none⟩ (.int .u32 (dstI x.src x.dst))) := by
          have h9 : w.heap.size + 4 ≤ w9.heap.size := by have := hlt9.out; have := hB6.out; omega
          obtain ⟨m1, m2, m3, m4, m5, m6⟩ := hM10.out
          refine ⟨((m1.setCell (p := ⟨w.heap.size + 3, 6, none⟩) (by show w.heap.size ≤ w.heap.size + 3; omega) _).setCell (p := ⟨w9.heap.size, 1, none⟩) (by show w.heap.size ≤ w9.heap.size; omega) _).setCell (p := ⟨w9.heap.size, 2, none⟩) (by show w.heap.size ≤ w9.heap.size; omega) _,
            ((m4.far (p := ⟨w.heap.size + 3, 6, none⟩) (by show w.heap.size + 1 ≠ w.heap.size + 3; omega) _).far (p := ⟨w9.heap.size, 1, none⟩) (by show w.heap.size + 1 ≠ w9.heap.size; omega) _).far (p := ⟨w9.heap.size, 2, none⟩) (by show w.heap.size + 1 ≠ w9.heap.size; omega) _,
            ((m5.far (p := ⟨w.heap.size + 3, 6, none⟩) (by show w.heap.size + 2 ≠ w.heap.size + 3; omega) _).far (p := ⟨w9.heap.size, 1, none⟩) (by show w.heap.size + 2 ≠ w9.heap.size; omega) _).far (p := ⟨w9.heap.size, 2, none⟩) (by show w.heap.size + 2 ≠ w9.heap.size; omega) _,
            ((m6.set 6 _).far (p := ⟨w9.heap.size, 1, none⟩) (by show w.heap.size + 3 ≠ w9.heap.size; omega) _).far (p := ⟨w9.heap.size, 2, none⟩) (by show w.heap.size + 3 ≠ w9.heap.size; omega) _,
            ((bf.far (p := ⟨w.heap.size + 3, 6, none⟩) (by show w9.heap.size ≠ w.heap.size + 3; omega) _).set 1 _).set 2 _, h9, ?_, ?_⟩
          · have q := ho10.base_le hB6.out
            have q1 := q.setCell_far (a := ⟨w.heap.size + 3, 6, none⟩) (fun e => by have h := (q.lt e).1; simp only at h; omega) (.int .u8 k0)
            have q2 := q1.setCell_far (a := ⟨w9.heap.size, 1, none⟩) (fun e => by have h := hap.out _ e; have := hlt9.out; simp only at h; omega) (.int .u32 (hostI x.src))
            exact q2.setCell_far (a := ⟨w9.heap.size, 2, none⟩) (fun e => by have h := hap.out _ e; have := hlt9.out; simp only at h; omega) (.int .u32 (dstI x.src x.dst))
          · have q := hp10.base_le (show w.heap.size + 4 ≤ w8.heap.size by omega)
            have q1 := q.setCell_far (a := ⟨w.heap.size + 3, 6, none⟩) (fun e => by have h := (q.lt e).1; simp only at h; omega) (.int .u8 k0)
            have hf9 := hp9.out
            have q2 := q1.setCell_far (a := ⟨w9.heap.size, 1, none⟩) (fun e => by have h := hf9 _ e; simp only at h; omega) (.int .u32 (hostI x.src))
            exact q2.setCell_far (a := ⟨w9.heap.size, 2, none⟩) (fun e => by have h := hf9 _ e; simp only at h; omega) (.int .u32 (dstI x.src x.dst))
        have hap2 := Lib.hid (show ∀ g, (Value.slice oA ol.length oc).ownBlock = some g → (Value.slice p.1 b.length p.2).ownBlock ≠ some g from fun g h1 h2 => by have := hap.out g h1; have := (hp10.lt h2).1; omega)
        clear hch hfh hcf hff bf hM10 ho10 hp10 hp9 hap hs10 hlt9 hs8 hlt73 hw3 hB6
        revert hMf
        generalize ((w10.setCell ⟨w.heap.size + 3, 6, none⟩ (.int .u8 k0)).setCell ⟨w9.heap.size, 1, none⟩ (.int .u32 (hostI x.src))).setCell ⟨w9.heap.size, 2, none⟩ (.int .u32 (dstI x.src x.dst)) = w11
        intro hMf
        have HMf := Lib.hid hMf
        clear hMf
        refine wp_region_inv4 105 106 107 3 (fun L v0 v1 v2 v4 W => Hid (((L 0 = true → v0 = .agg #[.int .u8 x.tos, .int .u16 x.id, .bool x.df, .bool false, .int .i64 0, .int .u8 (max x.ttl 1), .int .u8 k0, .int .u32 (hostI x.src), .int .u32 (dstI x.src x.dst), .slice oA ol.length oc]) ∧ (L 1 = true → v1 = (.slice p.1 b.length p.2)) ∧ (L 2 = true → v2 = .agg #[.int .u8 k0, .int .u32 (hostI x.src), .int .u32 (dstI x.src x.dst), .int .u16 k3, .int .u16 k4, .int .u8 kind, .int .u8 flags, .int .u8 type, .int .u8 code, .int .u32 seqn, .int .u32 ackn, .int .i64 window, .int .i64 length, .int .u8 z0, .int .u32 z1, .int .u32 z2, .int .u16 z3, .int .u16 z4, .int .u8 qkind]) ∧ (L 4 = true → v4 = (.slice p.1 b.length p.2))) ∧ M11C w w9.heap.size #[.int .u8 x.tos, .int .u16 x.id, .bool x.df, .bool false, .int .i64 0, .int .u8 (max x.ttl 1), .int .u8 k0, .int .u32 (hostI x.src), .int .u32 (dstI x.src x.dst), .slice oA ol.length oc] #[.int .u8 k0, .int .u32 (hostI x.src), .int .u32 (dstI x.src x.dst), .int .u16 k3, .int .u16 k4, .int .u8 kind, .int .u8 flags, .int .u8 type, .int .u8 code, .int .u32 seqn, .int .u32 ackn, .int .i64 window, .int .i64 length, .int .u8 z0, .int .u32 z1, .int .u32 z2, .int .u16 z3, .int .u16 z4, .int .u8 qkind] (.slice oA ol.length oc) ol (.slice p.1 b.length p.2) b (L 3) (L 5) W)) (by kernel_rfl) (depsOk_spec (by kernel_rfl)) ?_ ?_ ?_
        · exact fun v0 v1 v2 v4 => Lib.hid ⟨⟨(fun h => by cases h), (fun h => by cases h), (fun h => by cases h), (fun h => by cases h)⟩, HMf.out.drew⟩
        · intro L v0 v1 v2 v4 W i o hoi hLi hdep hI
          have hi : i < 6 := (Array.getElem?_eq_some_iff.1 hoi).1
          simp only [List.setIfInBounds_toArray, List.set_cons_succ, List.set_cons_zero]
          rcases (show i = 0 ∨ i = 1 ∨ i = 2 ∨ i = 3 ∨ i = 4 ∨ i = 5 by omega) with rfl | rfl | rfl | rfl | rfl | rfl
          · simp at hoi; subst hoi
            clear hdep hLi
            have hb := hI.out.2.2.2.2.1
            go_wp2_with (first | ((with_reducible refine look_load ?_); refine wpList_load_row rfl _ _ rfl _ rfl _ _ _ _ hb Tryz.underlying37 rfl (by kernel_rfl) ?_) | fail)
            exact ⟨.agg #[.int .u8 x.tos, .int .u16 x.id, .bool x.df, .bool false, .int .i64 0, .int .u8 (max x.ttl 1), .int .u8 k0, .int .u32 (hostI x.src), .int .u32 (dstI x.src x.dst), .slice oA ol.length oc], v1, v2, v4, (by first | rfl | simp), Lib.hid ⟨⟨fun _ => rfl, hI.out.1.2.1, hI.out.1.2.2.1, hI.out.1.2.2.2⟩, hI.out.2⟩⟩
          · simp at hoi; subst hoi
            clear hdep hLi
            go_wp2_with fail
            exact ⟨v0, (.slice p.1 b.length p.2), v2, v4, (by first | rfl | simp), Lib.hid ⟨⟨hI.out.1.1, fun _ => rfl, hI.out.1.2.2.1, hI.out.1.2.2.2⟩, hI.out.2⟩⟩
          · simp at hoi; subst hoi
            clear hdep hLi
            have hb := hI.out.2.2.2.2.2.1
            go_wp2_with (first | ((with_reducible refine look_load ?_); refine wpList_load_row rfl _ _ rfl _ rfl _ _ _ _ hb Tryz.underlying41 rfl (by kernel_rfl) ?_) | fail)
            exact ⟨v0, v1, .agg #[.int .u8 k0, .int .u32 (hostI x.src), .int .u32 (dstI x.src x.dst), .int .u16 k3, .int .u16 k4, .int .u8 kind, .int .u8 flags, .int .u8 type, .int .u8 code, .int .u32 seqn, .int .u32 ackn, .int .i64 window, .int .i64 length, .int .u8 z0, .int .u32 z1, .int .u32 z2, .int .u16 z3, .int .u16 z4, .int .u8 qkind], v4, (by first | rfl | simp), Lib.hid ⟨⟨hI.out.1.1, hI.out.1.2.1, fun _ => rfl, hI.out.1.2.2.2⟩, hI.out.2⟩⟩
          · simp at hoi; subst hoi
            have h0 : L 0 = true := hdep ⟨0, .data⟩ (by simp) rfl
            obtain rfl := hI.out.1.1 h0
            clear h0
            have hb := hI.out.2.2.1
            rw [hLi, if_neg Bool.false_ne_true] at hb
            clear hdep hLi
            go_wp2_with (first | ((with_reducible refine look_store ?_); refine wpList_store_row rfl _ _ _ rfl _ _ rfl rfl _ _ hb (by kernel_rfl) (by simp) (by simp [Value.oneCell']) ?_) | fail)
            exact ⟨.agg #[.int .u8 x.tos, .int .u16 x.id, .bool x.df, .bool false, .int .i64 0, .int .u8 (max x.ttl 1), .int .u8 k0, .int .u32 (hostI x.src), .int .u32 (dstI x.src x.dst), .slice oA ol.length oc], v1, v2, v4, (by first | rfl | simp), Lib.hid ⟨⟨fun _ => rfl, hI.out.1.2.1, hI.out.1.2.2.1, hI.out.1.2.2.2⟩, hI.out.2.put3⟩⟩
          · simp at hoi; subst hoi
            have h0 : L 1 = true := hdep ⟨1, .data⟩ (by simp) rfl
            obtain rfl := hI.out.1.2.1 h0
            clear h0
            clear hdep hLi
            go_wp2_with fail
            exact ⟨v0, (.slice p.1 b.length p.2), v2, (.slice p.1 b.length p.2), (by first | rfl | simp), Lib.hid ⟨⟨hI.out.1.1, (by first | exact fun _ => rfl | exact rfl), hI.out.1.2.2.1, (by first | exact fun _ => rfl | exact rfl)⟩, hI.out.2⟩⟩
          · simp at hoi; subst hoi
            have h0 : L 2 = true := hdep ⟨2, .data⟩ (by simp) rfl
            obtain rfl := hI.out.1.2.2.1 h0
            clear h0
            have hb := hI.out.2.2.2.1
            rw [hLi, if_neg Bool.false_ne_true] at hb
            clear hdep hLi
            go_wp2_with (first | ((with_reducible refine look_store ?_); refine wpList_store_row rfl _ _ _ rfl _ _ rfl rfl _ _ hb (by kernel_rfl) (by simp) (by simp [Value.oneCell']) ?_) | fail)
            exact ⟨v0, v1, .agg #[.int .u8 k0, .int .u32 (hostI x.src), .int .u32 (dstI x.src x.dst), .int .u16 k3, .int .u16 k4, .int .u8 kind, .int .u8 flags, .int .u8 type, .int .u8 code, .int .u32 seqn, .int .u32 ackn, .int .i64 window, .int .i64 length, .int .u8 z0, .int .u32 z1, .int .u32 z2, .int .u16 z3, .int .u16 z4, .int .u8 qkind], v4, (by first | rfl | simp), Lib.hid ⟨⟨hI.out.1.1, hI.out.1.2.1, fun _ => rfl, hI.out.1.2.2.2⟩, hI.out.2.put5⟩⟩
        · intro L v0 v1 v2 v4 W hL hI
          obtain rfl := hI.out.1.2.2.2 (hL 4 (by decide))
          have hMe := hI.out.2
          rw [hL 3 (by decide), hL 5 (by decide)] at hMe
          obtain ⟨m1, m2, m3, _, _, _, m7, m8⟩ := hMe
          rw [if_pos rfl] at m2 m3
          clear hI hL
          simp only [List.setIfInBounds_toArray, List.set_cons_succ, List.set_cons_zero]
          go_wp2_with fail
          have hol : ol = (m11H x k0 os).opts := HOL.out.symm
          refine bodyPost_ret (results_cell_tmp_cell Tryz.results6 _ _ _ _ _ _ _ rfl m2 Tryz.underlying37 rfl (by kernel_rfl) _ _ _ _ _ rfl m3 Tryz.underlying41 rfl (by kernel_rfl)) rfl ⟨os, oA, oc, p, b, ⟨⟨k0, k1, k2, k3, k4⟩, kind, flags, type, code, seqn, ackn, window, length, ⟨z0, z1, z2, z3, z4⟩, qkind⟩, ?_, ?_, ?_, ?_, HOk.out, ?_, ?_, m1⟩
          · rw [hol]; rfl
          · show Own W w.heap.size (.slice oA (m11H x k0 os).opts.length oc) (m11H x k0 os).opts
            rw [← hol]; exact m7.base_le (by omega)
          · exact m8.base_le (by omega)
          · show ∀ g, (Value.slice oA (m11H x k0 os).opts.length oc).ownBlock = some g → _
            rw [← hol]; exact hap2.out
          · rw [HKK.out]; exact HCc.out.1
          · rw [HKK.out]; exact fun h => HCc.out.2 (by rw [h]; rfl)
end Go.Proofs.YtebeekjcepjcnaaGreatDoor
