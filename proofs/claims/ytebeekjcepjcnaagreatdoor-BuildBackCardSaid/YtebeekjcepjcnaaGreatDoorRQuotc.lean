/-
  
-/
import Derived.Test.YtebeekjcepjcnaaGreatDoorRPktn
namespace Go.Proofs.YtebeekjcepjcnaaGreatDoor
open Go.RowKit
def keySt (p a b c d : Int) (k : Nat) : Array Value := if k = 0 then #[.int .u8 p, .int .u32 a, .int .u32 b, .int .u16 0, .int .u16 0] else if k = 1 then #[.int .u8 p, .int .u32 a, .int .u32 b, .int .u16 c, .int .u16 0] else #[.int .u8 p, .int .u32 a, .int .u32 b, .int .u16 c, .int .u16 d]
theorem StN.belowQ {w W W2 : World} {B : Nat} {L : List (Nat × TypeId × Array Value)} {R : Nat} {t : TypeId} {cs : Nat → Array Value} {c : Nat} (h : StN w B L R t cs c W) (l : Below W.heap.size W W2) : StN w B L R t cs c W2 := ⟨h.1.below l, h.2.1, h.2.2.1, h.2.2.2.below l h.2.2.2.lt⟩
def quoOut (xs : List Int) : Value := .tuple #[.agg (if quoE xs = 0 then (quoKey xs).cells.toArray else keyZ), .int .u8 (if quoE xs = 0 then quoKind xs else 0), .int .i64 (quoE xs)]
theorem quoOut0 (xs : List Int) (h4 : quoN xs = 4) (hk : quoKind xs = 0) : quoOut xs = .tuple #[.agg keyZ, .int .u8 0, .int .i64 103] := by
  have hE : quoE xs = 103 := by unfold quoE; rw [if_neg (by omega), if_pos hk]
  unfold quoOut
  rw [hE]
  rfl
theorem quoOut5 (xs : List Int) (h4 : quoN xs = 4) (hk : quoKind xs = 5) : quoOut xs = .tuple #[.agg keyZ, .int .u8 0, .int .i64 104] := by
  have hE : quoE xs = 104 := by unfold quoE; rw [if_neg (by omega), if_neg (by omega), if_pos hk]
  unfold quoOut
  rw [hE]
  rfl
theorem quoOutK (xs : List Int) (h4 : quoN xs = 4) (K : Int) (hk : quoKind xs = K) (h0 : K ≠ 0) (h5 : K ≠ 5) : quoOut xs = .tuple #[.agg (quoKey xs).cells.toArray, .int .u8 K, .int .i64 0] := by
  have hE : quoE xs = 0 := by unfold quoE; rw [if_neg (by omega), if_neg (by omega), if_neg (by omega)]
  unfold quoOut
  rw [hE, if_pos rfl, if_pos rfl, hk]
def pairE : Nat → Array MapEntry
  | 0 => #[]
  | 1 => #[⟨.int .u8 6, .int .u8 1, 0⟩]
  | _ => #[⟨.int .u8 6, .int .u8 1, 0⟩, ⟨.int .u8 17, .int .u8 2, 1⟩]
theorem lookup_pair (W : World) (m : Nat) (h : W.heap[m]? = some (.map (pairE 2) 2)) (k : Int) (hk : k = 6 ∨ k = 17) : (Instr.lookup 175 (.map (some m)) (.int .u8 k) false).run Tryz.prog W = .ok (.int .u8 (if k = 6 then 1 else 2)) W := by
  rcases hk with rfl | rfl
  · exact run_lookup_int Tryz.underlying175 Tryz.underlying5 W m _ _ 6 0 _ false h rfl
  · exact run_lookup_int Tryz.underlying175 Tryz.underlying5 W m _ _ 17 1 _ false h rfl
theorem quoKey_P (xs : List Int) (p : Int) (h : xs.getD 9 0 = p) (hp : p = 6 ∨ p = 17) : (quoKey xs).cells.toArray = keySt p (l32At xs 12) (l32At xs 16) (w16At (xs.drop (ipSize xs)) 0) (w16At (xs.drop (ipSize xs)) 2) 2 := by
  unfold quoKey
  rw [h]
  dsimp only
  rw [if_pos hp]
  rfl
theorem quoKind_P (xs : List Int) (p : Int) (h : xs.getD 9 0 = p) (hp : p = 6 ∨ p = 17) : quoKind xs = if w16At (xs.drop (ipSize xs)) 0 = 0 ∨ w16At (xs.drop (ipSize xs)) 2 = 0 then 0 else if p = 6 then 1 else 2 := by
  unfold quoKind
  rw [h]
  dsimp only
  rw [if_pos hp]
set_option maxRecDepth 100000 in
set_option maxHeartbeats 40000000 in
theorem icmpQuote_any (A : Option Addr) (cap n : Nat) (xs : List Int) (w : World) (hn : xs.length = n) (hl : n ≤ 1000000) (hcap : n ≤ cap) (hB : Byt xs) (hr : Rd w w.heap.size A .u8 xs) (hs : SortsAt w) :
    Calls Tryz.prog 66 #[.slice A n cap] w fun e W' => e = .returned (quoOut xs) ∧ Below w.heap.size w W' := by
  have Hs := Lib.hid hs
  clear hs
  go_enter Tryz.func66, Tryz.ntmps66
  go_upto_region 2 with (first | ((with_reducible refine look_store ?_); refine wpList_store_new rfl _ _ _ rfl _ _ rfl rfl _ _ (by first | (simp only [World.size_alloc] <;> omega) | rfl | omega) (by kernel_rfl) (by simp) (by simp [Value.oneCell']) ?_) | fail)
  refine wp_name3 ?_
  intro w1 hb1 hs1 b1 r1 s1
  simp only [Nat.add_assoc, Nat.reduceAdd]
  have HS := Lib.hid (show QuSt w A n cap xs 35 0 (w1.alloc (.cells (quoArr w.heap.size) 35)) from ⟨(hb1.alloc (by omega) _), by simp; omega, b1.alloc _, r1.alloc _, ⟨_, s1.alloc _, fun h => by omega⟩, Blk.next (by omega) _ _⟩)
  clear b1 r1 s1 hb1
  go_wp2_with fail
  go_loopw [17] (QuRel w A n cap xs 35) (fun i _ => 4 - (intOf i).toNat)
  case atStart => exact ⟨0, by omega, rfl, fun j hj => by omega, HS.out⟩
  case round =>
    obtain ⟨k, hk, rfl, hT, hS⟩ := hrel
    have HT := Lib.hid hT
    have HS := Lib.hid hS
    have hcf := callFunc_quo k
    clear hT
    by_cases hlt : k < 4
    · have hlt2 : (k : Int) < 4 := by omega
      have hfa := quoArr_at hS.f k hlt
      have H := Lib.hid (quoTest_any A cap n k xs 35 w wr hlt hn hl hcap hB hr hS HT.out)
      clear hS
      rcases hb : quoT xs k with _ | _
      · rw [hb] at H
        go_wp2_with fail
        refine H.out.mono ?_
        rintro e w2 ⟨rfl, hS2⟩
        have HS2 := Lib.hid hS2
        have HT2 := Lib.hid (show ∀ j, j < k + 1 → quoT xs j = false from fun j hj => by
          rcases Nat.lt_or_ge j k with h | h
          · exact HT.out j h
          · rw [show j = k by omega]; exact hb)
        clear hS2 hfa hb
        go_wp2_with fail
        go_roundw
        case rel => exact ⟨k + 1, by omega, by go_num, HT2.out, HS2.out⟩
        case measure => simp [intOf]; omega
      · rw [hb] at H
        have hN : quoN xs = k := firstB_eq hlt HT.out hb
        have hE := Lib.hid (show quoE xs = 103 by unfold quoE; rw [if_pos (by omega)])
        clear hb hN
        go_wp2_with fail
        refine H.out.mono ?_
        rintro e w2 ⟨rfl, hS2⟩
        have r2 := hS2.r
        unfold keyZ at r2
        have hb2 := hS2.below
        clear hS2 hfa
        go_wp2_with (first | ((with_reducible refine look_store ?_); refine wpList_store_row rfl _ _ _ rfl _ _ rfl rfl _ _ r2 (by kernel_rfl) (by simp) (by simp [Value.oneCell']) ?_) | fail)
        refine bodyPost_ret (results_cell_tmp2 Tryz.results66 _ _ _ _ _ _ _ rfl (setRow_heap _ _ _ _ _ _ r2) Tryz.underlying39 rfl (by kernel_rfl)) rfl ⟨?_, below_setRow hb2 (by omega) _⟩
        unfold quoOut
        rw [hE.out]
        rfl
    · obtain rfl : k = 4 := by omega
      have hN : quoN xs = 4 := firstB_all HT.out
      have h20 : 20 ≤ ipSize xs ∧ ipSize xs + 8 ≤ n := by have := HT.out 1 (by omega); simp only [quoT, Bool.or_eq_false_iff, decide_eq_false_iff_not] at this; omega
      have hsz := ipSize_bd xs
      obtain ⟨sv, hs2, hsv⟩ := hS.s
      obtain rfl := hsv (by omega)
      obtain ⟨b, off, rfl, hbl, hcc⟩ := hr.at0 (by omega)
      have c9 := hcc 9 (by omega)
      have HW := Lib.hid (fun (k : Nat) (hk : k + 2 ≤ n) (W : World) (h : Below w.heap.size w W) (hz : w.heap.size ≤ W.heap.size) => quoWord_any b off (cap - k) n k xs W hn hk hB ((hr.below h (Nat.le_refl _)).more hz))
      have o1 := or_u32_long (w16At xs 12) (w16At xs 14) (w16At_bd hB 12).1 (w16At_bd hB 12).2 (w16At_bd hB 14).1 (w16At_bd hB 14).2
      have o2 := or_u32_long (w16At xs 16) (w16At xs 18) (w16At_bd hB 16).1 (w16At_bd hB 16).2 (w16At_bd hB 18).1 (w16At_bd hB 18).2
      rw [show 65536 * w16At xs 12 + w16At xs 14 = l32At xs 12 from rfl] at o1
      rw [show 65536 * w16At xs 16 + w16At xs 18 = l32At xs 16 from rfl] at o2
      obtain ⟨p0, p1⟩ := w16At_bd hB 12
      obtain ⟨q0, q1⟩ := w16At_bd hB 14
      obtain ⟨t0, t1⟩ := w16At_bd hB 16
      obtain ⟨v0, v1⟩ := w16At_bd hB 18
      have m1 : w16At xs 12 % 4294967296 = w16At xs 12 := by omega
      have m2 : w16At xs 14 % 4294967296 = w16At xs 14 := by omega
      have m3 : w16At xs 16 % 4294967296 = w16At xs 16 := by omega
      have m4 : w16At xs 18 % 4294967296 = w16At xs 18 := by omega
      have HR := Lib.hid (fun (k : Nat) (hk : k + 2 ≤ n - ipSize xs) (W : World) (h : Below w.heap.size w W) (hz : w.heap.size ≤ W.heap.size) => quoWord_any b (off + ipSize xs) (cap - ipSize xs - k) (n - ipSize xs) k (xs.drop (ipSize xs)) W (by rw [List.length_drop, hn]) hk (hB.drop _) (((hr.drop (ipSize xs) fun _ b2 o2 h => by
        simp only [Option.some.injEq, Addr.mk.injEq] at h
        obtain ⟨rfl, rfl, _⟩ := h
        rfl).below h (Nat.le_refl _)).more hz))
      have cs0 := hcc (ipSize xs) (by omega)
      have cs1 := hcc (ipSize xs + 1) (by omega)
      rw [show xs.getD (ipSize xs) 0 = (xs.drop (ipSize xs)).getD 0 0 by simp [List.getD_eq_getElem?_getD]] at cs0
      rw [show xs.getD (ipSize xs + 1) 0 = (xs.drop (ipSize xs)).getD 1 0 by simp [List.getD_eq_getElem?_getD]] at cs1
      have hRb := hB.drop (ipSize xs)
      have HKc := Lib.hid (fun (W : World) (h : SortsAt W) => kindI_any ((xs.drop (ipSize xs)).getD 0 0) ((xs.drop (ipSize xs)).getD 1 0) W (hRb.at_ 0).1 (hRb.at_ 0).2 (hRb.at_ 1).1 h)
      have Hcs0 := Lib.hid cs0
      have Hcs1 := Lib.hid cs1
      clear cs0 cs1 hRb
      have hN4 := Lib.hid hN
      clear hN
      generalize hX9 : xs.getD 9 0 = X9 at *
      generalize hsz2 : ipSize xs = sz at *
      have HX9 := Lib.hid hX9
      have Hsz2 := Lib.hid hsz2
      clear hX9 hsz2
      have hSt := ((St.nil hS.below (by have := hS.size; omega)).cons hS.r).cons hs2 |>.cons hS.b
      have hz := hS.size
      have i9 : (9 : Int) < n := by omega
      have i12 : (12 : Int) ≤ n := by omega
      have i14 : (14 : Int) ≤ n := by omega
      have i16 : (16 : Int) ≤ n := by omega
      have i18 : (18 : Int) ≤ n := by omega
      have icap : (n : Int) ≤ cap := by omega
      have k12 : cap ≠ 12 := by omega
      have k14 : cap ≠ 14 := by omega
      have k16 : cap ≠ 16 := by omega
      have k18 : cap ≠ 18 := by omega
      clear hS hs2 hcc hcf hk hlt hcap hsz
      go_wp2_with fail
      refine wp_region_walk (by kernel_rfl) (fun _ W => St w w.heap.size _ W) [] (Late w.heap.size 39 keyZ #[.int .u8 X9, .int .u32 (l32At xs 12), .int .u32 (l32At xs 16), .int .u16 0, .int .u16 0])
        [24] (fun _ => LateB (w.heap.size + 3) 39 keyZ #[.int .u8 X9, .int .u32 (l32At xs 12), .int .u32 (l32At xs 16), .int .u16 0, .int .u16 0]) [0, 1, 2, 3, 4, 5, 6, 7, 8, 9, 10, 11, 12, 13, 14, 15, 16, 17, 18, 19, 20, 21, 22, 23, 24, 25] (by kernel_rfl) ?hfree hSt.drew ?hwalk
      case hfree =>
        intro k hk
        obtain rfl : k = 24 := by simpa using hk
        refine ⟨rfl, LateB.keep, fun o ho a c W hE => ?_⟩
        simp at ho
        subst ho
        go_wp2_with fail
        have hl := (hE.get 1 rfl).lt
        exact ⟨_, rfl, ⟨W.heap.size, rfl, hl, .inl (Blk.new _ _ _)⟩, Late.grown ((Below.refl _ _).alloc (Nat.le_refl _) _) hE.2.1, hE.alloc _⟩
      iterate 5
        apply Walk.one rfl rfl rfl
        case hrun =>
          intro c W hE hF
          have hc0 := (hE.get 0 rfl).cell 0
          have hc9 := (hE.1.cell (p := ⟨b, off + 9, none⟩) hbl).trans c9
          go_wp2_with fail
          exact TextPost.mk ⟨Late.refl _, hE⟩
        case hv => rfl
      apply Walk.one rfl rfl rfl
      case hrun =>
        intro c W hE hF
        go_wp2_with fail
        refine (HW.out 12 (by omega) W hE.1 (by have := hE.2.1; omega)).mono ?_
        rintro e W2 ⟨rfl, l2⟩
        go_wp2_with fail
        exact TextPost.mk ⟨Late.grown l2 hE.2.1, hE.below l2⟩
      case hv => rfl
      iterate 4
        apply Walk.one rfl rfl rfl
        case hrun =>
          intro c W hE hF
          have hc0 := (hE.get 0 rfl).cell 0
          go_wp2_with fail
          exact TextPost.mk ⟨Late.refl _, hE⟩
        case hv => rfl
      apply Walk.one rfl rfl rfl
      case hrun =>
        intro c W hE hF
        go_wp2_with fail
        refine (HW.out 14 (by omega) W hE.1 (by have := hE.2.1; omega)).mono ?_
        rintro e W2 ⟨rfl, l2⟩
        go_wp2_with fail
        exact TextPost.mk ⟨Late.grown l2 hE.2.1, hE.below l2⟩
      case hv => rfl
      iterate 4
        apply Walk.one rfl rfl rfl
        case hrun =>
          intro c W hE hF
          have hc0 := (hE.get 0 rfl).cell 0
          go_wp2_with fail
          exact TextPost.mk ⟨Late.refl _, hE⟩
        case hv => rfl
      apply Walk.one rfl rfl rfl
      case hrun =>
        intro c W hE hF
        go_wp2_with fail
        refine (HW.out 16 (by omega) W hE.1 (by have := hE.2.1; omega)).mono ?_
        rintro e W2 ⟨rfl, l2⟩
        go_wp2_with fail
        exact TextPost.mk ⟨Late.grown l2 hE.2.1, hE.below l2⟩
      case hv => rfl
      iterate 4
        apply Walk.one rfl rfl rfl
        case hrun =>
          intro c W hE hF
          have hc0 := (hE.get 0 rfl).cell 0
          go_wp2_with fail
          exact TextPost.mk ⟨Late.refl _, hE⟩
        case hv => rfl
      apply Walk.one rfl rfl rfl
      case hrun =>
        intro c W hE hF
        go_wp2_with fail
        refine (HW.out 18 (by omega) W hE.1 (by have := hE.2.1; omega)).mono ?_
        rintro e W2 ⟨rfl, l2⟩
        go_wp2_with fail
        exact TextPost.mk ⟨Late.grown l2 hE.2.1, hE.below l2⟩
      case hv => rfl
      iterate 3
        apply Walk.one rfl rfl rfl
        case hrun =>
          intro c W hE hF
          have hc0 := (hE.get 0 rfl).cell 0
          go_wp2_with fail
          exact TextPost.mk ⟨Late.refl _, hE⟩
        case hv => rfl
      refine Walk.freeOp LateB.keep rfl rfl (by kernel_rfl) ?_ (fun u8 => ?_)
      · intro a c W hE
        go_wp2_with fail
        have hl := (hE.get 1 rfl).lt
        exact ⟨_, rfl, ⟨W.heap.size, rfl, hl, .inl (Blk.new _ _ _)⟩, Late.grown ((Below.refl _ _).alloc (Nat.le_refl _) _) hE.2.1, hE.alloc _⟩
      dsimp only [Act.put]
      simp only [List.setIfInBounds_toArray, List.set_cons_succ, List.set_cons_zero]
      refine Walk.whatever (fun _ W => LateN (w.heap.size + 3) 39 #[.int .u8 X9, .int .u32 (l32At xs 12), .int .u32 (l32At xs 16), .int .u16 0, .int .u16 0] u8 W) ?_ rfl rfl rfl (by kernel_rfl) ?_ (fun u9 => ?_)
      · exact fun _ => LateN.keep u8
      · intro c W hE hF
        obtain ⟨g, rfl, hg0, hg | hg⟩ := hF.head
        all_goals
          unfold keyZ at hE
          refine wpList_store_row rfl _ _ _ rfl g #[.int .u8 X9, .int .u32 (l32At xs 12), .int .u32 (l32At xs 16), .int .u16 0, .int .u16 0] rfl rfl _ _ hg (by kernel_rfl) (by first | rfl | simp) (by simp [Value.oneCell']) ?_
          go_wp2_with fail
          refine ⟨undef, rfl, ⟨g, rfl, hg0, setRow_heap _ _ _ _ _ _ hg⟩, ?_, hE.rowFar (by omega) (by simp; omega) _⟩
        · exact Late.store hg (by omega)
        · exact Late.again hg (by omega)
      dsimp only [Act.put]
      refine Walk.done (fun W hE hF => ?_)
      obtain ⟨g, rfl, hg0, hg⟩ := hF.head
      have hc0 := (hE.get 0 rfl).cell 0
      have hc5 := (hE.get 1 rfl).cell 0
      have hSt2 := ((St.nil hE.1 hE.2.1).cons (hE.get 2 rfl)).cons (hE.get 0 rfl)
      have hgl := hg.lt
      have ksz : cap ≠ sz := by omega
      have jsz : (sz : Int) ≤ n := by omega
      have jsz0 : (0 : Int) ≤ sz := by omega
      have hpc := hg.cell 0
      clear hSt hE hF
      by_cases hp : X9 = 6 ∨ X9 = 17
      · have HKy := Lib.hid (quoKey_P xs X9 HX9.out hp)
        have HKd := Lib.hid (quoKind_P xs X9 HX9.out hp)
        rw [Hsz2.out] at HKy HKd
        have HL := Lib.hid (fun W m h => lookup_pair W m h X9 hp)
        obtain ⟨KK, HKK, hKK⟩ : ∃ K : Int, (if X9 = 6 then (1 : Int) else 2) = K ∧ (K = 1 ∨ K = 2) := by
          refine ⟨_, rfl, ?_⟩
          split
          · exact .inl rfl
          · exact .inr rfl
        rw [HKK] at HL HKd
        have e6 : (X9 == 6) = true ∨ ((X9 == 6) = false ∧ (X9 == 17) = true) := by
          rcases hp with rfl | rfl
          · exact .inl rfl
          · exact .inr ⟨rfl, rfl⟩
        have HKK2 := Lib.hid hKK
        clear HKK hp hKK
        rcases e6 with e6 | ⟨e6, e17⟩
        all_goals
          go_wp2_with fail
          have hN : StN w w.heap.size _ g 39 (keySt X9 (l32At xs 12) (l32At xs 16) (w16At (xs.drop sz) 0) (w16At (xs.drop sz) 2)) 0 W := ⟨hSt2, by omega, by simp; omega, hg⟩
          refine wp_region_walk (by kernel_rfl) (StN w w.heap.size _ g 39 (keySt X9 (l32At xs 12) (l32At xs 16) (w16At (xs.drop sz) 0) (w16At (xs.drop sz) 2))) [6, 8] GTop [] (fun _ _ _ => True) [0, 1, 2, 3, 4, 5, 6, 7, 8] (by kernel_rfl) (fun _ h => by simp at h) hN.drew ?_
          clear hN hSt2 hg hc0 hc5 hpc
          apply Walk.one rfl rfl rfl
          case hrun =>
            intro c W hE hF
            go_wp2_with fail
            exact TextPost.mk ⟨GTop.mk, hE⟩
          case hv => rfl
          apply Walk.one rfl rfl rfl
          case hrun =>
            intro c W hE hF
            go_wp2_with fail
            refine (HR.out 0 (by omega) W hE.1.1 (by have := hE.1.2.1; omega)).mono ?_
            rintro e W2 ⟨rfl, l2⟩
            go_wp2_with fail
            exact TextPost.mk ⟨GTop.mk, StN.belowQ hE l2⟩
          case hv => rfl
          iterate 2
            apply Walk.one rfl rfl rfl
            case hrun =>
              intro c W hE hF
              go_wp2_with fail
              exact TextPost.mk ⟨GTop.mk, hE⟩
            case hv => rfl
          apply Walk.one rfl rfl rfl
          case hrun =>
            intro c W hE hF
            go_wp2_with fail
            refine (HR.out 2 (by omega) W hE.1.1 (by have := hE.1.2.1; omega)).mono ?_
            rintro e W2 ⟨rfl, l2⟩
            go_wp2_with fail
            exact TextPost.mk ⟨GTop.mk, StN.belowQ hE l2⟩
          case hv => rfl
          apply Walk.one rfl rfl rfl
          case hrun =>
            intro c W hE hF
            go_wp2_with fail
            exact TextPost.mk ⟨GTop.mk, hE⟩
          case hv => rfl
          apply Walk.keep 0 rfl rfl rfl rfl
          case hrun =>
            intro W hE hF
            have hb : Blk W g 39 #[.int .u8 X9, .int .u32 (l32At xs 12), .int .u32 (l32At xs 16), .int .u16 0, .int .u16 0] := hE.2.2.2
            have hcx := hb.cell 3
            have hfx := hb.frozen 3
            go_wp2_with fail
            exact TextPost.mk ⟨GTop.mk, hE.set 3 _ rfl⟩
          case hv => rfl
          apply Walk.one rfl rfl rfl
          case hrun =>
            intro c W hE hF
            go_wp2_with fail
            exact TextPost.mk ⟨GTop.mk, hE⟩
          case hv => rfl
          apply Walk.keep 1 rfl rfl rfl rfl
          case hrun =>
            intro W hE hF
            have hb : Blk W g 39 #[.int .u8 X9, .int .u32 (l32At xs 12), .int .u32 (l32At xs 16), .int .u16 (w16At (xs.drop sz) 0), .int .u16 0] := hE.2.2.2
            have hcx := hb.cell 4
            have hfx := hb.frozen 4
            go_wp2_with fail
            exact TextPost.mk ⟨GTop.mk, hE.set 4 _ rfl⟩
          case hv => rfl
          refine Walk.done (fun W hE hF => ?_)
          have hgz : W.heap.size ≤ (W.alloc (.map (pairE 2) 2)).heap.size := by simp
          have hb0 : Blk W g 39 #[.int .u8 X9, .int .u32 (l32At xs 12), .int .u32 (l32At xs 16), .int .u16 (w16At (xs.drop sz) 0), .int .u16 (w16At (xs.drop sz) 2)] := hE.2.2.2
          have hr1 := hE.1.get 1 rfl
          have hbw := hE.1.1
          have hzz := hE.1.2.1
          unfold keyZ at hr1
          have hb := hb0.alloc (.map (pairE 2) 2)
          have hr2 := hr1.alloc (.map (pairE 2) 2)
          have hbw2 := hbw.alloc hzz (.map (pairE 2) 2)
          have hcp := hb.cell 0
          have hcs := hb.cell 3
          have hcd := hb.cell 4
          have hmm := run_makeMap (P := Tryz.prog) 175 W
          have i1 := run_insert_int (P := Tryz.prog) Tryz.underlying175 Tryz.underlying5 W (pairE 0) 0 6 (.int .u8 1) (by rfl)
          have i2 := run_insert_int (P := Tryz.prog) Tryz.underlying175 Tryz.underlying5 W (pairE 1) 1 17 (.int .u8 2) (by rfl)
          have HL2 := HL.out _ _ (heap_alloc_new W (.map (pairE 2) 2))
          rw [show (#[] : Array MapEntry) = pairE 0 from rfl] at hmm
          rw [show (pairE 0).push ⟨.int .u8 6, .int .u8 1, 0⟩ = pairE 1 from rfl] at i1
          rw [show (pairE 1).push ⟨.int .u8 17, .int .u8 2, 1⟩ = pairE 2 from rfl] at i2
          clear hE hF hb0 hr1 hbw
          generalize pairE 0 = m0 at *
          generalize pairE 1 = m1 at *
          generalize pairE 2 = m2 at *
          have HQ0 := Lib.hid (fun h => quoOut0 xs hN4.out h)
          have HQK := Lib.hid (fun K h h0 h5 => quoOutK xs hN4.out K h h0 h5)
          generalize w16At (xs.drop sz) 0 = SP at *
          generalize w16At (xs.drop sz) 2 = DP at *
          by_cases s0 : SP = 0
          · subst s0
            go_wp2_with (first | ((with_reducible refine look_store ?_); refine wpList_store_row rfl _ _ _ rfl _ _ rfl rfl _ _ hr2 (by kernel_rfl) (by simp) (by simp [Value.oneCell']) ?_) | fail)
            refine bodyPost_ret (results_cell_tmp2 Tryz.results66 _ _ _ _ _ _ _ rfl (setRow_heap _ _ _ _ _ _ hr2) Tryz.underlying39 rfl (by kernel_rfl)) rfl ⟨?_, below_setRow hbw2 (by omega) _⟩
            rw [HQ0.out (by rw [HKd.out]; simp)]
            rfl
          by_cases d0 : DP = 0
          · subst d0
            have s0b : (SP == 0) = false := by simpa using s0
            clear s0
            go_wp2_with (first | ((with_reducible refine look_store ?_); refine wpList_store_row rfl _ _ _ rfl _ _ rfl rfl _ _ hr2 (by kernel_rfl) (by simp) (by simp [Value.oneCell']) ?_) | fail)
            refine bodyPost_ret (results_cell_tmp2 Tryz.results66 _ _ _ _ _ _ _ rfl (setRow_heap _ _ _ _ _ _ hr2) Tryz.underlying39 rfl (by kernel_rfl)) rfl ⟨?_, below_setRow hbw2 (by omega) _⟩
            rw [HQ0.out (by rw [HKd.out]; simp)]
            rfl
          have s0b : (SP == 0) = false := by simpa using s0
          have d0b : (DP == 0) = false := by simpa using d0
          have HQf := Lib.hid (HQK.out KK (by rw [HKd.out, if_neg (by omega)]) (by have := HKK2.out; omega) (by have := HKK2.out; omega))
          rw [HKy.out] at HQf
          have k0b : (KK == 0) = false := by have := HKK2.out; simp; omega
          have k5b : (KK == 5) = false := by have := HKK2.out; simp; omega
          clear s0 d0 HQ0 HQK HKd HKy
          go_wp2_with (first | ((with_reducible refine look_store ?_); refine wpList_store_row rfl _ _ _ rfl _ _ rfl rfl _ _ hr2 (by kernel_rfl) (by simp) (by simp [Value.oneCell']) ?_) | ((with_reducible refine look_load ?_); refine wpList_load_row rfl _ _ rfl _ rfl _ _ _ _ hb Tryz.underlying39 rfl (by kernel_rfl) ?_) | fail)
          refine bodyPost_ret (results_cell_tmp2 Tryz.results66 _ _ _ _ _ _ _ rfl (setRow_heap _ _ _ _ _ _ hr2) Tryz.underlying39 rfl (by kernel_rfl)) rfl ⟨?_, below_setRow hbw2 (by omega) _⟩
          rw [HQf.out]
          rfl
      · have e6 : (X9 == 6) = false := by simp; omega
        have e17 : (X9 == 17) = false := by simp; omega
        by_cases h1 : X9 = 1
        case neg =>
          have e1 : (X9 == 1) = false := by simpa using h1
          have HQ0 := Lib.hid (quoOut0 xs hN4.out (by unfold quoKind; rw [HX9.out]; dsimp only; rw [if_neg hp, if_neg h1]))
          have hr2 := hSt2.get 1 rfl
          have hbw2 := hSt2.1
          have hzz := hSt2.2.1
          unfold keyZ at hr2
          clear hp h1 hSt2 hg
          go_wp2_with (first | ((with_reducible refine look_store ?_); refine wpList_store_row rfl _ _ _ rfl _ _ rfl rfl _ _ hr2 (by kernel_rfl) (by simp) (by simp [Value.oneCell']) ?_) | fail)
          refine bodyPost_ret (results_cell_tmp2 Tryz.results66 _ _ _ _ _ _ _ rfl (setRow_heap _ _ _ _ _ _ hr2) Tryz.underlying39 rfl (by kernel_rfl)) rfl ⟨?_, below_setRow hbw2 (by omega) _⟩
          rw [HQ0.out]
          rfl
        subst h1
        have HKy := Lib.hid (show (quoKey xs).cells.toArray = keySt 1 (l32At xs 12) (l32At xs 16) (w16At (xs.drop sz) 4) (w16At (xs.drop sz) 4) 2 by unfold quoKey; rw [HX9.out, Hsz2.out]; dsimp only; rw [if_neg hp, if_pos rfl]; rfl)
        have HKd := Lib.hid (show quoKind xs = kind1 ((xs.drop sz).getD 0 0).toNat ((xs.drop sz).getD 1 0).toNat by unfold quoKind; rw [HX9.out, Hsz2.out]; dsimp only; rw [if_neg hp, if_pos rfl])
        clear hp
        generalize (xs.drop sz).getD 0 0 = r0 at *
        generalize (xs.drop sz).getD 1 0 = r1 at *
        generalize kind1 r0.toNat r1.toNat = KK at *
        generalize kind2 r0.toNat r1.toNat = KE at *
        go_wp2_with fail
        have hN : StN w w.heap.size _ g 39 (keySt 1 (l32At xs 12) (l32At xs 16) (w16At (xs.drop sz) 4) (w16At (xs.drop sz) 4)) 0 W := ⟨hSt2, by omega, by simp; omega, hg⟩
        refine wp_region_walk (by kernel_rfl) (StN w w.heap.size _ g 39 (keySt 1 (l32At xs 12) (l32At xs 16) (w16At (xs.drop sz) 4) (w16At (xs.drop sz) 4))) [7, 9] GTop [] (fun _ _ _ => True) [0, 1, 2, 3, 4, 5, 6, 7, 8, 9] (by kernel_rfl) (fun _ h => by simp at h) hN.drew ?_
        clear hN hSt2 hg hc0 hc5 hpc
        iterate 2
          apply Walk.one rfl rfl rfl
          case hrun =>
            intro c W hE hF
            go_wp2_with fail
            exact TextPost.mk ⟨GTop.mk, hE⟩
          case hv => rfl
        apply Walk.one rfl rfl rfl
        case hrun =>
          intro c W hE hF
          go_wp2_with fail
          refine (HR.out 4 (by omega) W hE.1.1 (by have := hE.1.2.1; omega)).mono ?_
          rintro e W2 ⟨rfl, l2⟩
          go_wp2_with fail
          exact TextPost.mk ⟨GTop.mk, StN.belowQ hE l2⟩
        case hv => rfl
        iterate 2
          apply Walk.one rfl rfl rfl
          case hrun =>
            intro c W hE hF
            go_wp2_with fail
            exact TextPost.mk ⟨GTop.mk, hE⟩
          case hv => rfl
        apply Walk.one rfl rfl rfl
        case hrun =>
          intro c W hE hF
          go_wp2_with fail
          refine (HR.out 4 (by omega) W hE.1.1 (by have := hE.1.2.1; omega)).mono ?_
          rintro e W2 ⟨rfl, l2⟩
          go_wp2_with fail
          exact TextPost.mk ⟨GTop.mk, StN.belowQ hE l2⟩
        case hv => rfl
        apply Walk.one rfl rfl rfl
        case hrun =>
          intro c W hE hF
          go_wp2_with fail
          exact TextPost.mk ⟨GTop.mk, hE⟩
        case hv => rfl
        apply Walk.keep 0 rfl rfl rfl rfl
        case hrun =>
          intro W hE hF
          have hb : Blk W g 39 #[.int .u8 1, .int .u32 (l32At xs 12), .int .u32 (l32At xs 16), .int .u16 0, .int .u16 0] := hE.2.2.2
          have hcx := hb.cell 3
          have hfx := hb.frozen 3
          go_wp2_with fail
          exact TextPost.mk ⟨GTop.mk, hE.set 3 _ rfl⟩
        case hv => rfl
        apply Walk.one rfl rfl rfl
        case hrun =>
          intro c W hE hF
          go_wp2_with fail
          exact TextPost.mk ⟨GTop.mk, hE⟩
        case hv => rfl
        apply Walk.keep 1 rfl rfl rfl rfl
        case hrun =>
          intro W hE hF
          have hb : Blk W g 39 #[.int .u8 1, .int .u32 (l32At xs 12), .int .u32 (l32At xs 16), .int .u16 (w16At (xs.drop sz) 4), .int .u16 0] := hE.2.2.2
          have hcx := hb.cell 4
          have hfx := hb.frozen 4
          go_wp2_with fail
          exact TextPost.mk ⟨GTop.mk, hE.set 4 _ rfl⟩
        case hv => rfl
        refine Walk.done (fun W hE hF => ?_)
        have hN2 : StN w w.heap.size _ g 39 (keySt 1 (l32At xs 12) (l32At xs 16) (w16At (xs.drop sz) 4) (w16At (xs.drop sz) 4)) 2 W := hE
        clear hE hF
        go_wp2_with fail
        refine wp_region_walk (by kernel_rfl) (fun _ W => StN w w.heap.size _ g 39 (keySt 1 (l32At xs 12) (l32At xs 16) (w16At (xs.drop sz) 4) (w16At (xs.drop sz) 4)) 2 W) [] GTop [] (fun _ _ _ => True) [0, 1, 2, 3, 4, 5, 6, 7, 8, 9, 10] (by kernel_rfl) (fun _ h => by simp at h) hN2.drew ?_
        iterate 11
          apply Walk.one rfl rfl rfl
          case hrun =>
            intro c W hE hF
            have hb1 := hE.1.1
            have d0 := (hb1.cell (p := ⟨b, off + sz, none⟩) hbl).trans Hcs0.out
            have d1 := (hb1.cell (p := ⟨b, off + (sz + 1), none⟩) hbl).trans Hcs1.out
            rw [← Nat.add_assoc] at d1
            have Hs2 := Lib.hid (Hs.out.below hb1 (Nat.le_refl _))
            go_wp2_with (first | (go_at_call 20; refine (HKc.out _ Hs2.out).mono ?_; rintro e wk ⟨rfl, rfl⟩) | fail)
            exact TextPost.mk ⟨GTop.mk, hE⟩
          case hv => rfl
        refine Walk.done (fun W hE hF => ?_)
        have hb : Blk W g 39 #[.int .u8 1, .int .u32 (l32At xs 12), .int .u32 (l32At xs 16), .int .u16 (w16At (xs.drop sz) 4), .int .u16 (w16At (xs.drop sz) 4)] := hE.2.2.2
        have hr2 := hE.1.get 1 rfl
        have hbw2 := hE.1.1
        have hzz := hE.1.2.1
        unfold keyZ at hr2
        have HQ0 := Lib.hid (fun h => quoOut0 xs hN4.out h)
        have HQ5 := Lib.hid (fun h => quoOut5 xs hN4.out h)
        have HQK := Lib.hid (fun K h h0 h5 => quoOutK xs hN4.out K h h0 h5)
        rw [HKd.out] at HQ0 HQ5 HQK
        clear hE hF hN2
        by_cases k0 : KK = 0
        · subst k0
          go_wp2_with (first | ((with_reducible refine look_store ?_); refine wpList_store_row rfl _ _ _ rfl _ _ rfl rfl _ _ hr2 (by kernel_rfl) (by simp) (by simp [Value.oneCell']) ?_) | fail)
          refine bodyPost_ret (results_cell_tmp2 Tryz.results66 _ _ _ _ _ _ _ rfl (setRow_heap _ _ _ _ _ _ hr2) Tryz.underlying39 rfl (by kernel_rfl)) rfl ⟨?_, below_setRow hbw2 (by omega) _⟩
          rw [HQ0.out (by simp)]
          rfl
        by_cases k5 : KK = 5
        · subst k5
          go_wp2_with (first | ((with_reducible refine look_store ?_); refine wpList_store_row rfl _ _ _ rfl _ _ rfl rfl _ _ hr2 (by kernel_rfl) (by simp) (by simp [Value.oneCell']) ?_) | fail)
          refine bodyPost_ret (results_cell_tmp2 Tryz.results66 _ _ _ _ _ _ _ rfl (setRow_heap _ _ _ _ _ _ hr2) Tryz.underlying39 rfl (by kernel_rfl)) rfl ⟨?_, below_setRow hbw2 (by omega) _⟩
          rw [HQ5.out (by simp)]
          rfl
        have k0b : (KK == 0) = false := by simpa using k0
        have k5b : (KK == 5) = false := by simpa using k5
        have HQf := Lib.hid (HQK.out KK rfl k0 k5)
        rw [HKy.out] at HQf
        clear k0 k5
        go_wp2_with (first | ((with_reducible refine look_store ?_); refine wpList_store_row rfl _ _ _ rfl _ _ rfl rfl _ _ hr2 (by kernel_rfl) (by simp) (by simp [Value.oneCell']) ?_) | ((with_reducible refine look_load ?_); refine wpList_load_row rfl _ _ rfl _ rfl _ _ _ _ hb Tryz.underlying39 rfl (by kernel_rfl) ?_) | fail)
        refine bodyPost_ret (results_cell_tmp2 Tryz.results66 _ _ _ _ _ _ _ rfl (setRow_heap _ _ _ _ _ _ hr2) Tryz.underlying39 rfl (by kernel_rfl)) rfl ⟨?_, below_setRow hbw2 (by omega) _⟩
        rw [HQf.out]
        rfl
end Go.Proofs.YtebeekjcepjcnaaGreatDoor
