/-
  tcp.Read: the header of a segment, where its data begins, and the first error.
-/
import Derived.Test.YtebeekjcepjcnaaGreatDoorRIpre
namespace Go.Proofs.YtebeekjcepjcnaaGreatDoor
open Go.RowKit
set_option maxRecDepth 100000 in
set_option maxHeartbeats 1000000 in
theorem tcpWord_any (A : Option Addr) (cap n : Nat) (xs : List Int) (w : World) (hn : xs.length = n) (hl : 2 ≤ n) (hb : Byt xs) (hr : Rd w w.heap.size A .u8 xs) :
    Calls Tryz.prog 88 #[.slice A n cap] w fun e w' => e = .returned (.int .u16 (w16At xs 0)) ∧ Below w.heap.size w w' := by
  obtain ⟨b, off, rfl, hbl, hc⟩ := hr.at0 (by omega)
  have c0 := hc 0 (by omega)
  have c1 := hc 1 (by omega)
  obtain ⟨x0, x1⟩ := hb.at_ 0
  obtain ⟨y0, y1⟩ := hb.at_ 1
  have ho := or_word (xs.getD 0 0) (xs.getD 1 0) x0 x1 y0 y1
  rw [show w16 (xs.getD 0 0) (xs.getD 1 0) = w16At xs 0 from rfl] at ho
  clear hr hc hn
  generalize w16At xs 0 = R at *
  generalize xs.getD 0 0 = x at *
  generalize xs.getD 1 0 = y at *
  rw [Nat.add_zero] at c0
  go_enter Tryz.func88, Tryz.ntmps88
  go_wp2_with fail
  refine wp_region_walk0 (by kernel_rfl) (fun _ W => St w w.heap.size [] W) [] Grow [0, 1, 2, 3, 4, 5, 6, 7, 8, 9, 10] (by kernel_rfl) (St.nil (Below.refl _ w) (Nat.le_refl _)).drew ?_
  iterate 11
    apply Walk.one rfl rfl rfl
    case hrun =>
      intro c W hE hF
      have d0 := (hE.1.cell (p := ⟨b, off, none⟩) hbl).trans c0
      have d1 := (hE.1.cell (p := ⟨b, off + 1, none⟩) hbl).trans c1
      go_wp2_with fail
      exact TextPost.mk ⟨Grow.refl _, hE⟩
    case hv => rfl
  refine Walk.done (fun W hE hF => ?_)
  have hbW := hE.1
  clear hE hF
  go_wp2_with fail
  go_ret
  exact ⟨rfl, hbW⟩

set_option maxRecDepth 100000 in
set_option maxHeartbeats 1000000 in
theorem tcpLong_any (A : Option Addr) (cap n : Nat) (xs : List Int) (w : World) (hn : xs.length = n) (hl : 4 ≤ n) (hcap : n ≤ cap) (hb : Byt xs) (hr : Rd w w.heap.size A .u8 xs) :
    Calls Tryz.prog 89 #[.slice A n cap] w fun e w' => e = .returned (.int .u32 (l32At xs 0)) ∧ Below w.heap.size w w' := by
  obtain ⟨b, off, rfl, hbl, hc⟩ := hr.at0 (by omega)
  have H0 := Lib.hid (fun W (h : Below w.heap.size w W) => tcpWord_any (some ⟨b, off, none⟩) cap n xs W hn (by omega) hb (hr.belows h (Nat.le_refl _)))
  have H2 := Lib.hid (fun W (h : Below w.heap.size w W) => tcpWord_any (some ⟨b, off + 2, none⟩) (cap - 2) (n - 2) (xs.drop 2) W (by simp [hn]) (by omega) (hb.drop 2) ((hr.word 2).belows h (Nat.le_refl _)))
  rw [w16At_drop] at H2
  obtain ⟨x0, x1⟩ := w16At_bd hb 0
  obtain ⟨y0, y1⟩ := w16At_bd hb 2
  have ho := or_u32_long (w16At xs 0) (w16At xs 2) x0 x1 y0 y1
  rw [show 65536 * w16At xs 0 + w16At xs 2 = l32At xs 0 from rfl] at ho
  clear hr hb hn hc
  generalize l32At xs 0 = R at *
  generalize w16At xs 0 = x at *
  rw [show 2 + 0 = 2 from rfl] at H2
  generalize w16At xs 2 = y at *
  have hw1 : x % 4294967296 = x := by omega
  have hw2 : y % 4294967296 = y := by omega
  have hc2 : ¬ cap = 2 := by omega
  have hn2 : (2 : Int) ≤ n := by omega
  go_enter Tryz.func89, Tryz.ntmps89
  go_wp2_with fail
  refine wp_region_walk0 (by kernel_rfl) (fun _ W => St w w.heap.size [] W) [] Grow [0, 1, 2, 3, 4, 5, 6, 7, 8, 9] (by kernel_rfl) (St.nil (Below.refl _ w) (Nat.le_refl _)).drew ?_
  iterate 10
    apply Walk.one rfl rfl rfl
    case hrun =>
      intro c W hE hF
      have hb1 := hE.1
      go_wp2_with (first | ((with_reducible refine (H0.out _ hb1).mono ?_); rintro e wk ⟨rfl, lk⟩) | ((with_reducible refine (H2.out _ hb1).mono ?_); rintro e wk ⟨rfl, lk⟩) | fail)
      first
        | exact TextPost.mk ⟨Grow.refl _, hE⟩
        | exact TextPost.mk ⟨lk, hE.below lk⟩
    case hv => rfl
  refine Walk.done (fun W hE hF => ?_)
  have hbW := hE.1
  clear hE hF
  go_wp2_with fail
  go_ret
  exact ⟨rfl, hbW⟩

def tcpZ : Array Value := #[.int .u16 0, .int .u16 0, .int .u32 0, .int .u32 0, .int .u8 0, .int .u16 0, .int .u16 0, .slice none 0 0]
def tcpN (d : List Int) (v : Value) : Array Value := #[.int .u16 (w16At d 0), .int .u16 (w16At d 2), .int .u32 (l32At d 4), .int .u32 (l32At d 8), .int .u8 (d.getD 13 0), .int .u16 (w16At d 14), .int .u16 (w16At d 18), v]
theorem results_cell_tmp2 {P : Program} {fn : Func} {p q r : Tmp} {ty : TypeId} (h : fn.results = #[.cell p ty, .tmp q, .tmp r]) (tmps : Array Value) (w : World) (g : Nat) (t : TypeId) (cs : Array Value) (fr : Nat × Nat) (d : TypeDesc)
    (hp : tmps.getD p undef = .pointer (some ⟨g, 0, none⟩)) (hg : w.heap[g]? = some (.cells cs t fr))
    (hu : P.underlying ty = some d) (hd : (match d with | .struct _ | .array _ _ => true | _ => false) = true) (hi : (P.info? ty).map (·.size) = some cs.size) :
    (results fn tmps).run P w = .ok (.tuple #[.agg cs, tmps.getD q undef, tmps.getD r undef]) w := by
  have hp' : tmps[p]?.getD undef = .pointer (some ⟨g, 0, none⟩) := by simpa using hp
  simp [results, h, hp', asAddr, run_loadVar_row w g t ty cs fr d hg hu hd hi]
def TcpOut (w : World) (d : List Int) (e : Ending) (W : World) : Prop := ∃ v, v.oneCell' = true ∧ e = .returned (.tuple #[.agg (if tcpE d = 0 then tcpN d v else tcpZ), .int .i64 (if tcpE d = 0 then tcpSize d else 0), .int .i64 (tcpE d)]) ∧ Below w.heap.size w W
set_option maxRecDepth 100000 in
set_option maxHeartbeats 8000000 in
theorem tcpRead_any (A : Option Addr) (cap n : Nat) (xs : List Int) (w : World) (hn : xs.length = n) (hcap : n ≤ cap) (hl : n ≤ 1000000) (hb : Byt xs) (hr : Rd w w.heap.size A .u8 xs) :
    Calls Tryz.prog 64 #[.slice A n cap] w (TcpOut w xs) := by
  by_cases h20 : n < 20
  · have HE := Lib.hid (show tcpE xs = 80 by unfold tcpE; rw [if_pos (by omega)])
    have g1 : (n : Int) < 20 := by omega
    go_enter Tryz.func64, Tryz.ntmps64
    go_wp2_with (first | ((with_reducible refine look_store ?_); refine wpList_store_new rfl _ _ _ rfl _ _ rfl rfl _ _ rfl (by kernel_rfl) (by simp) (by simp [Value.oneCell']) ?_) | fail)
    refine bodyPost_ret (results_cell_tmp2 Tryz.results64 _ _ _ _ _ _ _ rfl (Blk.new _ _ _) Tryz.underlying110 rfl (by kernel_rfl)) rfl ⟨.int .i64 0, rfl, ?_, (Below.refl _ _).alloc (Nat.le_refl _) _⟩
    rw [HE.out]; rfl
  obtain ⟨b, off, rfl, hbl, hc⟩ := hr.at0 (by omega)
  have c12 := hc 12 (by omega)
  have c13 := hc 13 (by omega)
  have H0 := Lib.hid (fun W (h : Below w.heap.size w W) => tcpWord_any (some ⟨b, off, none⟩) cap n xs W (by simp [hn]) (by omega) (hb) (hr.belows h (Nat.le_refl _)))
  have H2 := Lib.hid (fun W (h : Below w.heap.size w W) => tcpWord_any (some ⟨b, off + 2, none⟩) (cap - 2) (n - 2) (xs.drop 2) W (by simp [hn]) (by omega) (hb.drop 2) ((hr.word 2).belows h (Nat.le_refl _)))
  rw [w16At_drop] at H2
  have H4 := Lib.hid (fun W (h : Below w.heap.size w W) => tcpLong_any (some ⟨b, off + 4, none⟩) (cap - 4) (n - 4) (xs.drop 4) W (by simp [hn]) (by omega) (by omega) (hb.drop 4) ((hr.word 4).belows h (Nat.le_refl _)))
  rw [l32At_drop] at H4
  have H8 := Lib.hid (fun W (h : Below w.heap.size w W) => tcpLong_any (some ⟨b, off + 8, none⟩) (cap - 8) (n - 8) (xs.drop 8) W (by simp [hn]) (by omega) (by omega) (hb.drop 8) ((hr.word 8).belows h (Nat.le_refl _)))
  rw [l32At_drop] at H8
  have H14 := Lib.hid (fun W (h : Below w.heap.size w W) => tcpWord_any (some ⟨b, off + 14, none⟩) (cap - 14) (n - 14) (xs.drop 14) W (by simp [hn]) (by omega) (hb.drop 14) ((hr.word 14).belows h (Nat.le_refl _)))
  rw [w16At_drop] at H14
  have H18 := Lib.hid (fun W (h : Below w.heap.size w W) => tcpWord_any (some ⟨b, off + 18, none⟩) (cap - 18) (n - 18) (xs.drop 18) W (by simp [hn]) (by omega) (hb.drop 18) ((hr.word 18).belows h (Nat.le_refl _)))
  rw [w16At_drop] at H18
  obtain ⟨x0, x1⟩ := hb.at_ 12
  obtain ⟨y0, y1⟩ := hb.at_ 13
  have HE := Lib.hid (show tcpE xs = (if tcpSize xs < 20 ∨ (n : Int) < tcpSize xs then 81 else if xs.getD 12 0 % 16 ≠ 0 ∨ saneB (xs.getD 13 0).toNat = false then 82 else if w16At xs 0 = 0 ∨ w16At xs 2 = 0 then 83 else 0) by
    unfold tcpE; rw [if_neg (by omega), hn])
  have HSz := Lib.hid (show tcpSize xs = 4 * (xs.getD 12 0 / 16) from rfl)
  have HCl : Hid (∀ (W : World) (A' : Option Addr) (c : Nat) (ys : List Int), ys.length ≤ 60 → Rd W W.heap.size A' .u8 ys → Calls Tryz.prog 70 #[.slice A' ys.length c] W fun e w' => ∃ v, e = .returned v ∧ Own w' W.heap.size v ys ∧ Below W.heap.size W w') := Lib.hid fun W A' c ys hy h => clone_any A' c _ W h (by omega)
  have HR := Lib.hid hr
  have HB := Lib.hid hb
  have HNx := Lib.hid hn
  have g1 : ¬ (n : Int) < 20 := by omega
  have k2 : ¬ cap = 2 := by omega
  have k4 : ¬ cap = 4 := by omega
  have k8 : ¬ cap = 8 := by omega
  have k14 : ¬ cap = 14 := by omega
  have k18 : ¬ cap = 18 := by omega
  have n2 : (2 : Int) ≤ n := by omega
  have n4 : (4 : Int) ≤ n := by omega
  have n8 : (8 : Int) ≤ n := by omega
  have n14 : (14 : Int) ≤ n := by omega
  have n18 : (18 : Int) ≤ n := by omega
  have n12 : (12 : Int) < n := by omega
  have n13 : (13 : Int) < n := by omega
  clear hr hb hn hc
  rw [show 2 + 0 = 2 from rfl] at H2
  rw [show 4 + 0 = 4 from rfl] at H4
  rw [show 8 + 0 = 8 from rfl] at H8
  rw [show 14 + 0 = 14 from rfl] at H14
  rw [show 18 + 0 = 18 from rfl] at H18
  have HTN := Lib.hid (show ∀ v, tcpN xs v = #[.int .u16 (w16At xs 0), .int .u16 (w16At xs 2), .int .u32 (l32At xs 4), .int .u32 (l32At xs 8), .int .u8 (xs.getD 13 0), .int .u16 (w16At xs 14), .int .u16 (w16At xs 18), v] from fun v => rfl)
  generalize w16At xs 0 = p0 at *
  generalize w16At xs 2 = p2 at *
  generalize l32At xs 4 = s4 at *
  generalize l32At xs 8 = s8 at *
  generalize w16At xs 14 = p14 at *
  generalize w16At xs 18 = p18 at *
  generalize xs.getD 12 0 = x at *
  generalize xs.getD 13 0 = y at *
  go_enter Tryz.func64, Tryz.ntmps64
  go_upto_region 1 with (first | ((with_reducible refine look_store ?_); refine wpList_store_new rfl _ _ _ rfl _ _ rfl rfl _ _ rfl (by kernel_rfl) (by simp) (by simp [Value.oneCell']) ?_) | fail)
  refine wp_name1 ?_
  intro w1 hb1 hs1 br
  have d12' := (hb1.cell (p := ⟨b, off + 12, none⟩) hbl).trans c12
  have hs1' := Lib.hid hs1
  clear hs1
  go_wp2_with fail
  have hs1 := hs1'.out
  clear d12'
  have hSt := (St.nil hb1 hb1.size).cons br
  have hsz1 : w.heap.size < w1.heap.size := br.lt
  clear hs1 br
  refine wp_region_walk (by kernel_rfl) (fun _ W => St w w.heap.size [(w.heap.size, 110, #[.int .u16 0, .int .u16 0, .int .u32 0, .int .u32 0, .int .u8 0, .int .u16 0, .int .u16 0, .slice none 0 0])] W ∧ w1.heap.size ≤ W.heap.size) [] (Late w1.heap.size 110 #[.int .u16 0, .int .u16 0, .int .u32 0, .int .u32 0, .int .u8 0, .int .u16 0, .int .u16 0, .slice none 0 0] #[.int .u16 p0, .int .u16 p2, .int .u32 s4, .int .u32 s8, .int .u8 y, .int .u16 p14, .int .u16 p18, .slice none 0 0])
    [21] (fun _ => LateB w1.heap.size 110 #[.int .u16 0, .int .u16 0, .int .u32 0, .int .u32 0, .int .u8 0, .int .u16 0, .int .u16 0, .slice none 0 0] #[.int .u16 p0, .int .u16 p2, .int .u32 s4, .int .u32 s8, .int .u8 y, .int .u16 p14, .int .u16 p18, .slice none 0 0]) [0, 1, 2, 3, 4, 5, 6, 7, 8, 9, 10, 11, 12, 13, 14, 15, 16, 17, 18, 19, 20, 21, 22] (by kernel_rfl) ?hfree ⟨hSt.drew, Nat.le_refl _⟩ ?hwalk
  case hfree =>
    intro k hk
    obtain rfl : k = 21 := by simpa using hk
    refine ⟨rfl, LateB.keep, fun o ho a c W hE => ?_⟩
    simp at ho
    subst ho
    go_wp2_with fail
    exact ⟨_, rfl, ⟨W.heap.size, rfl, hE.2, .inl (Blk.new _ _ _)⟩, Late.grown ((Below.refl _ _).alloc (Nat.le_refl _) _) hE.2, hE.1.alloc _, by simp; have := hE.2; omega⟩
  iterate 21
    apply Walk.one rfl rfl rfl
    case hrun =>
      intro c W hE hF
      have hb1 := hE.1.1
      have d13 := (hb1.cell (p := ⟨b, off + 13, none⟩) hbl).trans c13
      go_wp2_with (first | ((with_reducible refine (H0.out _ hb1).mono ?_); rintro e wk ⟨rfl, lk⟩) | ((with_reducible refine (H2.out _ hb1).mono ?_); rintro e wk ⟨rfl, lk⟩) | ((with_reducible refine (H4.out _ hb1).mono ?_); rintro e wk ⟨rfl, lk⟩) | ((with_reducible refine (H8.out _ hb1).mono ?_); rintro e wk ⟨rfl, lk⟩) | ((with_reducible refine (H14.out _ hb1).mono ?_); rintro e wk ⟨rfl, lk⟩) | ((with_reducible refine (H18.out _ hb1).mono ?_); rintro e wk ⟨rfl, lk⟩) | fail)
      first
        | exact TextPost.mk ⟨Late.refl _, hE⟩
        | exact TextPost.mk ⟨Late.grown lk hE.2, hE.1.below lk, Nat.le_trans hE.2 lk.size⟩
    case hv => rfl
  refine Walk.freeOp LateB.keep rfl rfl (by kernel_rfl) ?_ (fun u6 => ?_)
  · intro a c W hE
    go_wp2_with fail
    exact ⟨_, rfl, ⟨W.heap.size, rfl, hE.2, .inl (Blk.new _ _ _)⟩, Late.grown ((Below.refl _ _).alloc (Nat.le_refl _) _) hE.2, hE.1.alloc _, by simp; have := hE.2; omega⟩
  dsimp only [Act.put]
  simp only [List.setIfInBounds_toArray, List.set_cons_succ, List.set_cons_zero]
  refine Walk.whatever (fun _ W => LateN w1.heap.size 110 #[.int .u16 p0, .int .u16 p2, .int .u32 s4, .int .u32 s8, .int .u8 y, .int .u16 p14, .int .u16 p18, .slice none 0 0] u6 W) (fun _ => LateN.keep u6) rfl rfl rfl (by kernel_rfl) ?_ (fun uu => ?_)
  · intro c W hE hF
    obtain ⟨g, rfl, hg0, hg | hg⟩ := hF.head
    all_goals
      refine wpList_store_row rfl _ _ _ rfl g #[.int .u16 p0, .int .u16 p2, .int .u32 s4, .int .u32 s8, .int .u8 y, .int .u16 p14, .int .u16 p18, .slice none 0 0] rfl rfl _ _ hg (by kernel_rfl) (by simp) (by simp [Value.oneCell']) ?_
      go_wp2_with fail
      refine ⟨undef, rfl, ⟨g, rfl, hg0, setRow_heap _ _ _ _ _ _ hg⟩, ?_, hE.1.rowFar (by omega) (by simp; omega) _, by simpa using hE.2⟩
    · exact Late.store hg (by omega)
    · exact Late.again hg (by omega)
  dsimp only [Act.put]
  refine Walk.done (fun W hE hF => ?_)
  obtain ⟨gh, rfl, hgh, hh⟩ := hF.head
  have br2 := hE.1.get 0 rfl
  have hbW := hE.1.1
  have h4 := hh.cell 4
  have h0 := hh.cell 0
  have h1 := hh.cell 1
  have d12 := (hbW.cell (p := ⟨b, off + 12, none⟩) hbl).trans c12
  clear hE hF hSt H0 H2 H4 H8 H14 H18
  by_cases q1 : 4 * (x / 16) < 20
  · have e1 : decide (4 * (x / 16) < 20) = true := by simpa using q1
    go_wp2_with (first | ((with_reducible refine look_store ?_); refine wpList_store_row rfl _ _ _ rfl _ _ rfl rfl _ _ br2 (by kernel_rfl) (by simp) (by simp [Value.oneCell']) ?_) | fail)
    refine bodyPost_ret (results_cell_tmp2 Tryz.results64 _ _ _ _ _ _ _ rfl (setRow_heap _ _ _ _ _ _ br2) Tryz.underlying110 rfl (by kernel_rfl)) rfl ⟨.int .i64 0, rfl, ?_, below_setRow hbW (Nat.le_refl _) _⟩
    have hE : tcpE xs = 81 := by rw [HE.out, HSz.out]; rw [if_pos (.inl q1)]
    rw [hE]; rfl
  have e1 : decide (4 * (x / 16) < 20) = false := by simpa using q1
  by_cases q2 : (n : Int) < 4 * (x / 16)
  · have e2 : decide ((n : Int) < 4 * (x / 16)) = true := by simpa using q2
    go_wp2_with (first | ((with_reducible refine look_store ?_); refine wpList_store_row rfl _ _ _ rfl _ _ rfl rfl _ _ br2 (by kernel_rfl) (by simp) (by simp [Value.oneCell']) ?_) | fail)
    refine bodyPost_ret (results_cell_tmp2 Tryz.results64 _ _ _ _ _ _ _ rfl (setRow_heap _ _ _ _ _ _ br2) Tryz.underlying110 rfl (by kernel_rfl)) rfl ⟨.int .i64 0, rfl, ?_, below_setRow hbW (Nat.le_refl _) _⟩
    have hE : tcpE xs = 81 := by rw [HE.out, HSz.out]; rw [if_pos (.inr q2)]
    rw [hE]; rfl
  have e2 : decide ((n : Int) < 4 * (x / 16)) = false := by simpa using q2
  have ha := and_u8_15 x x0 x1
  by_cases q3 : x % 16 ≠ 0
  · have e3 : (x % 16 != 0) = true := by simpa using q3
    go_wp2_with (first | ((with_reducible refine look_store ?_); refine wpList_store_row rfl _ _ _ rfl _ _ rfl rfl _ _ br2 (by kernel_rfl) (by simp) (by simp [Value.oneCell']) ?_) | fail)
    refine bodyPost_ret (results_cell_tmp2 Tryz.results64 _ _ _ _ _ _ _ rfl (setRow_heap _ _ _ _ _ _ br2) Tryz.underlying110 rfl (by kernel_rfl)) rfl ⟨.int .i64 0, rfl, ?_, below_setRow hbW (Nat.le_refl _) _⟩
    have hE : tcpE xs = 82 := by rw [HE.out, HSz.out]; rw [if_neg (by omega), if_pos (.inl q3)]
    rw [hE]; rfl
  have e3 : (x % 16 != 0) = false := by simpa using q3
  have q3' : x % 16 = 0 := by simpa using q3
  have Hq3 := Lib.hid q3'
  clear q3 q3'
  have HSa := Lib.hid (fun W => saneI_any y W y0 y1)
  rcases hsn : saneB y.toNat with _ | _
  · rw [hsn] at HSa
    have Hsn := Lib.hid hsn
    clear hsn
    go_wp2_with (first | ((with_reducible refine look_store ?_); refine wpList_store_row rfl _ _ _ rfl _ _ rfl rfl _ _ br2 (by kernel_rfl) (by simp) (by simp [Value.oneCell']) ?_) | fail)
    refine (HSa.out _).mono ?_
    rintro e w5 ⟨rfl, rfl⟩
    go_wp2_with (first | ((with_reducible refine look_store ?_); refine wpList_store_row rfl _ _ _ rfl _ _ rfl rfl _ _ br2 (by kernel_rfl) (by simp) (by simp [Value.oneCell']) ?_) | fail)
    refine bodyPost_ret (results_cell_tmp2 Tryz.results64 _ _ _ _ _ _ _ rfl (setRow_heap _ _ _ _ _ _ br2) Tryz.underlying110 rfl (by kernel_rfl)) rfl ⟨.int .i64 0, rfl, ?_, below_setRow hbW (Nat.le_refl _) _⟩
    have hE : tcpE xs = 82 := by rw [HE.out, HSz.out]; rw [if_neg (by omega), if_pos (.inr Hsn.out)]
    rw [hE]; rfl
  rw [hsn] at HSa
  have Hsn := Lib.hid hsn
  clear hsn
  by_cases q4 : p0 = 0
  · subst q4
    go_wp2_with (first | ((with_reducible refine look_store ?_); refine wpList_store_row rfl _ _ _ rfl _ _ rfl rfl _ _ br2 (by kernel_rfl) (by simp) (by simp [Value.oneCell']) ?_) | fail)
    refine (HSa.out _).mono ?_
    rintro e w5 ⟨rfl, rfl⟩
    go_wp2_with (first | ((with_reducible refine look_store ?_); refine wpList_store_row rfl _ _ _ rfl _ _ rfl rfl _ _ br2 (by kernel_rfl) (by simp) (by simp [Value.oneCell']) ?_) | fail)
    refine bodyPost_ret (results_cell_tmp2 Tryz.results64 _ _ _ _ _ _ _ rfl (setRow_heap _ _ _ _ _ _ br2) Tryz.underlying110 rfl (by kernel_rfl)) rfl ⟨.int .i64 0, rfl, ?_, below_setRow hbW (Nat.le_refl _) _⟩
    have hE : tcpE xs = 83 := by rw [HE.out, HSz.out]; rw [if_neg (by omega), if_neg (by have := Hq3.out; rw [Hsn.out]; simp [this]), if_pos (by simp)]
    rw [hE]; rfl
  have e4 : (p0 == 0) = false := by simpa using q4
  by_cases q5 : p2 = 0
  · subst q5
    go_wp2_with (first | ((with_reducible refine look_store ?_); refine wpList_store_row rfl _ _ _ rfl _ _ rfl rfl _ _ br2 (by kernel_rfl) (by simp) (by simp [Value.oneCell']) ?_) | fail)
    refine (HSa.out _).mono ?_
    rintro e w5 ⟨rfl, rfl⟩
    go_wp2_with (first | ((with_reducible refine look_store ?_); refine wpList_store_row rfl _ _ _ rfl _ _ rfl rfl _ _ br2 (by kernel_rfl) (by simp) (by simp [Value.oneCell']) ?_) | fail)
    refine bodyPost_ret (results_cell_tmp2 Tryz.results64 _ _ _ _ _ _ _ rfl (setRow_heap _ _ _ _ _ _ br2) Tryz.underlying110 rfl (by kernel_rfl)) rfl ⟨.int .i64 0, rfl, ?_, below_setRow hbW (Nat.le_refl _) _⟩
    have hE : tcpE xs = 83 := by rw [HE.out, HSz.out]; rw [if_neg (by omega), if_neg (by have := Hq3.out; rw [Hsn.out]; simp [this]), if_pos (by simp)]
    rw [hE]; rfl
  have e5 : (p2 == 0) = false := by simpa using q5
  have hyl : ((xs.take (4 * (x / 16)).toNat).drop 20).length = (4 * (x / 16)).toNat - 20 := cut_len _ _ _ (by rw [HNx.out]; omega)
  have HYl := Lib.hid hyl
  have HC2 : Hid (∀ (W : World) (A' : Option Addr) (c : Nat), Rd W W.heap.size A' .u8 ((xs.take (4 * (x / 16)).toNat).drop 20) → Calls Tryz.prog 70 #[.slice A' ((4 * (x / 16)).toNat - 20) c] W fun e w' => ∃ v, e = .returned v ∧ Own w' W.heap.size v ((xs.take (4 * (x / 16)).toNat).drop 20) ∧ Below W.heap.size W w') := Lib.hid fun W A' c h => by have := HCl.out W A' c _ (by rw [hyl]; omega) h; rwa [hyl] at this
  have HRd : Hid (cap ≠ 20 → Rd W W.heap.size (some ⟨b, off + 20, none⟩) .u8 ((xs.take (4 * (x / 16)).toNat).drop 20)) := Lib.hid fun _ => ((HR.out.take _).word 20).belows hbW (Nat.le_refl _)
  have HRe : Hid (cap = 20 → ∀ A', Rd W W.heap.size A' .u8 ((xs.take (4 * (x / 16)).toNat).drop 20)) := Lib.hid fun hc A' => by
    have : (xs.take (4 * (x / 16)).toNat).drop 20 = [] := List.eq_nil_of_length_eq_zero (by rw [hyl]; omega)
    rw [this]; exact Rd.nil
  clear hyl
  generalize (xs.take (4 * (x / 16)).toNat).drop 20 = ys at *
  have hgh2 : gh ≠ w.heap.size := by omega
  have hef : tcpE xs = 0 := by rw [HE.out, HSz.out, if_neg (by omega), if_neg (by have := Hq3.out; rw [Hsn.out]; simp [this]), if_neg (by simp [q4, q5])]
  have HE0 := Lib.hid hef
  clear hef q4 q5
  by_cases hk : cap = 20
  · subst hk
    have HRd2 := Lib.hid (HRe.out rfl (some ⟨b, off, none⟩))
    go_wp2_with fail
    refine (HSa.out _).mono ?_
    rintro e w5 ⟨rfl, rfl⟩
    go_wp2_with fail
    refine (HC2.out _ _ _ HRd2.out).mono ?_
    rintro e w6 ⟨v, rfl, ho, l6⟩
    obtain ⟨pp, rfl⟩ := ho.shape HYl.out
    have hh6 := hh.below l6 hh.lt
    have h67 := hh6.cell 7
    have h6f := hh6.frozen 7
    have hh7 : Blk (w6.setCell ⟨gh, 7, none⟩ (.slice pp.1 ((4 * (x / 16)).toNat - 20) pp.2)) gh 110 #[.int .u16 p0, .int .u16 p2, .int .u32 s4, .int .u32 s8, .int .u8 y, .int .u16 p14, .int .u16 p18, .slice pp.1 ((4 * (x / 16)).toNat - 20) pp.2] := hh6.set 7 _
    have br7 := (br2.below l6 br2.lt).far (p := ⟨gh, 7, none⟩) (by simpa using hgh2.symm) (.slice pp.1 ((4 * (x / 16)).toNat - 20) pp.2)
    have hb7 := Lib.hid ((hbW.trans (l6.mono hbW.size)).setCell (p := ⟨gh, 7, none⟩) (by show w.heap.size ≤ gh; omega) (.slice pp.1 ((4 * (x / 16)).toNat - 20) pp.2))
    clear ho h0 h1 h4
    go_wp2_with (first | ((with_reducible refine look_load ?_); refine wpList_load_row rfl _ _ rfl _ rfl _ _ _ _ hh7 Tryz.underlying110 rfl (by kernel_rfl) ?_) | ((with_reducible refine look_store ?_); refine wpList_store_row rfl _ _ _ rfl _ _ rfl rfl _ _ br7 (by kernel_rfl) (by simp) (by simp [Value.oneCell']) ?_) | fail)
    refine bodyPost_ret (results_cell_tmp2 Tryz.results64 _ _ _ _ _ _ _ rfl (setRow_heap _ _ _ _ _ _ br7) Tryz.underlying110 rfl (by kernel_rfl)) rfl ⟨.slice pp.1 ((4 * (x / 16)).toNat - 20) pp.2, rfl, ?_, below_setRow hb7.out (Nat.le_refl _) _⟩
    rw [HE0.out, if_pos rfl, if_pos rfl, HTN.out, HSz.out]; rfl
  · have HRd2 := Lib.hid (HRd.out hk)
    go_wp2_with fail
    refine (HSa.out _).mono ?_
    rintro e w5 ⟨rfl, rfl⟩
    go_wp2_with fail
    refine (HC2.out _ _ _ HRd2.out).mono ?_
    rintro e w6 ⟨v, rfl, ho, l6⟩
    obtain ⟨pp, rfl⟩ := ho.shape HYl.out
    have hh6 := hh.below l6 hh.lt
    have h67 := hh6.cell 7
    have h6f := hh6.frozen 7
    have hh7 : Blk (w6.setCell ⟨gh, 7, none⟩ (.slice pp.1 ((4 * (x / 16)).toNat - 20) pp.2)) gh 110 #[.int .u16 p0, .int .u16 p2, .int .u32 s4, .int .u32 s8, .int .u8 y, .int .u16 p14, .int .u16 p18, .slice pp.1 ((4 * (x / 16)).toNat - 20) pp.2] := hh6.set 7 _
    have br7 := (br2.below l6 br2.lt).far (p := ⟨gh, 7, none⟩) (by simpa using hgh2.symm) (.slice pp.1 ((4 * (x / 16)).toNat - 20) pp.2)
    have hb7 := Lib.hid ((hbW.trans (l6.mono hbW.size)).setCell (p := ⟨gh, 7, none⟩) (by show w.heap.size ≤ gh; omega) (.slice pp.1 ((4 * (x / 16)).toNat - 20) pp.2))
    clear ho h0 h1 h4
    go_wp2_with (first | ((with_reducible refine look_load ?_); refine wpList_load_row rfl _ _ rfl _ rfl _ _ _ _ hh7 Tryz.underlying110 rfl (by kernel_rfl) ?_) | ((with_reducible refine look_store ?_); refine wpList_store_row rfl _ _ _ rfl _ _ rfl rfl _ _ br7 (by kernel_rfl) (by simp) (by simp [Value.oneCell']) ?_) | fail)
    refine bodyPost_ret (results_cell_tmp2 Tryz.results64 _ _ _ _ _ _ _ rfl (setRow_heap _ _ _ _ _ _ br7) Tryz.underlying110 rfl (by kernel_rfl)) rfl ⟨.slice pp.1 ((4 * (x / 16)).toNat - 20) pp.2, rfl, ?_, below_setRow hb7.out (Nat.le_refl _) _⟩
    rw [HE0.out, if_pos rfl, if_pos rfl, HTN.out, HSz.out]; rfl

end Go.Proofs.YtebeekjcepjcnaaGreatDoor
