/-
  pkt.Read.
-/
import Derived.Test.YtebeekjcepjcnaaGreatDoorRPkto
namespace Go.Proofs.YtebeekjcepjcnaaGreatDoor
open Go.RowKit
def facZ : Array Value := #[.int .u8 0, .int .u32 0, .int .u32 0, .int .u16 0, .int .u16 0, .int .u8 0, .int .u8 0, .int .u8 0, .int .u8 0, .int .u32 0, .int .u32 0, .int .i64 0, .int .i64 0, .int .u8 0, .int .u32 0, .int .u32 0, .int .u16 0, .int .u16 0, .int .u8 0]
/-- The world between the operations of a region that looks up a reason. -/
structure ReaSt (w : World) (c : Nat) (W : World) : Prop where
  below : Below w.heap.size w W
  b : Blk W w.heap.size 41 facZ
def ReaG (w W W' : World) : Prop := ∀ m, w.heap.size < m → ReasonsM W m → ReasonsM W' m
theorem ReasonsM.grown {W W' : World} {m : Nat} {row : Option Nat} (h : ReasonsM W m) (hg : W.grownBy W' row) (hr : some m ≠ row) : ReasonsM W' m := (hg.block m (by
  rcases Nat.lt_or_ge m W.heap.size with hl | hl
  · exact hl
  · unfold ReasonsM at h; rw [Array.getElem?_eq_none hl] at h; cases h) hr).trans h
theorem ReaG.of {w W W' : World} (h : Below W.heap.size W W') : ReaG w W W' := fun m _ hm => hm.grown (grown_of_below (row := none) h) (by simp)
theorem ReaSt.below_ {w W W' : World} {c : Nat} (h : ReaSt w c W) (hb : Below W.heap.size W W') : ReaSt w c W' := ⟨h.below.trans (hb.mono h.below.size), h.b.below hb h.b.lt⟩

set_option maxRecDepth 100000 in
set_option maxHeartbeats 8000000 in
theorem pktRead_bad (A : Option Addr) (cap n : Nat) (xs : List Int) (w : World) (hn : xs.length = n) (hl : n ≤ 1000000) (hcap : n ≤ cap) (hB : Byt xs) (hr : Rd w w.heap.size A .u8 xs) (hN : ipN xs < 7) :
    Calls Tryz.prog 9 #[.slice A n cap] w fun e W' => e = .returned (.tuple #[(pktF xs).val, .int .u8 (pktR xs)]) ∧ Below w.heap.size w W' := by
  have hE : ipE xs = 50 + ipN xs := if_pos hN
  have HR := Lib.hid (show pktR xs = reasonOf (50 + ipN xs) by unfold pktR; rw [if_pos (by omega), hE])
  have h0 : reasonOf (50 + ipN xs) ≠ 0 := by unfold reasonOf; rw [if_pos (by omega)]; omega
  have HF := Lib.hid (show (pktF xs).val = .agg facZ by unfold pktF; rw [if_neg (by rw [HR.out]; exact h0)]; rfl)
  have HI := Lib.hid (fun (W : World) (h : Below w.heap.size w W) => ipRead_any A cap n xs W hn hl hcap hB (hr.belows h (Nat.le_refl _)))
  have HO := Lib.hid (show ∀ v, ipOut xs v = .tuple #[.agg #[.int .u8 0, .int .u16 0, .bool false, .bool false, .int .i64 0, .int .u8 0, .int .u8 0, .int .u32 0, .int .u32 0, .slice none 0 0], .int .i64 0, .int .i64 0, .int .i64 (50 + ipN xs)] from fun v => by unfold ipOut; rw [if_neg (by omega), if_neg (by omega), if_neg (by omega), hE])
  have HLk := Lib.hid (fun W m h => lookup_reasons W m h (50 + ipN xs) (.inl (by omega)))
  have en : ((50 : Int) + ipN xs != 0) = true := by simp; omega
  rw [HR.out, HF.out]
  clear hr hB hn h0 hE
  generalize reasonOf (50 + ipN xs) = RR at *
  generalize (50 : Int) + ipN xs = EE at *
  go_enter Tryz.func9, Tryz.ntmps9
  go_upto_region 1 with (first | ((with_reducible refine look_store ?_); refine wpList_store_new rfl _ _ _ rfl _ _ rfl rfl _ _ rfl (by kernel_rfl) (by simp) (by simp [Value.oneCell']) ?_) | fail)
  refine wp_name1 ?_
  intro w1 hb1 hs1 br
  go_wp2_with fail
  refine (HI.out _ hb1).mono ?_
  rintro e w2 ⟨v, rfl, ho, l2⟩
  rw [HO.out]
  have br2 := br.below l2 br.lt
  have hb2 := hb1.trans (l2.mono hb1.size)
  clear ho br hb1 hs1
  go_upto_region 2 with (first | ((with_reducible refine look_store ?_); refine wpList_store_new rfl _ _ _ rfl _ _ rfl rfl _ _ rfl (by kernel_rfl) (by simp) (by simp [Value.oneCell']) ?_) | fail)
  refine wp_name1 ?_
  intro w3 hb3 hs3 bh
  have br : Blk w3 w.heap.size 41 facZ := br2.below hb3 br2.lt
  have hbW := hb2.trans (hb3.mono hb2.size)
  clear br2 hb2 hb3 l2 bh hs3
  go_wp2_with fail
  refine wp_region_walk (by kernel_rfl) (fun c W => ReaSt w c W) [4] (ReaG w) [] (fun _ _ _ => True) [0, 2, 1, 3, 4, 5] (by kernel_rfl) (fun _ h => by simp at h) ⟨hbW.drew, br.drew⟩ ?_
  iterate 2
    apply Walk.one rfl rfl rfl
    case hrun =>
      intro c W hE hF
      go_wp2_with fail
      exact TextPost.mk ⟨fun _ _ h => h, hE⟩
    case hv => rfl
  refine Walk.anyOf (fun m : Nat => Value.map (some m)) (fun x y h => by simpa using h) (fun m W => w.heap.size < m ∧ ReasonsM W m) (fun m W W' h hG => ⟨h.1, hG m h.1 h.2⟩) rfl rfl rfl (by kernel_rfl) (by kernel_rfl) ?_ (fun m => ?_)
  · intro c W hE hF
    go_wp2_with fail
    refine (reasons_any W).mono ?_
    rintro e2 W2 ⟨m, rfl, hm0, hm, l2⟩
    go_wp2_with fail
    exact ⟨m, rfl, ⟨by have := hE.b.lt; omega, hm⟩, ReaG.of l2, hE.below_ l2⟩
  dsimp only [Act.put]
  simp only [List.setIfInBounds_toArray, List.set_cons_succ, List.set_cons_zero]
  apply Walk.one rfl rfl rfl
  case hrun =>
    intro c W hE hF
    have hlk := HLk.out W m hF.head.2
    go_wp2_with fail
    exact TextPost.mk ⟨fun _ _ h => h, hE⟩
  case hv => rfl
  apply Walk.keep 0 rfl rfl rfl rfl
  case hrun =>
    intro W hE hF
    have hb := hE.b
    unfold facZ at hb
    go_wp2_with (first | ((with_reducible refine look_store ?_); refine wpList_store_row rfl _ _ _ rfl _ _ rfl rfl _ _ hb (by kernel_rfl) (by simp) (by simp [Value.oneCell']) ?_) | fail)
    exact TextPost.mk ⟨fun m hm h => h.grown (grown_setRow _ _ _) (by simp; omega), below_setRow hE.below (Nat.le_refl _) _, setRow_heap _ _ _ _ _ _ hE.b⟩
  case hv => rfl
  apply Walk.one rfl rfl rfl
  case hrun =>
    intro c W hE hF
    go_wp2_with fail
    exact TextPost.mk ⟨fun _ _ h => h, hE⟩
  case hv => rfl
  refine Walk.done (fun W hE hF => ?_)
  have hbR := hE.b
  have hbW := hE.below
  clear hE hF
  go_wp2_with fail
  exact bodyPost_ret (results_cell_tmp Tryz.results9 _ _ _ _ _ _ _ rfl hbR Tryz.underlying41 rfl (by kernel_rfl)) rfl ⟨rfl, hbW⟩
def pmE : Nat → Array MapEntry
  | 0 => #[]
  | 1 => #[⟨.int .u8 6, (.func (.func 26) #[] #[]), 0⟩]
  | 2 => #[⟨.int .u8 6, (.func (.func 26) #[] #[]), 0⟩, ⟨.int .u8 17, (.func (.func 27) #[] #[]), 1⟩]
  | _ => #[⟨.int .u8 6, (.func (.func 26) #[] #[]), 0⟩, ⟨.int .u8 17, (.func (.func 27) #[] #[]), 1⟩, ⟨.int .u8 1, (.func (.func 28) #[] #[]), 2⟩]
theorem IpH.reason_bd (h : IpH) : 0 ≤ h.reason ∧ h.reason ≤ 12 := by
  unfold IpH.reason
  repeat' split
  all_goals omega
theorem dataE_in (p : Int) (d : List Int) (h : dataE p d ≠ 0) : (50 ≤ dataE p d ∧ dataE p d ≤ 56) ∨ (80 ≤ dataE p d ∧ dataE p d ≤ 83) ∨ (90 ≤ dataE p d ∧ dataE p d ≤ 92) ∨ (100 ≤ dataE p d ∧ dataE p d ≤ 104) := by
  have k2 : ∀ t c : Nat, kind2 t c = 0 ∨ kind2 t c = 101 ∨ kind2 t c = 102 := fun t c => by
    unfold kind2
    repeat' split
    all_goals simp
  have k3 := k2 (d.getD 0 0).toNat (d.getD 1 0).toNat
  unfold dataE tcpE udpE2 udpE icmpE2 icmpE quoE at *
  repeat' split
  all_goals first | omega | (simp at h; done) | skip
  all_goals (split at h <;> first | omega | (simp at h; done))
set_option maxRecDepth 100000 in
theorem callFunc_tcp (args : Array Value) (W : World) : (callFunc 26 args).run Tryz.prog W = .ok (.enter 26 args) W := rfl
set_option maxRecDepth 100000 in
theorem callFunc_udp (args : Array Value) (W : World) : (callFunc 27 args).run Tryz.prog W = .ok (.enter 27 args) W := rfl
set_option maxRecDepth 100000 in
theorem callFunc_icmp (args : Array Value) (W : World) : (callFunc 28 args).run Tryz.prog W = .ok (.enter 28 args) W := rfl
theorem reasonOf_ne (e : Int) (h : (50 ≤ e ∧ e ≤ 56) ∨ (80 ≤ e ∧ e ≤ 83) ∨ (90 ≤ e ∧ e ≤ 92) ∨ (100 ≤ e ∧ e ≤ 104)) : reasonOf e ≠ 0 := by
  unfold reasonOf
  repeat' split
  all_goals omega
theorem ip_sizes {xs : List Int} (hN : ipN xs = 7) : 20 ≤ ipSize xs ∧ ipSize xs ≤ ipTotal xs ∧ ipTotal xs ≤ xs.length := by
  have h := firstB_before (ipT xs) 7 0
  have h2 := h 2 (by show 2 < ipN xs; omega)
  have h3 := h 3 (by show 3 < ipN xs; omega)
  simp only [Nat.zero_add, ipT, Bool.or_eq_false_iff, decide_eq_false_iff_not] at h2 h3
  omega
set_option maxRecDepth 100000 in
set_option maxHeartbeats 16000000 in
theorem pktRead_good (A : Option Addr) (cap n : Nat) (xs : List Int) (w : World) (hn : xs.length = n) (hl : n ≤ 1000000) (hcap : n ≤ cap) (hB : Byt xs) (hr : Rd w w.heap.size A .u8 xs) (hs : SortsAt w) (hN : ipN xs = 7) :
    Calls Tryz.prog 9 #[.slice A n cap] w fun e W' => e = .returned (.tuple #[(pktF xs).val, .int .u8 (pktR xs)]) ∧ Below w.heap.size w W' := by
  obtain ⟨z1, z2, z3⟩ := ip_sizes hN
  rw [hn] at z3
  have z4 := ipSize_bd xs
  have hE : ipE xs = 0 := by unfold ipE; rw [if_neg (by omega)]
  have HI := Lib.hid (fun (W : World) (h : Below w.heap.size w W) => ipRead_any A cap n xs W hn hl hcap hB (hr.belows h (Nat.le_refl _)))
  have HO := Lib.hid (show ∀ v, ipOut xs v = .tuple #[.agg ((ipHdr xs).cells v), .int .i64 (ipSize xs), .int .i64 (ipTotal xs), .int .i64 0] from fun v => by unfold ipOut; rw [if_pos hN, if_pos hN, if_pos hN, hE]; rfl)
  have HR := Lib.hid (show pktR xs = if (ipHdr xs).reason ≠ 0 then (ipHdr xs).reason else if (ipHdr xs).proto ≠ 6 ∧ (ipHdr xs).proto ≠ 17 ∧ (ipHdr xs).proto ≠ 1 then 13 else reasonOf (dataE (ipHdr xs).proto (ipData xs)) by unfold pktR; rw [if_neg (by omega)])
  have HF := Lib.hid (show pktF xs = if pktR xs = 0 then dataF (ipHdr xs).proto (baseK (ipHdr xs).proto (ipHdr xs).src (ipHdr xs).dst) (ipData xs) else Facts.zero from rfl)
  have hol : (ipHdr xs).opts.length = ipSize xs - 20 := by show ((xs.take (ipSize xs)).drop 20).length = _; rw [List.length_drop, List.length_take]; omega
  have hob : Byt (ipHdr xs).opts := (hB.take _).drop _
  have HH := Lib.hid (fun (W : World) A' c' (hc : ipSize xs - 20 ≤ c') (h : Rd W W.heap.size A' .u8 (ipHdr xs).opts) => pktHeader_any (ipHdr xs) A' c' (ipSize xs - 20) W hol hc (by omega) hob h)
  have Hol := Lib.hid hol
  obtain ⟨b, off, rfl, hbl, hc⟩ := hr.at0 (by omega)
  have hdl : (ipData xs).length = ipTotal xs - ipSize xs := by unfold ipData; rw [List.length_drop, List.length_take]; omega
  have hdb : Byt (ipData xs) := (hB.take _).drop _
  have hdr : Rd w w.heap.size (some ⟨b, off + ipSize xs, none⟩) .u8 (ipData xs) := (hr.take (ipTotal xs)).drop (ipSize xs) fun _ b2 o2 h => by
    simp only [Option.some.injEq, Addr.mk.injEq] at h
    obtain ⟨rfl, rfl, _⟩ := h
    rfl
  have hde : ipSize xs = ipTotal xs → ipData xs = [] := fun h => List.eq_nil_of_length_eq_zero (by omega)
  have HD := Lib.hid hdl
  have HDb := Lib.hid hdb
  have HDr := Lib.hid hdr
  have HDe := Lib.hid hde
  have Hs := Lib.hid hs
  have hsl : 0 < w.heap.size := hs.lt
  have HN7 := Lib.hid (show ∀ (P : Prop), (ipN xs = 7 → P) → P from fun P h => h hN)
  clear hr hB hn hs hc hE hol hob hdl hdb hdr hde
  generalize pktR xs = RR at *
  generalize pktF xs = FF at *
  generalize ipData xs = D at *
  generalize ipSize xs = SZ at *
  generalize ipTotal xs = TOT at *
  generalize ipHdr xs = hd at *
  have hbd := hd.reason_bd
  go_enter Tryz.func9, Tryz.ntmps9
  go_upto_region 1 with (first | ((with_reducible refine look_store ?_); refine wpList_store_new rfl _ _ _ rfl _ _ rfl rfl _ _ rfl (by kernel_rfl) (by simp) (by simp [Value.oneCell']) ?_) | fail)
  refine wp_name1 ?_
  intro w1 hb1 hs1 br
  go_wp2_with fail
  refine (HI.out _ hb1).mono ?_
  rintro e w2 ⟨v, rfl, ho, l2⟩
  rw [HO.out]
  have ho2 := HN7.out _ ho
  obtain ⟨OA, oc, rfl, hro, hoc, _⟩ := ho2.open_
  have br2 := br.below l2 br.lt
  have hb2 := hb1.trans (l2.mono hb1.size)
  have HH2 := Lib.hid (fun (W : World) (h : Below w2.heap.size w2 W) => HH.out W OA oc (by rw [← Hol.out]; exact hoc) (hro.belows h (Nat.le_refl _)))
  rw [Hol.out]
  clear ho ho2 br hb1 hs1 hro hoc HO
  obtain ⟨tos, id, df, mf, off0, ttl, P, src, dst, os⟩ := hd
  simp only [IpH.cells] at *
  generalize IpH.reason _ = RS at *
  generalize hon : SZ - 20 = on at *
  clear hon
  go_upto_region 2 with (first | ((with_reducible refine look_store ?_); refine wpList_store_new rfl _ _ _ rfl _ _ rfl rfl _ _ rfl (by kernel_rfl) (by simp) (by simp [Value.oneCell']) ?_) | fail)
  refine wp_name1 ?_
  intro w3 hb3 hs3 bh
  have br : Blk w3 w.heap.size 41 facZ := br2.below hb3 br2.lt
  have hbW := hb2.trans (hb3.mono hb2.size)
  have H5 := Lib.hid (HH2.out w3 hb3)
  have hlt2 : w.heap.size < w2.heap.size := br2.lt
  clear br2 hb2 hb3 l2
  go_wp2_with (first | ((with_reducible refine look_load ?_); refine wpList_load_row rfl _ _ rfl _ rfl _ _ _ _ bh Tryz.underlying37 rfl (by kernel_rfl) ?_) | fail)
  refine H5.out.mono ?_
  rintro e w4 ⟨rfl, l4⟩
  have bh4 := bh.below l4 bh.lt
  have br4 := br.below l4 br.lt
  have hbW4 := hbW.trans (l4.mono hbW.size)
  have hz4 := l4.size
  have c6 := bh4.cell 6
  have c7 := bh4.cell 7
  have c8 := bh4.cell 8
  clear bh br hbW l4
  by_cases hrs : RS = 0
  case neg =>
    have er : decide (0 < RS) = true := by simp; omega
    have HX := Lib.hid (HR.out.trans (if_pos hrs))
    have HX2 := Lib.hid (HF.out.trans (if_neg (by rw [HX.out]; exact hrs)))
    unfold facZ at br4
    clear c6 c7 c8
    go_wp2_with (first | ((with_reducible refine look_store ?_); refine wpList_store_row rfl _ _ _ rfl _ _ rfl rfl _ _ br4 (by kernel_rfl) (by simp) (by simp [Value.oneCell']) ?_) | fail)
    exact bodyPost_ret (results_cell_tmp Tryz.results9 _ _ _ _ _ _ _ rfl (setRow_heap _ _ _ _ _ _ br4) Tryz.underlying41 rfl (by kernel_rfl)) rfl ⟨by rw [HX.out, HX2.out]; rfl, below_setRow hbW4 (Nat.le_refl _) _⟩
  subst hrs
  have HX := Lib.hid (HR.out.trans (if_neg (by simp)))
  clear HR
  have hmm := run_makeMap (P := Tryz.prog) 89 w4
  have i1 := run_insert_int (P := Tryz.prog) Tryz.underlying89 Tryz.underlying5 w4 (pmE 0) 0 6 (.func (.func 26) #[] #[]) (by rfl)
  have i2 := run_insert_int (P := Tryz.prog) Tryz.underlying89 Tryz.underlying5 w4 (pmE 1) 1 17 (.func (.func 27) #[] #[]) (by rfl)
  have i3 := run_insert_int (P := Tryz.prog) Tryz.underlying89 Tryz.underlying5 w4 (pmE 2) 2 1 (.func (.func 28) #[] #[]) (by rfl)
  rw [show (#[] : Array MapEntry) = pmE 0 from rfl] at hmm
  rw [show (pmE 0).push ⟨.int .u8 6, (.func (.func 26) #[] #[]), 0⟩ = pmE 1 from rfl] at i1
  rw [show (pmE 1).push ⟨.int .u8 17, (.func (.func 27) #[] #[]), 1⟩ = pmE 2 from rfl] at i2
  rw [show (pmE 2).push ⟨.int .u8 1, (.func (.func 28) #[] #[]), 2⟩ = pmE 3 from rfl] at i3
  have HM := Lib.hid (heap_alloc_new w4 (.map (pmE 3) 3))
  have br5 := br4.alloc (.map (pmE 3) 3)
  have bh5 := bh4.alloc (.map (pmE 3) 3)
  have hbW5 := hbW4.alloc hbW4.size (.map (pmE 3) 3)
  have HZ5 := Lib.hid (show w4.heap.size ≤ (w4.alloc (.map (pmE 3) 3)).heap.size by simp)
  have c6' := bh5.cell 6
  have c7' := bh5.cell 7
  have c8' := bh5.cell 8
  have L6 : (Instr.lookup 89 (.map (some w4.heap.size)) (.int .u8 6) true).run Tryz.prog (w4.alloc (.map (pmE 3) 3)) = .ok (.tuple #[(.func (.func 26) #[] #[]), .bool true]) (w4.alloc (.map (pmE 3) 3)) := run_lookup_int Tryz.underlying89 Tryz.underlying5 _ _ _ _ 6 0 _ true HM.out rfl
  have L17 : (Instr.lookup 89 (.map (some w4.heap.size)) (.int .u8 17) true).run Tryz.prog (w4.alloc (.map (pmE 3) 3)) = .ok (.tuple #[(.func (.func 27) #[] #[]), .bool true]) (w4.alloc (.map (pmE 3) 3)) := run_lookup_int Tryz.underlying89 Tryz.underlying5 _ _ _ _ 17 1 _ true HM.out rfl
  have L1 : (Instr.lookup 89 (.map (some w4.heap.size)) (.int .u8 1) true).run Tryz.prog (w4.alloc (.map (pmE 3) 3)) = .ok (.tuple #[(.func (.func 28) #[] #[]), .bool true]) (w4.alloc (.map (pmE 3) 3)) := run_lookup_int Tryz.underlying89 Tryz.underlying5 _ _ _ _ 1 2 _ true HM.out rfl
  have L0 := Lib.hid (fun (k : Int) (h6 : ¬ k = 6) (h17 : ¬ k = 17) (h1 : ¬ k = 1) => show (Instr.lookup 89 (.map (some w4.heap.size)) (.int .u8 k) true).run Tryz.prog (w4.alloc (.map (pmE 3) 3)) = .ok (.tuple #[.nilFunc, .bool false]) (w4.alloc (.map (pmE 3) 3)) from run_lookup_int_none Tryz.underlying89 Tryz.underlying5 _ _ _ _ k .nilFunc true HM.out (by
    have q6 : (k == 6) = false := by simpa using h6
    have q17 : (k == 17) = false := by simpa using h17
    have q1 : (k == 1) = false := by simpa using h1
    simp [pmE, Instr.findNow, Instr.sameNow, q6, q17, q1]) (by kernel_rfl))
  clear c6 c7 c8 bh4 br4 hbW4 HM
  generalize pmE 0 = m0 at *
  generalize pmE 1 = m1 at *
  generalize pmE 2 = m2 at *
  generalize pmE 3 = m3 at *
  by_cases hP : P = 6 ∨ P = 17 ∨ P = 1
  case neg =>
    have L := L0.out P (by omega) (by omega) (by omega)
    have HX2 := Lib.hid (HX.out.trans (if_pos (by omega)))
    have HX3 := Lib.hid (HF.out.trans (if_neg (by rw [HX2.out]; decide)))
    unfold facZ at br5
    clear L6 L17 L1 L0 c7' c8' hP
    go_wp2_with (first | ((with_reducible refine look_store ?_); refine wpList_store_row rfl _ _ _ rfl _ _ rfl rfl _ _ br5 (by kernel_rfl) (by simp) (by simp [Value.oneCell']) ?_) | fail)
    exact bodyPost_ret (results_cell_tmp Tryz.results9 _ _ _ _ _ _ _ rfl (setRow_heap _ _ _ _ _ _ br5) Tryz.underlying41 rfl (by kernel_rfl)) rfl ⟨by rw [HX2.out, HX3.out]; rfl, below_setRow hbW5 (Nat.le_refl _) _⟩
  have HX2 := Lib.hid (HX.out.trans (if_neg (by omega)))
  clear HX L0
  generalize w4.alloc (.map m3 3) = w5 at *
  have hz5 : w4.heap.size ≤ w5.heap.size := by have := br5.lt; have := HZ5.out; omega
  have Iz1 : (SZ : Int) ≤ TOT := by omega
  have Iz2 : (TOT : Int) ≤ cap := by omega
  have Iz0 : (0 : Int) ≤ SZ := by omega

  rcases hP with rfl | rfl | rfl
  · rw [show dataE 6 D = tcpE D by unfold dataE; rw [if_pos rfl]] at HX2
    rw [show dataF 6 (baseK 6 src dst) D = tcpF (baseK 6 src dst) D by unfold dataF; rw [if_pos rfl]] at HF
    have HLk0 := Lib.hid (fun (h : tcpE D ≠ 0) W m hm => lookup_reasons W m hm (tcpE D) (by have := dataE_in 6 D (by unfold dataE; rw [if_pos rfl]; exact h); unfold dataE at this; rw [if_pos rfl] at this; exact this))
    have HR0 := Lib.hid (fun (h : tcpE D ≠ 0) => show reasonOf (tcpE D) ≠ 0 from reasonOf_ne _ (by have := dataE_in 6 D (by unfold dataE; rw [if_pos rfl]; exact h); unfold dataE at this; rw [if_pos rfl] at this; exact this))
    have HX3 := HX2
    clear HX2
    by_cases hk : cap = SZ
    · obtain rfl : TOT = cap := by omega
      obtain rfl : n = TOT := by omega
      subst hk
      have HMe := Lib.hid (fun (W : World) (g : Nat) (hb : Below w.heap.size w W) (hg : w.heap.size ≤ g) (hB : Blk W g 91 (pkC (.slice (some ⟨b, off, none⟩) (0) (0)) (baseK 6 src dst))) => pktTcp_any 6 src dst (some ⟨b, off, none⟩) (0) (0) D g W (by rw [HDe.out rfl]; rfl) (by omega) (by omega) HDb.out (by rw [HDe.out rfl]; exact Rd.nil) hB)
      generalize tcpF (baseK 6 src dst) D = FD at *
      generalize tcpE D = EE at *
      go_wp2_with fail
      have hSt := ((St.nil hbW5 hbW5.size).cons bh5).cons br5
      clear hbW5 bh5 br5 c6' c7' c8' L6 L17 L1 hmm i1 i2 i3
      refine wp_region_walk (by kernel_rfl) (fun _ W => St w w.heap.size [(w.heap.size, 41, facZ), (w2.heap.size, 37, #[.int .u8 tos, .int .u16 id, .bool df, .bool mf, .int .i64 off0, .int .u8 ttl, .int .u8 6, .int .u32 src, .int .u32 dst, .slice OA on oc])] W ∧ w5.heap.size ≤ W.heap.size) [] (Late w5.heap.size 91 #[.slice none 0 0, .int .u8 0, .int .u32 0, .int .u32 0, .int .u16 0, .int .u16 0, .int .u8 0, .int .u8 0, .int .u8 0, .int .u8 0, .int .u32 0, .int .u32 0, .int .i64 0, .int .i64 0, .int .u8 0, .int .u32 0, .int .u32 0, .int .u16 0, .int .u16 0, .int .u8 0] #[.slice (some ⟨b, off, none⟩) (0) (0), .int .u8 6, .int .u32 src, .int .u32 dst, .int .u16 0, .int .u16 0, .int .u8 0, .int .u8 0, .int .u8 0, .int .u8 0, .int .u32 0, .int .u32 0, .int .i64 0, .int .i64 0, .int .u8 0, .int .u32 0, .int .u32 0, .int .u16 0, .int .u16 0, .int .u8 0])
        [13] (fun _ => LateB w5.heap.size 91 #[.slice none 0 0, .int .u8 0, .int .u32 0, .int .u32 0, .int .u16 0, .int .u16 0, .int .u8 0, .int .u8 0, .int .u8 0, .int .u8 0, .int .u32 0, .int .u32 0, .int .i64 0, .int .i64 0, .int .u8 0, .int .u32 0, .int .u32 0, .int .u16 0, .int .u16 0, .int .u8 0] #[.slice (some ⟨b, off, none⟩) (0) (0), .int .u8 6, .int .u32 src, .int .u32 dst, .int .u16 0, .int .u16 0, .int .u8 0, .int .u8 0, .int .u8 0, .int .u8 0, .int .u32 0, .int .u32 0, .int .i64 0, .int .i64 0, .int .u8 0, .int .u32 0, .int .u32 0, .int .u16 0, .int .u16 0, .int .u8 0]) [0, 1, 2, 3, 4, 5, 6, 7, 8, 9, 10, 11, 12, 13, 14] (by kernel_rfl) ?hfree1 ⟨hSt.drew, Nat.le_refl _⟩ ?hwalk1
      case hfree1 =>
        intro k hk
        obtain rfl : k = 13 := by simpa using hk
        refine ⟨rfl, LateB.keep, fun o ho a c W hE => ?_⟩
        simp at ho
        subst ho
        go_wp2_with fail
        exact ⟨_, rfl, ⟨W.heap.size, rfl, hE.2, .inl (Blk.new _ _ _)⟩, Late.grown ((Below.refl _ _).alloc (Nat.le_refl _) _) hE.2, hE.1.alloc _, by simp; have := hE.2; omega⟩
      iterate 13
        apply Walk.one rfl rfl rfl
        case hrun =>
          intro c W hE hF
          have hh := hE.1.get 1 rfl
          have d6 := hh.cell 6
          have d7 := hh.cell 7
          have d8 := hh.cell 8
          go_wp2_with fail
          exact TextPost.mk ⟨Late.refl _, hE⟩
        case hv => rfl
      refine Walk.freeOp LateB.keep rfl rfl (by kernel_rfl) ?_ (fun u6 => ?_)
      · intro a c W hE
        go_wp2_with fail
        exact ⟨_, rfl, ⟨W.heap.size, rfl, hE.2, .inl (Blk.new _ _ _)⟩, Late.grown ((Below.refl _ _).alloc (Nat.le_refl _) _) hE.2, hE.1.alloc _, by simp; have := hE.2; omega⟩
      dsimp only [Act.put]
      simp only [List.setIfInBounds_toArray, List.set_cons_succ, List.set_cons_zero]
      refine Walk.whatever (fun _ W => LateN w5.heap.size 91 #[.slice (some ⟨b, off, none⟩) (0) (0), .int .u8 6, .int .u32 src, .int .u32 dst, .int .u16 0, .int .u16 0, .int .u8 0, .int .u8 0, .int .u8 0, .int .u8 0, .int .u32 0, .int .u32 0, .int .i64 0, .int .i64 0, .int .u8 0, .int .u32 0, .int .u32 0, .int .u16 0, .int .u16 0, .int .u8 0] u6 W) (fun _ => LateN.keep u6) rfl rfl rfl (by kernel_rfl) ?_ (fun uu => ?_)
      · intro c W hE hF
        obtain ⟨g, rfl, hg0, hg | hg⟩ := hF.head
        all_goals
          refine wpList_store_row rfl _ _ _ rfl g #[.slice (some ⟨b, off, none⟩) (0) (0), .int .u8 6, .int .u32 src, .int .u32 dst, .int .u16 0, .int .u16 0, .int .u8 0, .int .u8 0, .int .u8 0, .int .u8 0, .int .u32 0, .int .u32 0, .int .i64 0, .int .i64 0, .int .u8 0, .int .u32 0, .int .u32 0, .int .u16 0, .int .u16 0, .int .u8 0] rfl rfl _ _ hg (by kernel_rfl) (by simp) (by simp [Value.oneCell']) ?_
          go_wp2_with fail
          refine ⟨undef, rfl, ⟨g, rfl, hg0, setRow_heap _ _ _ _ _ _ hg⟩, ?_, hE.1.rowFar (by omega) (by simp; omega) _, by simpa using hE.2⟩
        · exact Late.store hg (by omega)
        · exact Late.again hg (by omega)
      dsimp only [Act.put]
      refine Walk.done (fun W hE hF => ?_)
      obtain ⟨gp, rfl, hgp, hh⟩ := hF.head
      have br := hE.1.get 0 rfl
      have hbW := hE.1.1
      have HMc := Lib.hid (HMe.out W gp hbW (by omega) hh)
      have hcf := callFunc_tcp
      have hgl := hh.lt
      clear hE hF hSt hh
      go_wp2_with fail
      refine HMc.out.mono ?_
      rintro e w7 ⟨rfl, l7, hz7, hpk⟩
      have br7 := br.below l7 (by omega)
      have hbW7 := hbW.trans (l7.mono (by omega))
      have Hpk := Lib.hid hpk
      clear br hbW hpk
      by_cases hE : EE = 0
      case neg =>
        have eb : (EE != 0) = true := by simpa using hE
        have hbW := hbW7
        have br := br7
        have HLk := Lib.hid (fun W m h => HLk0.out hE W m h)
        have HX4 := Lib.hid (HF.out.trans (if_neg (by rw [HX3.out]; exact HR0.out hE)))
        clear hbW7 br7 hE
        go_wp2_with fail
        refine wp_region_walk (by kernel_rfl) (fun c W => ReaSt w c W) [4] (ReaG w) [] (fun _ _ _ => True) [0, 2, 1, 3, 4, 5] (by kernel_rfl) (fun _ h => by simp at h) ⟨hbW.drew, br.drew⟩ ?_
        iterate 2
          apply Walk.one rfl rfl rfl
          case hrun =>
            intro c W hE hF
            go_wp2_with fail
            exact TextPost.mk ⟨fun _ _ h => h, hE⟩
          case hv => rfl
        refine Walk.anyOf (fun m : Nat => Value.map (some m)) (fun x y h => by simpa using h) (fun m W => w.heap.size < m ∧ ReasonsM W m) (fun m W W' h hG => ⟨h.1, hG m h.1 h.2⟩) rfl rfl rfl (by kernel_rfl) (by kernel_rfl) ?_ (fun m => ?_)
        · intro c W hE hF
          go_wp2_with fail
          refine (reasons_any W).mono ?_
          rintro e2 W2 ⟨m, rfl, hm0, hm, l2⟩
          go_wp2_with fail
          exact ⟨m, rfl, ⟨by have := hE.b.lt; omega, hm⟩, ReaG.of l2, hE.below_ l2⟩
        dsimp only [Act.put]
        simp only [List.setIfInBounds_toArray, List.set_cons_succ, List.set_cons_zero]
        apply Walk.one rfl rfl rfl
        case hrun =>
          intro c W hE hF
          have hlk := HLk.out W m hF.head.2
          go_wp2_with fail
          exact TextPost.mk ⟨fun _ _ h => h, hE⟩
        case hv => rfl
        apply Walk.keep 0 rfl rfl rfl rfl
        case hrun =>
          intro W hE hF
          have hb := hE.b
          unfold facZ at hb
          go_wp2_with (first | ((with_reducible refine look_store ?_); refine wpList_store_row rfl _ _ _ rfl _ _ rfl rfl _ _ hb (by kernel_rfl) (by simp) (by simp [Value.oneCell']) ?_) | fail)
          exact TextPost.mk ⟨fun m hm h => h.grown (grown_setRow _ _ _) (by simp; omega), below_setRow hE.below (Nat.le_refl _) _, setRow_heap _ _ _ _ _ _ hE.b⟩
        case hv => rfl
        apply Walk.one rfl rfl rfl
        case hrun =>
          intro c W hE hF
          go_wp2_with fail
          exact TextPost.mk ⟨fun _ _ h => h, hE⟩
        case hv => rfl
        refine Walk.done (fun W hE hF => ?_)
        have hbR := hE.b
        have hbW := hE.below
        clear hE hF
        go_wp2_with fail
        exact bodyPost_ret (results_cell_tmp Tryz.results9 _ _ _ _ _ _ _ rfl hbR Tryz.underlying41 rfl (by kernel_rfl)) rfl ⟨by rw [HX3.out, HX4.out]; rfl, hbW⟩
      subst hE
      have hpk := Hpk.out rfl
      have HX4 := Lib.hid (HF.out.trans (if_pos (by rw [HX3.out]; rfl)))
      clear Hpk
      obtain ⟨⟨k0, k1, k2, k3, k4⟩, f1, f2, f3, f4, f5, f6, f7, f8, ⟨q0, q1, q2, q3, q4⟩, f9⟩ := FD
      have hrg := hpk.range 1 (l := [.int .u8 k0, .int .u32 k1, .int .u32 k2, .int .u16 k3, .int .u16 k4, .int .u8 f1, .int .u8 f2, .int .u8 f3, .int .u8 f4, .int .u32 f5, .int .u32 f6, .int .i64 f7, .int .i64 f8, .int .u8 q0, .int .u32 q1, .int .u32 q2, .int .u16 q3, .int .u16 q4, .int .u8 f9]) rfl
      unfold facZ at br7
      clear hpk
      go_wp2_with (first | ((with_reducible refine look_load ?_); refine wpList_load_mid rfl _ _ rfl _ _ rfl _ _ hrg Tryz.underlying41 rfl (by kernel_rfl) ?_) | ((with_reducible refine look_store ?_); refine wpList_store_row rfl _ _ _ rfl _ _ rfl rfl _ _ br7 (by kernel_rfl) (by simp) (by simp [Value.oneCell']) ?_) | fail)
      exact bodyPost_ret (results_cell_tmp Tryz.results9 _ _ _ _ _ _ _ rfl (setRow_heap _ _ _ _ _ _ br7) Tryz.underlying41 rfl (by kernel_rfl)) rfl ⟨by rw [HX3.out, HX4.out]; rfl, below_setRow hbW7 (Nat.le_refl _) _⟩
    · skip
      have HMe := Lib.hid (fun (W : World) (g : Nat) (hb : Below w.heap.size w W) (hg : w.heap.size ≤ g) (hB : Blk W g 91 (pkC (.slice (some ⟨b, off + SZ, none⟩) (TOT - SZ) (cap - SZ)) (baseK 6 src dst))) => pktTcp_any 6 src dst (some ⟨b, off + SZ, none⟩) (cap - SZ) (TOT - SZ) D g W HD.out (by omega) (by omega) HDb.out ((HDr.out.below hb (Nat.le_refl _)).more hg) hB)
      generalize tcpF (baseK 6 src dst) D = FD at *
      generalize tcpE D = EE at *
      go_wp2_with fail
      have hSt := ((St.nil hbW5 hbW5.size).cons bh5).cons br5
      clear hbW5 bh5 br5 c6' c7' c8' L6 L17 L1 hmm i1 i2 i3
      refine wp_region_walk (by kernel_rfl) (fun _ W => St w w.heap.size [(w.heap.size, 41, facZ), (w2.heap.size, 37, #[.int .u8 tos, .int .u16 id, .bool df, .bool mf, .int .i64 off0, .int .u8 ttl, .int .u8 6, .int .u32 src, .int .u32 dst, .slice OA on oc])] W ∧ w5.heap.size ≤ W.heap.size) [] (Late w5.heap.size 91 #[.slice none 0 0, .int .u8 0, .int .u32 0, .int .u32 0, .int .u16 0, .int .u16 0, .int .u8 0, .int .u8 0, .int .u8 0, .int .u8 0, .int .u32 0, .int .u32 0, .int .i64 0, .int .i64 0, .int .u8 0, .int .u32 0, .int .u32 0, .int .u16 0, .int .u16 0, .int .u8 0] #[.slice (some ⟨b, off + SZ, none⟩) (TOT - SZ) (cap - SZ), .int .u8 6, .int .u32 src, .int .u32 dst, .int .u16 0, .int .u16 0, .int .u8 0, .int .u8 0, .int .u8 0, .int .u8 0, .int .u32 0, .int .u32 0, .int .i64 0, .int .i64 0, .int .u8 0, .int .u32 0, .int .u32 0, .int .u16 0, .int .u16 0, .int .u8 0])
        [13] (fun _ => LateB w5.heap.size 91 #[.slice none 0 0, .int .u8 0, .int .u32 0, .int .u32 0, .int .u16 0, .int .u16 0, .int .u8 0, .int .u8 0, .int .u8 0, .int .u8 0, .int .u32 0, .int .u32 0, .int .i64 0, .int .i64 0, .int .u8 0, .int .u32 0, .int .u32 0, .int .u16 0, .int .u16 0, .int .u8 0] #[.slice (some ⟨b, off + SZ, none⟩) (TOT - SZ) (cap - SZ), .int .u8 6, .int .u32 src, .int .u32 dst, .int .u16 0, .int .u16 0, .int .u8 0, .int .u8 0, .int .u8 0, .int .u8 0, .int .u32 0, .int .u32 0, .int .i64 0, .int .i64 0, .int .u8 0, .int .u32 0, .int .u32 0, .int .u16 0, .int .u16 0, .int .u8 0]) [0, 1, 2, 3, 4, 5, 6, 7, 8, 9, 10, 11, 12, 13, 14] (by kernel_rfl) ?hfree2 ⟨hSt.drew, Nat.le_refl _⟩ ?hwalk2
      case hfree2 =>
        intro k hk
        obtain rfl : k = 13 := by simpa using hk
        refine ⟨rfl, LateB.keep, fun o ho a c W hE => ?_⟩
        simp at ho
        subst ho
        go_wp2_with fail
        exact ⟨_, rfl, ⟨W.heap.size, rfl, hE.2, .inl (Blk.new _ _ _)⟩, Late.grown ((Below.refl _ _).alloc (Nat.le_refl _) _) hE.2, hE.1.alloc _, by simp; have := hE.2; omega⟩
      iterate 13
        apply Walk.one rfl rfl rfl
        case hrun =>
          intro c W hE hF
          have hh := hE.1.get 1 rfl
          have d6 := hh.cell 6
          have d7 := hh.cell 7
          have d8 := hh.cell 8
          go_wp2_with fail
          exact TextPost.mk ⟨Late.refl _, hE⟩
        case hv => rfl
      refine Walk.freeOp LateB.keep rfl rfl (by kernel_rfl) ?_ (fun u6 => ?_)
      · intro a c W hE
        go_wp2_with fail
        exact ⟨_, rfl, ⟨W.heap.size, rfl, hE.2, .inl (Blk.new _ _ _)⟩, Late.grown ((Below.refl _ _).alloc (Nat.le_refl _) _) hE.2, hE.1.alloc _, by simp; have := hE.2; omega⟩
      dsimp only [Act.put]
      simp only [List.setIfInBounds_toArray, List.set_cons_succ, List.set_cons_zero]
      refine Walk.whatever (fun _ W => LateN w5.heap.size 91 #[.slice (some ⟨b, off + SZ, none⟩) (TOT - SZ) (cap - SZ), .int .u8 6, .int .u32 src, .int .u32 dst, .int .u16 0, .int .u16 0, .int .u8 0, .int .u8 0, .int .u8 0, .int .u8 0, .int .u32 0, .int .u32 0, .int .i64 0, .int .i64 0, .int .u8 0, .int .u32 0, .int .u32 0, .int .u16 0, .int .u16 0, .int .u8 0] u6 W) (fun _ => LateN.keep u6) rfl rfl rfl (by kernel_rfl) ?_ (fun uu => ?_)
      · intro c W hE hF
        obtain ⟨g, rfl, hg0, hg | hg⟩ := hF.head
        all_goals
          refine wpList_store_row rfl _ _ _ rfl g #[.slice (some ⟨b, off + SZ, none⟩) (TOT - SZ) (cap - SZ), .int .u8 6, .int .u32 src, .int .u32 dst, .int .u16 0, .int .u16 0, .int .u8 0, .int .u8 0, .int .u8 0, .int .u8 0, .int .u32 0, .int .u32 0, .int .i64 0, .int .i64 0, .int .u8 0, .int .u32 0, .int .u32 0, .int .u16 0, .int .u16 0, .int .u8 0] rfl rfl _ _ hg (by kernel_rfl) (by simp) (by simp [Value.oneCell']) ?_
          go_wp2_with fail
          refine ⟨undef, rfl, ⟨g, rfl, hg0, setRow_heap _ _ _ _ _ _ hg⟩, ?_, hE.1.rowFar (by omega) (by simp; omega) _, by simpa using hE.2⟩
        · exact Late.store hg (by omega)
        · exact Late.again hg (by omega)
      dsimp only [Act.put]
      refine Walk.done (fun W hE hF => ?_)
      obtain ⟨gp, rfl, hgp, hh⟩ := hF.head
      have br := hE.1.get 0 rfl
      have hbW := hE.1.1
      have HMc := Lib.hid (HMe.out W gp hbW (by omega) hh)
      have hcf := callFunc_tcp
      have hgl := hh.lt
      clear hE hF hSt hh
      go_wp2_with fail
      refine HMc.out.mono ?_
      rintro e w7 ⟨rfl, l7, hz7, hpk⟩
      have br7 := br.below l7 (by omega)
      have hbW7 := hbW.trans (l7.mono (by omega))
      have Hpk := Lib.hid hpk
      clear br hbW hpk
      by_cases hE : EE = 0
      case neg =>
        have eb : (EE != 0) = true := by simpa using hE
        have hbW := hbW7
        have br := br7
        have HLk := Lib.hid (fun W m h => HLk0.out hE W m h)
        have HX4 := Lib.hid (HF.out.trans (if_neg (by rw [HX3.out]; exact HR0.out hE)))
        clear hbW7 br7 hE
        go_wp2_with fail
        refine wp_region_walk (by kernel_rfl) (fun c W => ReaSt w c W) [4] (ReaG w) [] (fun _ _ _ => True) [0, 2, 1, 3, 4, 5] (by kernel_rfl) (fun _ h => by simp at h) ⟨hbW.drew, br.drew⟩ ?_
        iterate 2
          apply Walk.one rfl rfl rfl
          case hrun =>
            intro c W hE hF
            go_wp2_with fail
            exact TextPost.mk ⟨fun _ _ h => h, hE⟩
          case hv => rfl
        refine Walk.anyOf (fun m : Nat => Value.map (some m)) (fun x y h => by simpa using h) (fun m W => w.heap.size < m ∧ ReasonsM W m) (fun m W W' h hG => ⟨h.1, hG m h.1 h.2⟩) rfl rfl rfl (by kernel_rfl) (by kernel_rfl) ?_ (fun m => ?_)
        · intro c W hE hF
          go_wp2_with fail
          refine (reasons_any W).mono ?_
          rintro e2 W2 ⟨m, rfl, hm0, hm, l2⟩
          go_wp2_with fail
          exact ⟨m, rfl, ⟨by have := hE.b.lt; omega, hm⟩, ReaG.of l2, hE.below_ l2⟩
        dsimp only [Act.put]
        simp only [List.setIfInBounds_toArray, List.set_cons_succ, List.set_cons_zero]
        apply Walk.one rfl rfl rfl
        case hrun =>
          intro c W hE hF
          have hlk := HLk.out W m hF.head.2
          go_wp2_with fail
          exact TextPost.mk ⟨fun _ _ h => h, hE⟩
        case hv => rfl
        apply Walk.keep 0 rfl rfl rfl rfl
        case hrun =>
          intro W hE hF
          have hb := hE.b
          unfold facZ at hb
          go_wp2_with (first | ((with_reducible refine look_store ?_); refine wpList_store_row rfl _ _ _ rfl _ _ rfl rfl _ _ hb (by kernel_rfl) (by simp) (by simp [Value.oneCell']) ?_) | fail)
          exact TextPost.mk ⟨fun m hm h => h.grown (grown_setRow _ _ _) (by simp; omega), below_setRow hE.below (Nat.le_refl _) _, setRow_heap _ _ _ _ _ _ hE.b⟩
        case hv => rfl
        apply Walk.one rfl rfl rfl
        case hrun =>
          intro c W hE hF
          go_wp2_with fail
          exact TextPost.mk ⟨fun _ _ h => h, hE⟩
        case hv => rfl
        refine Walk.done (fun W hE hF => ?_)
        have hbR := hE.b
        have hbW := hE.below
        clear hE hF
        go_wp2_with fail
        exact bodyPost_ret (results_cell_tmp Tryz.results9 _ _ _ _ _ _ _ rfl hbR Tryz.underlying41 rfl (by kernel_rfl)) rfl ⟨by rw [HX3.out, HX4.out]; rfl, hbW⟩
      subst hE
      have hpk := Hpk.out rfl
      have HX4 := Lib.hid (HF.out.trans (if_pos (by rw [HX3.out]; rfl)))
      clear Hpk
      obtain ⟨⟨k0, k1, k2, k3, k4⟩, f1, f2, f3, f4, f5, f6, f7, f8, ⟨q0, q1, q2, q3, q4⟩, f9⟩ := FD
      have hrg := hpk.range 1 (l := [.int .u8 k0, .int .u32 k1, .int .u32 k2, .int .u16 k3, .int .u16 k4, .int .u8 f1, .int .u8 f2, .int .u8 f3, .int .u8 f4, .int .u32 f5, .int .u32 f6, .int .i64 f7, .int .i64 f8, .int .u8 q0, .int .u32 q1, .int .u32 q2, .int .u16 q3, .int .u16 q4, .int .u8 f9]) rfl
      unfold facZ at br7
      clear hpk
      go_wp2_with (first | ((with_reducible refine look_load ?_); refine wpList_load_mid rfl _ _ rfl _ _ rfl _ _ hrg Tryz.underlying41 rfl (by kernel_rfl) ?_) | ((with_reducible refine look_store ?_); refine wpList_store_row rfl _ _ _ rfl _ _ rfl rfl _ _ br7 (by kernel_rfl) (by simp) (by simp [Value.oneCell']) ?_) | fail)
      exact bodyPost_ret (results_cell_tmp Tryz.results9 _ _ _ _ _ _ _ rfl (setRow_heap _ _ _ _ _ _ br7) Tryz.underlying41 rfl (by kernel_rfl)) rfl ⟨by rw [HX3.out, HX4.out]; rfl, below_setRow hbW7 (Nat.le_refl _) _⟩
  · rw [show dataE 17 D = udpE2 D by unfold dataE; rw [if_neg (by decide), if_pos rfl]] at HX2
    rw [show dataF 17 (baseK 17 src dst) D = udpF (baseK 17 src dst) D by unfold dataF; rw [if_neg (by decide), if_pos rfl]] at HF
    have HLk0 := Lib.hid (fun (h : udpE2 D ≠ 0) W m hm => lookup_reasons W m hm (udpE2 D) (by have := dataE_in 17 D (by unfold dataE; rw [if_neg (by decide), if_pos rfl]; exact h); unfold dataE at this; rw [if_neg (by decide), if_pos rfl] at this; exact this))
    have HR0 := Lib.hid (fun (h : udpE2 D ≠ 0) => show reasonOf (udpE2 D) ≠ 0 from reasonOf_ne _ (by have := dataE_in 17 D (by unfold dataE; rw [if_neg (by decide), if_pos rfl]; exact h); unfold dataE at this; rw [if_neg (by decide), if_pos rfl] at this; exact this))
    have HX3 := HX2
    clear HX2
    by_cases hk : cap = SZ
    · obtain rfl : TOT = cap := by omega
      obtain rfl : n = TOT := by omega
      subst hk
      have HMe := Lib.hid (fun (W : World) (g : Nat) (hb : Below w.heap.size w W) (hg : w.heap.size ≤ g) (hB : Blk W g 91 (pkC (.slice (some ⟨b, off, none⟩) (0) (0)) (baseK 17 src dst))) => pktUdp_any 17 src dst (some ⟨b, off, none⟩) (0) (0) D g W (by rw [HDe.out rfl]; rfl) (by omega) (by omega) HDb.out (by rw [HDe.out rfl]; exact Rd.nil) hB)
      generalize udpF (baseK 17 src dst) D = FD at *
      generalize udpE2 D = EE at *
      go_wp2_with fail
      have hSt := ((St.nil hbW5 hbW5.size).cons bh5).cons br5
      clear hbW5 bh5 br5 c6' c7' c8' L6 L17 L1 hmm i1 i2 i3
      refine wp_region_walk (by kernel_rfl) (fun _ W => St w w.heap.size [(w.heap.size, 41, facZ), (w2.heap.size, 37, #[.int .u8 tos, .int .u16 id, .bool df, .bool mf, .int .i64 off0, .int .u8 ttl, .int .u8 17, .int .u32 src, .int .u32 dst, .slice OA on oc])] W ∧ w5.heap.size ≤ W.heap.size) [] (Late w5.heap.size 91 #[.slice none 0 0, .int .u8 0, .int .u32 0, .int .u32 0, .int .u16 0, .int .u16 0, .int .u8 0, .int .u8 0, .int .u8 0, .int .u8 0, .int .u32 0, .int .u32 0, .int .i64 0, .int .i64 0, .int .u8 0, .int .u32 0, .int .u32 0, .int .u16 0, .int .u16 0, .int .u8 0] #[.slice (some ⟨b, off, none⟩) (0) (0), .int .u8 17, .int .u32 src, .int .u32 dst, .int .u16 0, .int .u16 0, .int .u8 0, .int .u8 0, .int .u8 0, .int .u8 0, .int .u32 0, .int .u32 0, .int .i64 0, .int .i64 0, .int .u8 0, .int .u32 0, .int .u32 0, .int .u16 0, .int .u16 0, .int .u8 0])
        [13] (fun _ => LateB w5.heap.size 91 #[.slice none 0 0, .int .u8 0, .int .u32 0, .int .u32 0, .int .u16 0, .int .u16 0, .int .u8 0, .int .u8 0, .int .u8 0, .int .u8 0, .int .u32 0, .int .u32 0, .int .i64 0, .int .i64 0, .int .u8 0, .int .u32 0, .int .u32 0, .int .u16 0, .int .u16 0, .int .u8 0] #[.slice (some ⟨b, off, none⟩) (0) (0), .int .u8 17, .int .u32 src, .int .u32 dst, .int .u16 0, .int .u16 0, .int .u8 0, .int .u8 0, .int .u8 0, .int .u8 0, .int .u32 0, .int .u32 0, .int .i64 0, .int .i64 0, .int .u8 0, .int .u32 0, .int .u32 0, .int .u16 0, .int .u16 0, .int .u8 0]) [0, 1, 2, 3, 4, 5, 6, 7, 8, 9, 10, 11, 12, 13, 14] (by kernel_rfl) ?hfree3 ⟨hSt.drew, Nat.le_refl _⟩ ?hwalk3
      case hfree3 =>
        intro k hk
        obtain rfl : k = 13 := by simpa using hk
        refine ⟨rfl, LateB.keep, fun o ho a c W hE => ?_⟩
        simp at ho
        subst ho
        go_wp2_with fail
        exact ⟨_, rfl, ⟨W.heap.size, rfl, hE.2, .inl (Blk.new _ _ _)⟩, Late.grown ((Below.refl _ _).alloc (Nat.le_refl _) _) hE.2, hE.1.alloc _, by simp; have := hE.2; omega⟩
      iterate 13
        apply Walk.one rfl rfl rfl
        case hrun =>
          intro c W hE hF
          have hh := hE.1.get 1 rfl
          have d6 := hh.cell 6
          have d7 := hh.cell 7
          have d8 := hh.cell 8
          go_wp2_with fail
          exact TextPost.mk ⟨Late.refl _, hE⟩
        case hv => rfl
      refine Walk.freeOp LateB.keep rfl rfl (by kernel_rfl) ?_ (fun u6 => ?_)
      · intro a c W hE
        go_wp2_with fail
        exact ⟨_, rfl, ⟨W.heap.size, rfl, hE.2, .inl (Blk.new _ _ _)⟩, Late.grown ((Below.refl _ _).alloc (Nat.le_refl _) _) hE.2, hE.1.alloc _, by simp; have := hE.2; omega⟩
      dsimp only [Act.put]
      simp only [List.setIfInBounds_toArray, List.set_cons_succ, List.set_cons_zero]
      refine Walk.whatever (fun _ W => LateN w5.heap.size 91 #[.slice (some ⟨b, off, none⟩) (0) (0), .int .u8 17, .int .u32 src, .int .u32 dst, .int .u16 0, .int .u16 0, .int .u8 0, .int .u8 0, .int .u8 0, .int .u8 0, .int .u32 0, .int .u32 0, .int .i64 0, .int .i64 0, .int .u8 0, .int .u32 0, .int .u32 0, .int .u16 0, .int .u16 0, .int .u8 0] u6 W) (fun _ => LateN.keep u6) rfl rfl rfl (by kernel_rfl) ?_ (fun uu => ?_)
      · intro c W hE hF
        obtain ⟨g, rfl, hg0, hg | hg⟩ := hF.head
        all_goals
          refine wpList_store_row rfl _ _ _ rfl g #[.slice (some ⟨b, off, none⟩) (0) (0), .int .u8 17, .int .u32 src, .int .u32 dst, .int .u16 0, .int .u16 0, .int .u8 0, .int .u8 0, .int .u8 0, .int .u8 0, .int .u32 0, .int .u32 0, .int .i64 0, .int .i64 0, .int .u8 0, .int .u32 0, .int .u32 0, .int .u16 0, .int .u16 0, .int .u8 0] rfl rfl _ _ hg (by kernel_rfl) (by simp) (by simp [Value.oneCell']) ?_
          go_wp2_with fail
          refine ⟨undef, rfl, ⟨g, rfl, hg0, setRow_heap _ _ _ _ _ _ hg⟩, ?_, hE.1.rowFar (by omega) (by simp; omega) _, by simpa using hE.2⟩
        · exact Late.store hg (by omega)
        · exact Late.again hg (by omega)
      dsimp only [Act.put]
      refine Walk.done (fun W hE hF => ?_)
      obtain ⟨gp, rfl, hgp, hh⟩ := hF.head
      have br := hE.1.get 0 rfl
      have hbW := hE.1.1
      have HMc := Lib.hid (HMe.out W gp hbW (by omega) hh)
      have hcf := callFunc_udp
      have hgl := hh.lt
      clear hE hF hSt hh
      go_wp2_with fail
      refine HMc.out.mono ?_
      rintro e w7 ⟨rfl, l7, hz7, hpk⟩
      have br7 := br.below l7 (by omega)
      have hbW7 := hbW.trans (l7.mono (by omega))
      have Hpk := Lib.hid hpk
      clear br hbW hpk
      by_cases hE : EE = 0
      case neg =>
        have eb : (EE != 0) = true := by simpa using hE
        have hbW := hbW7
        have br := br7
        have HLk := Lib.hid (fun W m h => HLk0.out hE W m h)
        have HX4 := Lib.hid (HF.out.trans (if_neg (by rw [HX3.out]; exact HR0.out hE)))
        clear hbW7 br7 hE
        go_wp2_with fail
        refine wp_region_walk (by kernel_rfl) (fun c W => ReaSt w c W) [4] (ReaG w) [] (fun _ _ _ => True) [0, 2, 1, 3, 4, 5] (by kernel_rfl) (fun _ h => by simp at h) ⟨hbW.drew, br.drew⟩ ?_
        iterate 2
          apply Walk.one rfl rfl rfl
          case hrun =>
            intro c W hE hF
            go_wp2_with fail
            exact TextPost.mk ⟨fun _ _ h => h, hE⟩
          case hv => rfl
        refine Walk.anyOf (fun m : Nat => Value.map (some m)) (fun x y h => by simpa using h) (fun m W => w.heap.size < m ∧ ReasonsM W m) (fun m W W' h hG => ⟨h.1, hG m h.1 h.2⟩) rfl rfl rfl (by kernel_rfl) (by kernel_rfl) ?_ (fun m => ?_)
        · intro c W hE hF
          go_wp2_with fail
          refine (reasons_any W).mono ?_
          rintro e2 W2 ⟨m, rfl, hm0, hm, l2⟩
          go_wp2_with fail
          exact ⟨m, rfl, ⟨by have := hE.b.lt; omega, hm⟩, ReaG.of l2, hE.below_ l2⟩
        dsimp only [Act.put]
        simp only [List.setIfInBounds_toArray, List.set_cons_succ, List.set_cons_zero]
        apply Walk.one rfl rfl rfl
        case hrun =>
          intro c W hE hF
          have hlk := HLk.out W m hF.head.2
          go_wp2_with fail
          exact TextPost.mk ⟨fun _ _ h => h, hE⟩
        case hv => rfl
        apply Walk.keep 0 rfl rfl rfl rfl
        case hrun =>
          intro W hE hF
          have hb := hE.b
          unfold facZ at hb
          go_wp2_with (first | ((with_reducible refine look_store ?_); refine wpList_store_row rfl _ _ _ rfl _ _ rfl rfl _ _ hb (by kernel_rfl) (by simp) (by simp [Value.oneCell']) ?_) | fail)
          exact TextPost.mk ⟨fun m hm h => h.grown (grown_setRow _ _ _) (by simp; omega), below_setRow hE.below (Nat.le_refl _) _, setRow_heap _ _ _ _ _ _ hE.b⟩
        case hv => rfl
        apply Walk.one rfl rfl rfl
        case hrun =>
          intro c W hE hF
          go_wp2_with fail
          exact TextPost.mk ⟨fun _ _ h => h, hE⟩
        case hv => rfl
        refine Walk.done (fun W hE hF => ?_)
        have hbR := hE.b
        have hbW := hE.below
        clear hE hF
        go_wp2_with fail
        exact bodyPost_ret (results_cell_tmp Tryz.results9 _ _ _ _ _ _ _ rfl hbR Tryz.underlying41 rfl (by kernel_rfl)) rfl ⟨by rw [HX3.out, HX4.out]; rfl, hbW⟩
      subst hE
      have hpk := Hpk.out rfl
      have HX4 := Lib.hid (HF.out.trans (if_pos (by rw [HX3.out]; rfl)))
      clear Hpk
      obtain ⟨⟨k0, k1, k2, k3, k4⟩, f1, f2, f3, f4, f5, f6, f7, f8, ⟨q0, q1, q2, q3, q4⟩, f9⟩ := FD
      have hrg := hpk.range 1 (l := [.int .u8 k0, .int .u32 k1, .int .u32 k2, .int .u16 k3, .int .u16 k4, .int .u8 f1, .int .u8 f2, .int .u8 f3, .int .u8 f4, .int .u32 f5, .int .u32 f6, .int .i64 f7, .int .i64 f8, .int .u8 q0, .int .u32 q1, .int .u32 q2, .int .u16 q3, .int .u16 q4, .int .u8 f9]) rfl
      unfold facZ at br7
      clear hpk
      go_wp2_with (first | ((with_reducible refine look_load ?_); refine wpList_load_mid rfl _ _ rfl _ _ rfl _ _ hrg Tryz.underlying41 rfl (by kernel_rfl) ?_) | ((with_reducible refine look_store ?_); refine wpList_store_row rfl _ _ _ rfl _ _ rfl rfl _ _ br7 (by kernel_rfl) (by simp) (by simp [Value.oneCell']) ?_) | fail)
      exact bodyPost_ret (results_cell_tmp Tryz.results9 _ _ _ _ _ _ _ rfl (setRow_heap _ _ _ _ _ _ br7) Tryz.underlying41 rfl (by kernel_rfl)) rfl ⟨by rw [HX3.out, HX4.out]; rfl, below_setRow hbW7 (Nat.le_refl _) _⟩
    · skip
      have HMe := Lib.hid (fun (W : World) (g : Nat) (hb : Below w.heap.size w W) (hg : w.heap.size ≤ g) (hB : Blk W g 91 (pkC (.slice (some ⟨b, off + SZ, none⟩) (TOT - SZ) (cap - SZ)) (baseK 17 src dst))) => pktUdp_any 17 src dst (some ⟨b, off + SZ, none⟩) (cap - SZ) (TOT - SZ) D g W HD.out (by omega) (by omega) HDb.out ((HDr.out.below hb (Nat.le_refl _)).more hg) hB)
      generalize udpF (baseK 17 src dst) D = FD at *
      generalize udpE2 D = EE at *
      go_wp2_with fail
      have hSt := ((St.nil hbW5 hbW5.size).cons bh5).cons br5
      clear hbW5 bh5 br5 c6' c7' c8' L6 L17 L1 hmm i1 i2 i3
      refine wp_region_walk (by kernel_rfl) (fun _ W => St w w.heap.size [(w.heap.size, 41, facZ), (w2.heap.size, 37, #[.int .u8 tos, .int .u16 id, .bool df, .bool mf, .int .i64 off0, .int .u8 ttl, .int .u8 17, .int .u32 src, .int .u32 dst, .slice OA on oc])] W ∧ w5.heap.size ≤ W.heap.size) [] (Late w5.heap.size 91 #[.slice none 0 0, .int .u8 0, .int .u32 0, .int .u32 0, .int .u16 0, .int .u16 0, .int .u8 0, .int .u8 0, .int .u8 0, .int .u8 0, .int .u32 0, .int .u32 0, .int .i64 0, .int .i64 0, .int .u8 0, .int .u32 0, .int .u32 0, .int .u16 0, .int .u16 0, .int .u8 0] #[.slice (some ⟨b, off + SZ, none⟩) (TOT - SZ) (cap - SZ), .int .u8 17, .int .u32 src, .int .u32 dst, .int .u16 0, .int .u16 0, .int .u8 0, .int .u8 0, .int .u8 0, .int .u8 0, .int .u32 0, .int .u32 0, .int .i64 0, .int .i64 0, .int .u8 0, .int .u32 0, .int .u32 0, .int .u16 0, .int .u16 0, .int .u8 0])
        [13] (fun _ => LateB w5.heap.size 91 #[.slice none 0 0, .int .u8 0, .int .u32 0, .int .u32 0, .int .u16 0, .int .u16 0, .int .u8 0, .int .u8 0, .int .u8 0, .int .u8 0, .int .u32 0, .int .u32 0, .int .i64 0, .int .i64 0, .int .u8 0, .int .u32 0, .int .u32 0, .int .u16 0, .int .u16 0, .int .u8 0] #[.slice (some ⟨b, off + SZ, none⟩) (TOT - SZ) (cap - SZ), .int .u8 17, .int .u32 src, .int .u32 dst, .int .u16 0, .int .u16 0, .int .u8 0, .int .u8 0, .int .u8 0, .int .u8 0, .int .u32 0, .int .u32 0, .int .i64 0, .int .i64 0, .int .u8 0, .int .u32 0, .int .u32 0, .int .u16 0, .int .u16 0, .int .u8 0]) [0, 1, 2, 3, 4, 5, 6, 7, 8, 9, 10, 11, 12, 13, 14] (by kernel_rfl) ?hfree4 ⟨hSt.drew, Nat.le_refl _⟩ ?hwalk4
      case hfree4 =>
        intro k hk
        obtain rfl : k = 13 := by simpa using hk
        refine ⟨rfl, LateB.keep, fun o ho a c W hE => ?_⟩
        simp at ho
        subst ho
        go_wp2_with fail
        exact ⟨_, rfl, ⟨W.heap.size, rfl, hE.2, .inl (Blk.new _ _ _)⟩, Late.grown ((Below.refl _ _).alloc (Nat.le_refl _) _) hE.2, hE.1.alloc _, by simp; have := hE.2; omega⟩
      iterate 13
        apply Walk.one rfl rfl rfl
        case hrun =>
          intro c W hE hF
          have hh := hE.1.get 1 rfl
          have d6 := hh.cell 6
          have d7 := hh.cell 7
          have d8 := hh.cell 8
          go_wp2_with fail
          exact TextPost.mk ⟨Late.refl _, hE⟩
        case hv => rfl
      refine Walk.freeOp LateB.keep rfl rfl (by kernel_rfl) ?_ (fun u6 => ?_)
      · intro a c W hE
        go_wp2_with fail
        exact ⟨_, rfl, ⟨W.heap.size, rfl, hE.2, .inl (Blk.new _ _ _)⟩, Late.grown ((Below.refl _ _).alloc (Nat.le_refl _) _) hE.2, hE.1.alloc _, by simp; have := hE.2; omega⟩
      dsimp only [Act.put]
      simp only [List.setIfInBounds_toArray, List.set_cons_succ, List.set_cons_zero]
      refine Walk.whatever (fun _ W => LateN w5.heap.size 91 #[.slice (some ⟨b, off + SZ, none⟩) (TOT - SZ) (cap - SZ), .int .u8 17, .int .u32 src, .int .u32 dst, .int .u16 0, .int .u16 0, .int .u8 0, .int .u8 0, .int .u8 0, .int .u8 0, .int .u32 0, .int .u32 0, .int .i64 0, .int .i64 0, .int .u8 0, .int .u32 0, .int .u32 0, .int .u16 0, .int .u16 0, .int .u8 0] u6 W) (fun _ => LateN.keep u6) rfl rfl rfl (by kernel_rfl) ?_ (fun uu => ?_)
      · intro c W hE hF
        obtain ⟨g, rfl, hg0, hg | hg⟩ := hF.head
        all_goals
          refine wpList_store_row rfl _ _ _ rfl g #[.slice (some ⟨b, off + SZ, none⟩) (TOT - SZ) (cap - SZ), .int .u8 17, .int .u32 src, .int .u32 dst, .int .u16 0, .int .u16 0, .int .u8 0, .int .u8 0, .int .u8 0, .int .u8 0, .int .u32 0, .int .u32 0, .int .i64 0, .int .i64 0, .int .u8 0, .int .u32 0, .int .u32 0, .int .u16 0, .int .u16 0, .int .u8 0] rfl rfl _ _ hg (by kernel_rfl) (by simp) (by simp [Value.oneCell']) ?_
          go_wp2_with fail
          refine ⟨undef, rfl, ⟨g, rfl, hg0, setRow_heap _ _ _ _ _ _ hg⟩, ?_, hE.1.rowFar (by omega) (by simp; omega) _, by simpa using hE.2⟩
        · exact Late.store hg (by omega)
        · exact Late.again hg (by omega)
      dsimp only [Act.put]
      refine Walk.done (fun W hE hF => ?_)
      obtain ⟨gp, rfl, hgp, hh⟩ := hF.head
      have br := hE.1.get 0 rfl
      have hbW := hE.1.1
      have HMc := Lib.hid (HMe.out W gp hbW (by omega) hh)
      have hcf := callFunc_udp
      have hgl := hh.lt
      clear hE hF hSt hh
      go_wp2_with fail
      refine HMc.out.mono ?_
      rintro e w7 ⟨rfl, l7, hz7, hpk⟩
      have br7 := br.below l7 (by omega)
      have hbW7 := hbW.trans (l7.mono (by omega))
      have Hpk := Lib.hid hpk
      clear br hbW hpk
      by_cases hE : EE = 0
      case neg =>
        have eb : (EE != 0) = true := by simpa using hE
        have hbW := hbW7
        have br := br7
        have HLk := Lib.hid (fun W m h => HLk0.out hE W m h)
        have HX4 := Lib.hid (HF.out.trans (if_neg (by rw [HX3.out]; exact HR0.out hE)))
        clear hbW7 br7 hE
        go_wp2_with fail
        refine wp_region_walk (by kernel_rfl) (fun c W => ReaSt w c W) [4] (ReaG w) [] (fun _ _ _ => True) [0, 2, 1, 3, 4, 5] (by kernel_rfl) (fun _ h => by simp at h) ⟨hbW.drew, br.drew⟩ ?_
        iterate 2
          apply Walk.one rfl rfl rfl
          case hrun =>
            intro c W hE hF
            go_wp2_with fail
            exact TextPost.mk ⟨fun _ _ h => h, hE⟩
          case hv => rfl
        refine Walk.anyOf (fun m : Nat => Value.map (some m)) (fun x y h => by simpa using h) (fun m W => w.heap.size < m ∧ ReasonsM W m) (fun m W W' h hG => ⟨h.1, hG m h.1 h.2⟩) rfl rfl rfl (by kernel_rfl) (by kernel_rfl) ?_ (fun m => ?_)
        · intro c W hE hF
          go_wp2_with fail
          refine (reasons_any W).mono ?_
          rintro e2 W2 ⟨m, rfl, hm0, hm, l2⟩
          go_wp2_with fail
          exact ⟨m, rfl, ⟨by have := hE.b.lt; omega, hm⟩, ReaG.of l2, hE.below_ l2⟩
        dsimp only [Act.put]
        simp only [List.setIfInBounds_toArray, List.set_cons_succ, List.set_cons_zero]
        apply Walk.one rfl rfl rfl
        case hrun =>
          intro c W hE hF
          have hlk := HLk.out W m hF.head.2
          go_wp2_with fail
          exact TextPost.mk ⟨fun _ _ h => h, hE⟩
        case hv => rfl
        apply Walk.keep 0 rfl rfl rfl rfl
        case hrun =>
          intro W hE hF
          have hb := hE.b
          unfold facZ at hb
          go_wp2_with (first | ((with_reducible refine look_store ?_); refine wpList_store_row rfl _ _ _ rfl _ _ rfl rfl _ _ hb (by kernel_rfl) (by simp) (by simp [Value.oneCell']) ?_) | fail)
          exact TextPost.mk ⟨fun m hm h => h.grown (grown_setRow _ _ _) (by simp; omega), below_setRow hE.below (Nat.le_refl _) _, setRow_heap _ _ _ _ _ _ hE.b⟩
        case hv => rfl
        apply Walk.one rfl rfl rfl
        case hrun =>
          intro c W hE hF
          go_wp2_with fail
          exact TextPost.mk ⟨fun _ _ h => h, hE⟩
        case hv => rfl
        refine Walk.done (fun W hE hF => ?_)
        have hbR := hE.b
        have hbW := hE.below
        clear hE hF
        go_wp2_with fail
        exact bodyPost_ret (results_cell_tmp Tryz.results9 _ _ _ _ _ _ _ rfl hbR Tryz.underlying41 rfl (by kernel_rfl)) rfl ⟨by rw [HX3.out, HX4.out]; rfl, hbW⟩
      subst hE
      have hpk := Hpk.out rfl
      have HX4 := Lib.hid (HF.out.trans (if_pos (by rw [HX3.out]; rfl)))
      clear Hpk
      obtain ⟨⟨k0, k1, k2, k3, k4⟩, f1, f2, f3, f4, f5, f6, f7, f8, ⟨q0, q1, q2, q3, q4⟩, f9⟩ := FD
      have hrg := hpk.range 1 (l := [.int .u8 k0, .int .u32 k1, .int .u32 k2, .int .u16 k3, .int .u16 k4, .int .u8 f1, .int .u8 f2, .int .u8 f3, .int .u8 f4, .int .u32 f5, .int .u32 f6, .int .i64 f7, .int .i64 f8, .int .u8 q0, .int .u32 q1, .int .u32 q2, .int .u16 q3, .int .u16 q4, .int .u8 f9]) rfl
      unfold facZ at br7
      clear hpk
      go_wp2_with (first | ((with_reducible refine look_load ?_); refine wpList_load_mid rfl _ _ rfl _ _ rfl _ _ hrg Tryz.underlying41 rfl (by kernel_rfl) ?_) | ((with_reducible refine look_store ?_); refine wpList_store_row rfl _ _ _ rfl _ _ rfl rfl _ _ br7 (by kernel_rfl) (by simp) (by simp [Value.oneCell']) ?_) | fail)
      exact bodyPost_ret (results_cell_tmp Tryz.results9 _ _ _ _ _ _ _ rfl (setRow_heap _ _ _ _ _ _ br7) Tryz.underlying41 rfl (by kernel_rfl)) rfl ⟨by rw [HX3.out, HX4.out]; rfl, below_setRow hbW7 (Nat.le_refl _) _⟩
  · rw [show dataE 1 D = icmpE2 D by unfold dataE; rw [if_neg (by decide), if_neg (by decide)]] at HX2
    rw [show dataF 1 (baseK 1 src dst) D = icmpF (baseK 1 src dst) D by unfold dataF; rw [if_neg (by decide), if_neg (by decide)]] at HF
    have HLk0 := Lib.hid (fun (h : icmpE2 D ≠ 0) W m hm => lookup_reasons W m hm (icmpE2 D) (by have := dataE_in 1 D (by unfold dataE; rw [if_neg (by decide), if_neg (by decide)]; exact h); unfold dataE at this; rw [if_neg (by decide), if_neg (by decide)] at this; exact this))
    have HR0 := Lib.hid (fun (h : icmpE2 D ≠ 0) => show reasonOf (icmpE2 D) ≠ 0 from reasonOf_ne _ (by have := dataE_in 1 D (by unfold dataE; rw [if_neg (by decide), if_neg (by decide)]; exact h); unfold dataE at this; rw [if_neg (by decide), if_neg (by decide)] at this; exact this))
    have HX3 := HX2
    clear HX2
    by_cases hk : cap = SZ
    · obtain rfl : TOT = cap := by omega
      obtain rfl : n = TOT := by omega
      subst hk
      have HMe := Lib.hid (fun (W : World) (g : Nat) (hb : Below w.heap.size w W) (hg : w.heap.size ≤ g) (hB : Blk W g 91 (pkC (.slice (some ⟨b, off, none⟩) (0) (0)) (baseK 1 src dst))) => pktIcmp_any 1 src dst (some ⟨b, off, none⟩) (0) (0) D g W (by rw [HDe.out rfl]; rfl) (by omega) (by omega) HDb.out (by rw [HDe.out rfl]; exact Rd.nil) hB (Hs.out.under hb hsl) (by omega))
      generalize icmpF (baseK 1 src dst) D = FD at *
      generalize icmpE2 D = EE at *
      go_wp2_with fail
      have hSt := ((St.nil hbW5 hbW5.size).cons bh5).cons br5
      clear hbW5 bh5 br5 c6' c7' c8' L6 L17 L1 hmm i1 i2 i3
      refine wp_region_walk (by kernel_rfl) (fun _ W => St w w.heap.size [(w.heap.size, 41, facZ), (w2.heap.size, 37, #[.int .u8 tos, .int .u16 id, .bool df, .bool mf, .int .i64 off0, .int .u8 ttl, .int .u8 1, .int .u32 src, .int .u32 dst, .slice OA on oc])] W ∧ w5.heap.size ≤ W.heap.size) [] (Late w5.heap.size 91 #[.slice none 0 0, .int .u8 0, .int .u32 0, .int .u32 0, .int .u16 0, .int .u16 0, .int .u8 0, .int .u8 0, .int .u8 0, .int .u8 0, .int .u32 0, .int .u32 0, .int .i64 0, .int .i64 0, .int .u8 0, .int .u32 0, .int .u32 0, .int .u16 0, .int .u16 0, .int .u8 0] #[.slice (some ⟨b, off, none⟩) (0) (0), .int .u8 1, .int .u32 src, .int .u32 dst, .int .u16 0, .int .u16 0, .int .u8 0, .int .u8 0, .int .u8 0, .int .u8 0, .int .u32 0, .int .u32 0, .int .i64 0, .int .i64 0, .int .u8 0, .int .u32 0, .int .u32 0, .int .u16 0, .int .u16 0, .int .u8 0])
        [13] (fun _ => LateB w5.heap.size 91 #[.slice none 0 0, .int .u8 0, .int .u32 0, .int .u32 0, .int .u16 0, .int .u16 0, .int .u8 0, .int .u8 0, .int .u8 0, .int .u8 0, .int .u32 0, .int .u32 0, .int .i64 0, .int .i64 0, .int .u8 0, .int .u32 0, .int .u32 0, .int .u16 0, .int .u16 0, .int .u8 0] #[.slice (some ⟨b, off, none⟩) (0) (0), .int .u8 1, .int .u32 src, .int .u32 dst, .int .u16 0, .int .u16 0, .int .u8 0, .int .u8 0, .int .u8 0, .int .u8 0, .int .u32 0, .int .u32 0, .int .i64 0, .int .i64 0, .int .u8 0, .int .u32 0, .int .u32 0, .int .u16 0, .int .u16 0, .int .u8 0]) [0, 1, 2, 3, 4, 5, 6, 7, 8, 9, 10, 11, 12, 13, 14] (by kernel_rfl) ?hfree5 ⟨hSt.drew, Nat.le_refl _⟩ ?hwalk5
      case hfree5 =>
        intro k hk
        obtain rfl : k = 13 := by simpa using hk
        refine ⟨rfl, LateB.keep, fun o ho a c W hE => ?_⟩
        simp at ho
        subst ho
        go_wp2_with fail
        exact ⟨_, rfl, ⟨W.heap.size, rfl, hE.2, .inl (Blk.new _ _ _)⟩, Late.grown ((Below.refl _ _).alloc (Nat.le_refl _) _) hE.2, hE.1.alloc _, by simp; have := hE.2; omega⟩
      iterate 13
        apply Walk.one rfl rfl rfl
        case hrun =>
          intro c W hE hF
          have hh := hE.1.get 1 rfl
          have d6 := hh.cell 6
          have d7 := hh.cell 7
          have d8 := hh.cell 8
          go_wp2_with fail
          exact TextPost.mk ⟨Late.refl _, hE⟩
        case hv => rfl
      refine Walk.freeOp LateB.keep rfl rfl (by kernel_rfl) ?_ (fun u6 => ?_)
      · intro a c W hE
        go_wp2_with fail
        exact ⟨_, rfl, ⟨W.heap.size, rfl, hE.2, .inl (Blk.new _ _ _)⟩, Late.grown ((Below.refl _ _).alloc (Nat.le_refl _) _) hE.2, hE.1.alloc _, by simp; have := hE.2; omega⟩
      dsimp only [Act.put]
      simp only [List.setIfInBounds_toArray, List.set_cons_succ, List.set_cons_zero]
      refine Walk.whatever (fun _ W => LateN w5.heap.size 91 #[.slice (some ⟨b, off, none⟩) (0) (0), .int .u8 1, .int .u32 src, .int .u32 dst, .int .u16 0, .int .u16 0, .int .u8 0, .int .u8 0, .int .u8 0, .int .u8 0, .int .u32 0, .int .u32 0, .int .i64 0, .int .i64 0, .int .u8 0, .int .u32 0, .int .u32 0, .int .u16 0, .int .u16 0, .int .u8 0] u6 W) (fun _ => LateN.keep u6) rfl rfl rfl (by kernel_rfl) ?_ (fun uu => ?_)
      · intro c W hE hF
        obtain ⟨g, rfl, hg0, hg | hg⟩ := hF.head
        all_goals
          refine wpList_store_row rfl _ _ _ rfl g #[.slice (some ⟨b, off, none⟩) (0) (0), .int .u8 1, .int .u32 src, .int .u32 dst, .int .u16 0, .int .u16 0, .int .u8 0, .int .u8 0, .int .u8 0, .int .u8 0, .int .u32 0, .int .u32 0, .int .i64 0, .int .i64 0, .int .u8 0, .int .u32 0, .int .u32 0, .int .u16 0, .int .u16 0, .int .u8 0] rfl rfl _ _ hg (by kernel_rfl) (by simp) (by simp [Value.oneCell']) ?_
          go_wp2_with fail
          refine ⟨undef, rfl, ⟨g, rfl, hg0, setRow_heap _ _ _ _ _ _ hg⟩, ?_, hE.1.rowFar (by omega) (by simp; omega) _, by simpa using hE.2⟩
        · exact Late.store hg (by omega)
        · exact Late.again hg (by omega)
      dsimp only [Act.put]
      refine Walk.done (fun W hE hF => ?_)
      obtain ⟨gp, rfl, hgp, hh⟩ := hF.head
      have br := hE.1.get 0 rfl
      have hbW := hE.1.1
      have HMc := Lib.hid (HMe.out W gp hbW (by omega) hh)
      have hcf := callFunc_icmp
      have hgl := hh.lt
      clear hE hF hSt hh
      go_wp2_with fail
      refine HMc.out.mono ?_
      rintro e w7 ⟨rfl, l7, hz7, hpk⟩
      have br7 := br.below l7 (by omega)
      have hbW7 := hbW.trans (l7.mono (by omega))
      have Hpk := Lib.hid hpk
      clear br hbW hpk
      by_cases hE : EE = 0
      case neg =>
        have eb : (EE != 0) = true := by simpa using hE
        have hbW := hbW7
        have br := br7
        have HLk := Lib.hid (fun W m h => HLk0.out hE W m h)
        have HX4 := Lib.hid (HF.out.trans (if_neg (by rw [HX3.out]; exact HR0.out hE)))
        clear hbW7 br7 hE
        go_wp2_with fail
        refine wp_region_walk (by kernel_rfl) (fun c W => ReaSt w c W) [4] (ReaG w) [] (fun _ _ _ => True) [0, 2, 1, 3, 4, 5] (by kernel_rfl) (fun _ h => by simp at h) ⟨hbW.drew, br.drew⟩ ?_
        iterate 2
          apply Walk.one rfl rfl rfl
          case hrun =>
            intro c W hE hF
            go_wp2_with fail
            exact TextPost.mk ⟨fun _ _ h => h, hE⟩
          case hv => rfl
        refine Walk.anyOf (fun m : Nat => Value.map (some m)) (fun x y h => by simpa using h) (fun m W => w.heap.size < m ∧ ReasonsM W m) (fun m W W' h hG => ⟨h.1, hG m h.1 h.2⟩) rfl rfl rfl (by kernel_rfl) (by kernel_rfl) ?_ (fun m => ?_)
        · intro c W hE hF
          go_wp2_with fail
          refine (reasons_any W).mono ?_
          rintro e2 W2 ⟨m, rfl, hm0, hm, l2⟩
          go_wp2_with fail
          exact ⟨m, rfl, ⟨by have := hE.b.lt; omega, hm⟩, ReaG.of l2, hE.below_ l2⟩
        dsimp only [Act.put]
        simp only [List.setIfInBounds_toArray, List.set_cons_succ, List.set_cons_zero]
        apply Walk.one rfl rfl rfl
        case hrun =>
          intro c W hE hF
          have hlk := HLk.out W m hF.head.2
          go_wp2_with fail
          exact TextPost.mk ⟨fun _ _ h => h, hE⟩
        case hv => rfl
        apply Walk.keep 0 rfl rfl rfl rfl
        case hrun =>
          intro W hE hF
          have hb := hE.b
          unfold facZ at hb
          go_wp2_with (first | ((with_reducible refine look_store ?_); refine wpList_store_row rfl _ _ _ rfl _ _ rfl rfl _ _ hb (by kernel_rfl) (by simp) (by simp [Value.oneCell']) ?_) | fail)
          exact TextPost.mk ⟨fun m hm h => h.grown (grown_setRow _ _ _) (by simp; omega), below_setRow hE.below (Nat.le_refl _) _, setRow_heap _ _ _ _ _ _ hE.b⟩
        case hv => rfl
        apply Walk.one rfl rfl rfl
        case hrun =>
          intro c W hE hF
          go_wp2_with fail
          exact TextPost.mk ⟨fun _ _ h => h, hE⟩
        case hv => rfl
        refine Walk.done (fun W hE hF => ?_)
        have hbR := hE.b
        have hbW := hE.below
        clear hE hF
        go_wp2_with fail
        exact bodyPost_ret (results_cell_tmp Tryz.results9 _ _ _ _ _ _ _ rfl hbR Tryz.underlying41 rfl (by kernel_rfl)) rfl ⟨by rw [HX3.out, HX4.out]; rfl, hbW⟩
      subst hE
      have hpk := Hpk.out rfl
      have HX4 := Lib.hid (HF.out.trans (if_pos (by rw [HX3.out]; rfl)))
      clear Hpk
      obtain ⟨⟨k0, k1, k2, k3, k4⟩, f1, f2, f3, f4, f5, f6, f7, f8, ⟨q0, q1, q2, q3, q4⟩, f9⟩ := FD
      have hrg := hpk.range 1 (l := [.int .u8 k0, .int .u32 k1, .int .u32 k2, .int .u16 k3, .int .u16 k4, .int .u8 f1, .int .u8 f2, .int .u8 f3, .int .u8 f4, .int .u32 f5, .int .u32 f6, .int .i64 f7, .int .i64 f8, .int .u8 q0, .int .u32 q1, .int .u32 q2, .int .u16 q3, .int .u16 q4, .int .u8 f9]) rfl
      unfold facZ at br7
      clear hpk
      go_wp2_with (first | ((with_reducible refine look_load ?_); refine wpList_load_mid rfl _ _ rfl _ _ rfl _ _ hrg Tryz.underlying41 rfl (by kernel_rfl) ?_) | ((with_reducible refine look_store ?_); refine wpList_store_row rfl _ _ _ rfl _ _ rfl rfl _ _ br7 (by kernel_rfl) (by simp) (by simp [Value.oneCell']) ?_) | fail)
      exact bodyPost_ret (results_cell_tmp Tryz.results9 _ _ _ _ _ _ _ rfl (setRow_heap _ _ _ _ _ _ br7) Tryz.underlying41 rfl (by kernel_rfl)) rfl ⟨by rw [HX3.out, HX4.out]; rfl, below_setRow hbW7 (Nat.le_refl _) _⟩
    · skip
      have HMe := Lib.hid (fun (W : World) (g : Nat) (hb : Below w.heap.size w W) (hg : w.heap.size ≤ g) (hB : Blk W g 91 (pkC (.slice (some ⟨b, off + SZ, none⟩) (TOT - SZ) (cap - SZ)) (baseK 1 src dst))) => pktIcmp_any 1 src dst (some ⟨b, off + SZ, none⟩) (cap - SZ) (TOT - SZ) D g W HD.out (by omega) (by omega) HDb.out ((HDr.out.below hb (Nat.le_refl _)).more hg) hB (Hs.out.under hb hsl) (by omega))
      generalize icmpF (baseK 1 src dst) D = FD at *
      generalize icmpE2 D = EE at *
      go_wp2_with fail
      have hSt := ((St.nil hbW5 hbW5.size).cons bh5).cons br5
      clear hbW5 bh5 br5 c6' c7' c8' L6 L17 L1 hmm i1 i2 i3
      refine wp_region_walk (by kernel_rfl) (fun _ W => St w w.heap.size [(w.heap.size, 41, facZ), (w2.heap.size, 37, #[.int .u8 tos, .int .u16 id, .bool df, .bool mf, .int .i64 off0, .int .u8 ttl, .int .u8 1, .int .u32 src, .int .u32 dst, .slice OA on oc])] W ∧ w5.heap.size ≤ W.heap.size) [] (Late w5.heap.size 91 #[.slice none 0 0, .int .u8 0, .int .u32 0, .int .u32 0, .int .u16 0, .int .u16 0, .int .u8 0, .int .u8 0, .int .u8 0, .int .u8 0, .int .u32 0, .int .u32 0, .int .i64 0, .int .i64 0, .int .u8 0, .int .u32 0, .int .u32 0, .int .u16 0, .int .u16 0, .int .u8 0] #[.slice (some ⟨b, off + SZ, none⟩) (TOT - SZ) (cap - SZ), .int .u8 1, .int .u32 src, .int .u32 dst, .int .u16 0, .int .u16 0, .int .u8 0, .int .u8 0, .int .u8 0, .int .u8 0, .int .u32 0, .int .u32 0, .int .i64 0, .int .i64 0, .int .u8 0, .int .u32 0, .int .u32 0, .int .u16 0, .int .u16 0, .int .u8 0])
        [13] (fun _ => LateB w5.heap.size 91 #[.slice none 0 0, .int .u8 0, .int .u32 0, .int .u32 0, .int .u16 0, .int .u16 0, .int .u8 0, .int .u8 0, .int .u8 0, .int .u8 0, .int .u32 0, .int .u32 0, .int .i64 0, .int .i64 0, .int .u8 0, .int .u32 0, .int .u32 0, .int .u16 0, .int .u16 0, .int .u8 0] #[.slice (some ⟨b, off + SZ, none⟩) (TOT - SZ) (cap - SZ), .int .u8 1, .int .u32 src, .int .u32 dst, .int .u16 0, .int .u16 0, .int .u8 0, .int .u8 0, .int .u8 0, .int .u8 0, .int .u32 0, .int .u32 0, .int .i64 0, .int .i64 0, .int .u8 0, .int .u32 0, .int .u32 0, .int .u16 0, .int .u16 0, .int .u8 0]) [0, 1, 2, 3, 4, 5, 6, 7, 8, 9, 10, 11, 12, 13, 14] (by kernel_rfl) ?hfree6 ⟨hSt.drew, Nat.le_refl _⟩ ?hwalk6
      case hfree6 =>
        intro k hk
        obtain rfl : k = 13 := by simpa using hk
        refine ⟨rfl, LateB.keep, fun o ho a c W hE => ?_⟩
        simp at ho
        subst ho
        go_wp2_with fail
        exact ⟨_, rfl, ⟨W.heap.size, rfl, hE.2, .inl (Blk.new _ _ _)⟩, Late.grown ((Below.refl _ _).alloc (Nat.le_refl _) _) hE.2, hE.1.alloc _, by simp; have := hE.2; omega⟩
      iterate 13
        apply Walk.one rfl rfl rfl
        case hrun =>
          intro c W hE hF
          have hh := hE.1.get 1 rfl
          have d6 := hh.cell 6
          have d7 := hh.cell 7
          have d8 := hh.cell 8
          go_wp2_with fail
          exact TextPost.mk ⟨Late.refl _, hE⟩
        case hv => rfl
      refine Walk.freeOp LateB.keep rfl rfl (by kernel_rfl) ?_ (fun u6 => ?_)
      · intro a c W hE
        go_wp2_with fail
        exact ⟨_, rfl, ⟨W.heap.size, rfl, hE.2, .inl (Blk.new _ _ _)⟩, Late.grown ((Below.refl _ _).alloc (Nat.le_refl _) _) hE.2, hE.1.alloc _, by simp; have := hE.2; omega⟩
      dsimp only [Act.put]
      simp only [List.setIfInBounds_toArray, List.set_cons_succ, List.set_cons_zero]
      refine Walk.whatever (fun _ W => LateN w5.heap.size 91 #[.slice (some ⟨b, off + SZ, none⟩) (TOT - SZ) (cap - SZ), .int .u8 1, .int .u32 src, .int .u32 dst, .int .u16 0, .int .u16 0, .int .u8 0, .int .u8 0, .int .u8 0, .int .u8 0, .int .u32 0, .int .u32 0, .int .i64 0, .int .i64 0, .int .u8 0, .int .u32 0, .int .u32 0, .int .u16 0, .int .u16 0, .int .u8 0] u6 W) (fun _ => LateN.keep u6) rfl rfl rfl (by kernel_rfl) ?_ (fun uu => ?_)
      · intro c W hE hF
        obtain ⟨g, rfl, hg0, hg | hg⟩ := hF.head
        all_goals
          refine wpList_store_row rfl _ _ _ rfl g #[.slice (some ⟨b, off + SZ, none⟩) (TOT - SZ) (cap - SZ), .int .u8 1, .int .u32 src, .int .u32 dst, .int .u16 0, .int .u16 0, .int .u8 0, .int .u8 0, .int .u8 0, .int .u8 0, .int .u32 0, .int .u32 0, .int .i64 0, .int .i64 0, .int .u8 0, .int .u32 0, .int .u32 0, .int .u16 0, .int .u16 0, .int .u8 0] rfl rfl _ _ hg (by kernel_rfl) (by simp) (by simp [Value.oneCell']) ?_
          go_wp2_with fail
          refine ⟨undef, rfl, ⟨g, rfl, hg0, setRow_heap _ _ _ _ _ _ hg⟩, ?_, hE.1.rowFar (by omega) (by simp; omega) _, by simpa using hE.2⟩
        · exact Late.store hg (by omega)
        · exact Late.again hg (by omega)
      dsimp only [Act.put]
      refine Walk.done (fun W hE hF => ?_)
      obtain ⟨gp, rfl, hgp, hh⟩ := hF.head
      have br := hE.1.get 0 rfl
      have hbW := hE.1.1
      have HMc := Lib.hid (HMe.out W gp hbW (by omega) hh)
      have hcf := callFunc_icmp
      have hgl := hh.lt
      clear hE hF hSt hh
      go_wp2_with fail
      refine HMc.out.mono ?_
      rintro e w7 ⟨rfl, l7, hz7, hpk⟩
      have br7 := br.below l7 (by omega)
      have hbW7 := hbW.trans (l7.mono (by omega))
      have Hpk := Lib.hid hpk
      clear br hbW hpk
      by_cases hE : EE = 0
      case neg =>
        have eb : (EE != 0) = true := by simpa using hE
        have hbW := hbW7
        have br := br7
        have HLk := Lib.hid (fun W m h => HLk0.out hE W m h)
        have HX4 := Lib.hid (HF.out.trans (if_neg (by rw [HX3.out]; exact HR0.out hE)))
        clear hbW7 br7 hE
        go_wp2_with fail
        refine wp_region_walk (by kernel_rfl) (fun c W => ReaSt w c W) [4] (ReaG w) [] (fun _ _ _ => True) [0, 2, 1, 3, 4, 5] (by kernel_rfl) (fun _ h => by simp at h) ⟨hbW.drew, br.drew⟩ ?_
        iterate 2
          apply Walk.one rfl rfl rfl
          case hrun =>
            intro c W hE hF
            go_wp2_with fail
            exact TextPost.mk ⟨fun _ _ h => h, hE⟩
          case hv => rfl
        refine Walk.anyOf (fun m : Nat => Value.map (some m)) (fun x y h => by simpa using h) (fun m W => w.heap.size < m ∧ ReasonsM W m) (fun m W W' h hG => ⟨h.1, hG m h.1 h.2⟩) rfl rfl rfl (by kernel_rfl) (by kernel_rfl) ?_ (fun m => ?_)
        · intro c W hE hF
          go_wp2_with fail
          refine (reasons_any W).mono ?_
          rintro e2 W2 ⟨m, rfl, hm0, hm, l2⟩
          go_wp2_with fail
          exact ⟨m, rfl, ⟨by have := hE.b.lt; omega, hm⟩, ReaG.of l2, hE.below_ l2⟩
        dsimp only [Act.put]
        simp only [List.setIfInBounds_toArray, List.set_cons_succ, List.set_cons_zero]
        apply Walk.one rfl rfl rfl
        case hrun =>
          intro c W hE hF
          have hlk := HLk.out W m hF.head.2
          go_wp2_with fail
          exact TextPost.mk ⟨fun _ _ h => h, hE⟩
        case hv => rfl
        apply Walk.keep 0 rfl rfl rfl rfl
        case hrun =>
          intro W hE hF
          have hb := hE.b
          unfold facZ at hb
          go_wp2_with (first | ((with_reducible refine look_store ?_); refine wpList_store_row rfl _ _ _ rfl _ _ rfl rfl _ _ hb (by kernel_rfl) (by simp) (by simp [Value.oneCell']) ?_) | fail)
          exact TextPost.mk ⟨fun m hm h => h.grown (grown_setRow _ _ _) (by simp; omega), below_setRow hE.below (Nat.le_refl _) _, setRow_heap _ _ _ _ _ _ hE.b⟩
        case hv => rfl
        apply Walk.one rfl rfl rfl
        case hrun =>
          intro c W hE hF
          go_wp2_with fail
          exact TextPost.mk ⟨fun _ _ h => h, hE⟩
        case hv => rfl
        refine Walk.done (fun W hE hF => ?_)
        have hbR := hE.b
        have hbW := hE.below
        clear hE hF
        go_wp2_with fail
        exact bodyPost_ret (results_cell_tmp Tryz.results9 _ _ _ _ _ _ _ rfl hbR Tryz.underlying41 rfl (by kernel_rfl)) rfl ⟨by rw [HX3.out, HX4.out]; rfl, hbW⟩
      subst hE
      have hpk := Hpk.out rfl
      have HX4 := Lib.hid (HF.out.trans (if_pos (by rw [HX3.out]; rfl)))
      clear Hpk
      obtain ⟨⟨k0, k1, k2, k3, k4⟩, f1, f2, f3, f4, f5, f6, f7, f8, ⟨q0, q1, q2, q3, q4⟩, f9⟩ := FD
      have hrg := hpk.range 1 (l := [.int .u8 k0, .int .u32 k1, .int .u32 k2, .int .u16 k3, .int .u16 k4, .int .u8 f1, .int .u8 f2, .int .u8 f3, .int .u8 f4, .int .u32 f5, .int .u32 f6, .int .i64 f7, .int .i64 f8, .int .u8 q0, .int .u32 q1, .int .u32 q2, .int .u16 q3, .int .u16 q4, .int .u8 f9]) rfl
      unfold facZ at br7
      clear hpk
      go_wp2_with (first | ((with_reducible refine look_load ?_); refine wpList_load_mid rfl _ _ rfl _ _ rfl _ _ hrg Tryz.underlying41 rfl (by kernel_rfl) ?_) | ((with_reducible refine look_store ?_); refine wpList_store_row rfl _ _ _ rfl _ _ rfl rfl _ _ br7 (by kernel_rfl) (by simp) (by simp [Value.oneCell']) ?_) | fail)
      exact bodyPost_ret (results_cell_tmp Tryz.results9 _ _ _ _ _ _ _ rfl (setRow_heap _ _ _ _ _ _ br7) Tryz.underlying41 rfl (by kernel_rfl)) rfl ⟨by rw [HX3.out, HX4.out]; rfl, below_setRow hbW7 (Nat.le_refl _) _⟩
theorem pktRead_any (A : Option Addr) (cap n : Nat) (xs : List Int) (w : World) (hn : xs.length = n) (hl : n ≤ 1000000) (hcap : n ≤ cap) (hB : Byt xs) (hr : Rd w w.heap.size A .u8 xs) (hs : SortsAt w) :
    Calls Tryz.prog 9 #[.slice A n cap] w fun e W' => e = .returned (.tuple #[(pktF xs).val, .int .u8 (pktR xs)]) ∧ Below w.heap.size w W' := by
  rcases Nat.lt_or_ge (ipN xs) 7 with h | h
  · exact pktRead_bad A cap n xs w hn hl hcap hB hr h
  · exact pktRead_good A cap n xs w hn hl hcap hB hr hs (by have := firstB_le (ipT xs) 7 0; unfold ipN at *; omega)
end Go.Proofs.YtebeekjcepjcnaaGreatDoor
