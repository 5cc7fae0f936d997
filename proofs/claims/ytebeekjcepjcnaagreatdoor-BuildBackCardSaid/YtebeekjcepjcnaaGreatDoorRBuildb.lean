/-
  Package build: Build.
  The facts of any packet are right; a packet that is built is read with its facts (plain).
-/
import Derived.Test.YtebeekjcepjcnaaGreatDoorRFailure
namespace Go.Proofs.YtebeekjcepjcnaaGreatDoor
open Go.RowKit

def Facts.dataL (f : Facts) : List Int := if f.kind = 1 then f.segL else if f.kind = 2 then f.datL else if f.kind = 5 then f.failL else f.msgL
def Facts.buildL (f : Facts) : List Int := ipWriteL (hdrH f.key) f.dataL

theorem right_parts {f : Facts} (h : f.right = true) : 1 ≤ f.kind ∧ f.kind ≤ 5 ∧ f.fRight = true := by
  unfold Facts.right at h
  simp only [Bool.and_eq_true, decide_eq_true_eq] at h
  exact ⟨h.1.1.1.1.1.1.1, h.1.1.1.1.1.1.2, h.1.2⟩
theorem data_any (f : Facts) (w : World) (ho : f.Ok) (hr : f.right = true) (hs : SortsAt w) :
    Calls Tryz.prog (dataS f.kind) #[f.val] w fun e w' => ∃ v, e = .returned v ∧ Own w' w.heap.size v f.dataL ∧ Below w.heap.size w w' := by
  obtain ⟨_, _, hf⟩ := right_parts hr
  unfold Facts.dataL dataS
  unfold Facts.fRight at hf
  by_cases h1 : f.kind = 1
  · rw [if_pos h1] at hf ⊢
    rw [if_pos h1]
    exact segment_any f w ho hf
  · rw [if_neg h1] at hf ⊢
    rw [if_neg h1]
    by_cases h2 : f.kind = 2
    · rw [if_pos h2] at hf ⊢
      rw [if_pos h2]
      exact datagram_any f w ho hf
    · rw [if_neg h2] at hf ⊢
      rw [if_neg h2]
      by_cases h5 : f.kind = 5
      · rw [if_pos h5] at hf ⊢
        rw [if_pos h5]
        exact failure_any f w ho hf hs
      · rw [if_neg h5] at hf ⊢
        rw [if_neg h5]
        exact message_any f w ho hf hs
theorem tcpL_len (sp dp seqn ackn : Int) (fl : Nat) (win urg src dst : Int) (data : List Int) : (tcpL sp dp seqn ackn fl win urg [] src dst data).length = 20 + data.length := by
  unfold tcpL tcpSumL
  rw [length_splice]
  · simp [tcpL0, tcpHead, b16s_len, b32s_len]; omega
  · simp [tcpL0, tcpHead, b16s_len, b32s_len]; omega
theorem icmpL_len (t c i s : Int) (data : List Int) : (icmpL t c i s data).length = 8 + data.length := by
  unfold icmpL
  rw [fixL_len]
  simp [icmpHead]; omega
theorem udpL_len (sp dp : Int) (chk : Bool) (src dst : Int) (data : List Int) : (udpL sp dp chk src dst data).length = 8 + data.length := by
  unfold udpL
  split <;> simp [udp0_len]
theorem dataL_len {f : Facts} (hr : f.right = true) : f.dataL.length = (if f.kind = 1 then 20 else 8) + f.length.toNat ∧ f.dataL.length ≤ 65515 := by
  obtain ⟨_, _, hf⟩ := right_parts hr
  have h8 := (qL_len (quotedF_length f)).1
  unfold Facts.dataL
  unfold Facts.fRight at hf
  by_cases h1 : f.kind = 1
  · rw [if_pos h1] at hf ⊢
    rw [if_pos h1]
    simp only [Facts.rightTCP, betweenB, Bool.and_eq_true, decide_eq_true_eq] at hf
    unfold Facts.segL
    rw [tcpL_len, zerosL_len]
    omega
  · rw [if_neg h1] at hf ⊢
    rw [if_neg h1]
    by_cases h2 : f.kind = 2
    · rw [if_pos h2] at hf ⊢
      simp only [Facts.rightUDP, betweenB, Bool.and_eq_true, decide_eq_true_eq] at hf
      unfold Facts.datL
      rw [udpL_len, zerosL_len]
      omega
    · rw [if_neg h2] at hf ⊢
      by_cases h5 : f.kind = 5
      · rw [if_pos h5] at hf ⊢
        simp only [Facts.rightError, betweenB, Bool.and_eq_true, decide_eq_true_eq] at hf
        unfold Facts.failL
        rw [icmpL_len]
        simp only [List.length_append, headL_len, List.length_take, qIn_len, List.length_replicate, hdrH, List.length_nil]
        omega
      · rw [if_neg h5] at hf ⊢
        simp only [Facts.rightQuery, betweenB, Bool.and_eq_true, decide_eq_true_eq] at hf
        unfold Facts.msgL
        rw [icmpL_len, zerosL_len]
        omega

set_option maxRecDepth 100000 in
set_option maxHeartbeats 2000000 in
theorem build_yes (f : Facts) (w : World) (ho : f.Ok) (hr : f.right = true) (hs : SortsAt w) :
    Calls Tryz.prog 8 #[f.val] w fun e w' => ∃ v, e = .returned (.tuple #[v, .int .i64 0]) ∧ Own w' w.heap.size v f.buildL ∧ Below w.heap.size w w' := by
  obtain ⟨hk0, hk1, _⟩ := right_parts hr
  have HR := Lib.hid (fun W h => right_all f W ho h)
  rw [hr] at HR
  have HD := Lib.hid (fun W h => data_any f W ho hr h)
  have hl := (dataL_len hr).2
  have HH := Lib.hid (fun A dcap W h => header_any f A dcap _ f.dataL W ho.key rfl hl h)
  have HB := Lib.hid (show ipWriteL (hdrH f.key) f.dataL = f.buildL from rfl)
  rw [HB.out] at HH
  have Hlk := Lib.hid (fun (W : World) (m : Nat) (h : SortsM W m) => lookup_sorts W m h f.kind hk0 hk1 false)
  have hcf := callFunc_d f.kind
  have Hs := Lib.hid hs
  clear ho hr hs hk0 hk1 HB hl
  unfold sortV at Hlk
  generalize f.buildL = R at *
  generalize f.dataL = DL at *
  generalize protoS f.kind = pr at *
  generalize fieldsS f.kind = fn at *
  generalize dataS f.kind = dn at *
  obtain ⟨⟨k0, k1, k2, k3, k4⟩, kind, flags, type, code, seqn, ackn, window, length, ⟨q0, q1, q2, q3, q4⟩, qkind⟩ := f
  dsimp only [Facts.val, Facts.cells, Key.cells, List.cons_append, List.nil_append]
  dsimp only [Facts.val, Facts.cells, Key.cells, List.cons_append, List.nil_append] at HR HD HH
  try dsimp only at Hlk
  simp only [Bool.false_eq_true, if_false] at Hlk
  have hfd : ∀ W, (Instr.field 77 (.agg #[.int .u8 pr, .func (.func fn) #[] #[], .func (.func dn) #[] #[]]) 2).run Tryz.prog W = .ok (.func (.func dn) #[] #[]) W := fun _ => by kernel_rfl
  go_enter Tryz.func8, Tryz.ntmps8
  go_upto_region 1 with (fail)
  refine wp_name1 ?_
  intro w1 hb1 hs1 b0
  clear hs1
  have Hs1 := Lib.hid (Hs.out.below hb1 (Nat.le_refl _))
  go_upto_region 3 with (first | ((with_reducible refine look_load ?_); refine wpList_load_row rfl _ _ rfl _ rfl _ _ _ _ b0 Tryz.underlying41 rfl (by kernel_rfl) ?_) | (go_at_call 10; refine (HR.out _ Hs1.out).mono ?_; rintro e w2 ⟨rfl, l2⟩) | fail)
  have b0' := b0.below l2 b0.lt
  have hb2 := hb1.trans (l2.mono hb1.size)
  clear b0 l2 hb1 Hs1
  go_upto_region 4 with (first | ((with_reducible refine look_load ?_); refine wpList_load_row rfl _ _ rfl _ rfl _ _ _ _ b0' Tryz.underlying41 rfl (by kernel_rfl) ?_) | ((with_reducible refine look_store ?_); refine wpList_store_new rfl _ _ _ rfl _ _ rfl rfl _ _ rfl (by kernel_rfl) (by simp) (by simp [Value.oneCell']) ?_) | fail)
  try dsimp only [Act.put]
  refine wp_name1 ?_
  intro w3 hb3 hs3 b4
  clear hs3
  have b0 := b0'.below hb3 b0'.lt
  have hb4 := hb2.trans (hb3.mono hb2.size)
  have hSt := ((St.nil hb4 hb4.size).cons b4).cons b0
  clear b0' hb2 hb3
  refine wp_region_walk0 (by kernel_rfl) (fun _ W => St w w.heap.size _ W) [] Grow [0, 2, 3, 6, 1, 4, 5, 7, 8, 9, 10] (by kernel_rfl) hSt.drew ?_
  iterate 4
    apply Walk.one rfl rfl rfl
    case hrun =>
      intro c W hE hF
      have hbp := hE.get 1 rfl
      have hc0 := (hE.get 0 rfl).cell
      go_wp2_with (first | ((with_reducible refine look_load ?_); refine wpList_load_row rfl _ _ rfl _ rfl _ _ _ _ hbp Tryz.underlying72 rfl (by kernel_rfl) ?_) | fail)
      exact TextPost.mk ⟨Grow.refl _, hE⟩
    case hv => rfl
  refine Walk.whatever (fun u W => ∃ m, u = .map (some m) ∧ SortsM W m) ?_ rfl rfl rfl (by kernel_rfl) ?_ (fun u0 => ?_)
  · rintro u W W' ⟨m, e, hm⟩ hG
    exact ⟨m, e, hm.grown (grown_of_below (row := none) hG) (by simp)⟩
  · intro c W hE hF
    go_wp2_with fail
    refine (sorts_any _).mono ?_
    rintro e W2 ⟨m, rfl, hm0, hm, l⟩
    go_wp2_with fail
    exact ⟨_, rfl, ⟨m, rfl, hm⟩, l, hE.below l⟩
  dsimp only [Act.put]
  simp only [List.setIfInBounds_toArray, List.set_cons_succ, List.set_cons_zero]
  apply Walk.one rfl rfl rfl
  case hrun =>
    intro c W hE hF
    have hlk : (Instr.lookup 78 u0 (.int .u8 kind) false).run Tryz.prog W = .ok (.agg #[.int .u8 pr, .func (.func fn) #[] #[], .func (.func dn) #[] #[]]) W := by
      obtain ⟨m, rfl, hm⟩ := hF.head
      exact Hlk.out W m hm
    go_wp2_with fail
    exact TextPost.mk ⟨Grow.refl _, hE⟩
  case hv => rfl
  apply Walk.one rfl rfl rfl
  case hrun =>
    intro c W hE hF
    go_wp2_with fail
    exact TextPost.mk ⟨Grow.refl _, hE⟩
  case hv => rfl
  refine Walk.anyOf (fun v => v) (fun _ _ h => h) (fun v W => Own W w.heap.size v DL) (fun _ _ _ h hG => h.keep hG) rfl rfl rfl (by kernel_rfl) (by kernel_rfl) ?_ (fun v => ?_)
  · intro c W hE hF
    have HsW := Lib.hid (Hs.out.below hE.1 (Nat.le_refl _))
    go_wp2_with fail
    refine (HD.out W HsW.out).mono ?_
    rintro e W2 ⟨v, rfl, hown, l⟩
    go_wp2_with fail
    exact ⟨v, rfl, hown.base_le hE.2.1, l, hE.below l⟩
  dsimp only [Act.put]
  simp only [List.setIfInBounds_toArray, List.set_cons_succ, List.set_cons_zero]
  refine Walk.anyOf (fun v => v) (fun _ _ h => h) (fun v W => Own W w.heap.size v R) (fun _ _ _ h hG => h.keep hG) rfl rfl rfl (by kernel_rfl) (by kernel_rfl) ?_ (fun v2 => ?_)
  · intro c W hE hF
    obtain ⟨A, cap, rfl, hrd, _, _⟩ := hF.head.open_
    go_wp2_with fail
    refine (HH.out A cap W hrd).mono ?_
    rintro e W2 ⟨v, rfl, hown, l⟩
    go_wp2_with fail
    exact ⟨v, rfl, hown.base_le hE.2.1, l, hE.below l⟩
  dsimp only [Act.put]
  simp only [List.setIfInBounds_toArray, List.set_cons_succ, List.set_cons_zero]
  iterate 2
    apply Walk.one rfl rfl rfl
    case hrun =>
      intro c W hE hF
      go_wp2_with fail
      exact TextPost.mk ⟨Grow.refl _, hE⟩
    case hv => rfl
  refine Walk.done (fun W hE hF => ?_)
  have ho := hF.head
  have hbW := hE.1
  clear hSt hE hF
  go_wp2_with fail
  go_ret2
  exact ⟨_, rfl, ho, hbW⟩

set_option maxRecDepth 100000 in
set_option maxHeartbeats 2000000 in
theorem build_no (f : Facts) (w : World) (ho : f.Ok) (hr : f.right = false) (hs : SortsAt w) :
    Calls Tryz.prog 8 #[f.val] w fun e w' => e = .returned (.tuple #[.slice none 0 0, .int .i64 120]) ∧ Below w.heap.size w w' := by
  have HR := Lib.hid (fun W h => right_all f W ho h)
  rw [hr] at HR
  have Hs := Lib.hid hs
  clear ho hr hs
  obtain ⟨⟨k0, k1, k2, k3, k4⟩, kind, flags, type, code, seqn, ackn, window, length, ⟨q0, q1, q2, q3, q4⟩, qkind⟩ := f
  dsimp only [Facts.val, Facts.cells, Key.cells, List.cons_append, List.nil_append]
  dsimp only [Facts.val, Facts.cells, Key.cells, List.cons_append, List.nil_append] at HR
  go_enter Tryz.func8, Tryz.ntmps8
  go_upto_region 1 with (fail)
  refine wp_name1 ?_
  intro w1 hb1 hs1 b0
  clear hs1
  have Hs1 := Lib.hid (Hs.out.below hb1 (Nat.le_refl _))
  go_wp2_with (first | ((with_reducible refine look_load ?_); refine wpList_load_row rfl _ _ rfl _ rfl _ _ _ _ b0 Tryz.underlying41 rfl (by kernel_rfl) ?_) | (go_at_call 10; refine (HR.out _ Hs1.out).mono ?_; rintro e w2 ⟨rfl, l2⟩) | fail)
  go_ret2
  exact ⟨rfl, hb1.trans (l2.mono hb1.size)⟩

end Go.Proofs.YtebeekjcepjcnaaGreatDoor
namespace Go.Proofs.YtebeekjcepjcnaaGreatDoor
open Go.RowKit
theorem tcpE_range (d : List Int) : tcpE d = 0 ∨ 80 ≤ tcpE d ∧ tcpE d ≤ 83 := by unfold tcpE; repeat' split <;> omega
theorem udpE_cases (d : List Int) : udpE d = 0 ∨ 90 ≤ udpE d ∧ udpE d ≤ 92 := by unfold udpE; repeat' split <;> omega
theorem kind2_cases (t c : Nat) : kind2 t c = 0 ∨ kind2 t c = 101 ∨ kind2 t c = 102 := by unfold kind2; repeat' split <;> omega
theorem icmpE_cases (d : List Int) : icmpE d = 0 ∨ 100 ≤ icmpE d ∧ icmpE d ≤ 102 := by
  have := kind2_cases (d.getD 0 0).toNat (d.getD 1 0).toNat
  unfold icmpE; split <;> omega
theorem quoE_cases (d : List Int) : quoE d = 0 ∨ 103 ≤ quoE d ∧ quoE d ≤ 104 := by unfold quoE; repeat' split <;> omega
theorem dataE_cases (p : Int) (d : List Int) : dataE p d = 0 ∨ reasonOf (dataE p d) ≠ 0 := by
  have h1 := tcpE_range d
  have h2 : udpE2 d = 0 ∨ 90 ≤ udpE2 d ∧ udpE2 d ≤ 92 := by
    have := udpE_cases d
    unfold udpE2; repeat' split <;> omega
  have h3 : icmpE2 d = 0 ∨ 100 ≤ icmpE2 d ∧ icmpE2 d ≤ 104 := by
    have := icmpE_cases d
    have := quoE_cases (d.drop 8)
    unfold icmpE2; repeat' split <;> omega
  have h : dataE p d = 0 ∨ 80 ≤ dataE p d ∧ dataE p d ≤ 83 ∨ 90 ≤ dataE p d ∧ dataE p d ≤ 92 ∨ 100 ≤ dataE p d ∧ dataE p d ≤ 104 := by
    unfold dataE; repeat' split <;> omega
  rcases h with h | h
  · exact .inl h
  · refine .inr ?_
    unfold reasonOf
    repeat' split <;> omega
structure PktOk (b : List Int) : Prop where
  ipe : ipE b = 0
  why : (ipHdr b).reason = 0
  proto : (ipHdr b).proto = 6 ∨ (ipHdr b).proto = 17 ∨ (ipHdr b).proto = 1
  data : dataE (ipHdr b).proto (ipData b) = 0
  facts : pktF b = dataF (ipHdr b).proto (baseF (ipHdr b)) (ipData b)
theorem pkt_open {b : List Int} (h : pktR b = 0) : PktOk b := by
  have hf : pktF b = dataF (ipHdr b).proto (baseF (ipHdr b)) (ipData b) := by unfold pktF; rw [if_pos h]
  unfold pktR at h
  have hn := firstB_le (ipT b) 7 0
  split at h
  · rename_i h1
    exfalso
    unfold ipE ipN at h h1
    split at h
    · unfold reasonOf at h
      rw [if_pos (by omega)] at h
      omega
    · omega
  rename_i h1
  split at h
  · rename_i h2; exact absurd h h2
  rename_i h2
  split at h
  · omega
  rename_i h3
  refine ⟨by omega, by omega, by omega, ?_, hf⟩
  rcases dataE_cases (ipHdr b).proto (ipData b) with h4 | h4
  · exact h4
  · exact absurd h h4
theorem PktOk.tests {b : List Int} (k : PktOk b) (j : Nat) (hj : j < 7) : ipT b j = false := by
  have h := k.ipe
  have hn := firstB_le (ipT b) 7 0
  unfold ipE ipN at h
  have h7 : firstB (ipT b) 0 7 = 7 := by
    split at h
    · omega
    · omega
  have := firstB_before (ipT b) 7 0 j (by omega)
  rwa [Nat.zero_add] at this
theorem PktOk.sizes {b : List Int} (k : PktOk b) (hB : Byt b) : 20 ≤ ipSize b ∧ ipSize b ≤ ipTotal b ∧ ipTotal b ≤ b.length ∧ ipTotal b ≤ 65535 ∧ (ipData b).length = ipTotal b - ipSize b := by
  have h2 := k.tests 2 (by omega)
  have h3 := k.tests 3 (by omega)
  simp [ipT] at h2 h3
  have h4 := w16At_bd hB 2
  have h5 : ipTotal b ≤ 65535 := by unfold ipTotal; omega
  refine ⟨by omega, by omega, by omega, h5, ?_⟩
  unfold ipData
  rw [List.length_drop, List.length_take]
  omega
theorem ipData_byt {b : List Int} (hB : Byt b) : Byt (ipData b) := (hB.take _).drop _
theorem reason_open {h : IpH} (hr : h.reason = 0) : h.off = 0 ∧ h.mf = false ∧ (optRead h.opts).2 = 0 ∧ routedB (optRead h.opts).1 = false ∧ h.ttl ≠ 0 ∧ strangeB h.src = false ∧ strangeB h.dst = false ∧ (h.src == h.dst) = false := by
  unfold IpH.reason at hr
  split at hr; · omega
  rename_i h1
  split at hr; · omega
  rename_i h2
  split at hr; · omega
  rename_i h3
  split at hr; · omega
  rename_i h4
  split at hr; · omega
  rename_i h5
  simp only [Bool.or_eq_true, not_or, Bool.not_eq_true] at h5
  simp only [not_or, ne_eq, Classical.not_not, Bool.not_eq_true] at h1
  exact ⟨h1.1, h1.2, by omega, by simpa using h3, h4, h5.1.1, h5.1.2, h5.2⟩
theorem usual_of {a : Int} (h0 : 0 ≤ a) (h : strangeB a = false) : usualB a = true := by
  simp [strangeB] at h
  simp [usualB]
  omega
theorem strange_of {a : Int} (h : usualB a = true) : strangeB a = false := by
  simp [usualB] at h
  simp [strangeB]
  omega
theorem sane64 : ∀ f, f < 256 → saneB (f % 64) = saneB f := by decide +kernel
/-- The data of a packet that is right: its facts are right. -/
theorem data_right (p : Int) (h : IpH) (d : List Int) (hB : Byt d) (hl : d.length ≤ 65515) (hp : p = 6 ∨ p = 17 ∨ p = 1) (hE : dataE p d = 0) :
    1 ≤ (dataF p (baseF h) d).kind ∧ (dataF p (baseF h) d).kind ≤ 5 ∧ protoS (dataF p (baseF h) d).kind = p ∧ (dataF p (baseF h) d).fRight = true ∧ (dataF p (baseF h) d).fPart = dataF p (baseF h) d
    ∧ (dataF p (baseF h) d).key.proto = h.proto ∧ (dataF p (baseF h) d).key.src = h.src ∧ (dataF p (baseF h) d).key.dst = h.dst := by
  rcases hp with rfl | rfl | rfl
  · have hE2 : tcpE d = 0 := hE
    have hF : dataF 6 (baseF h) d = tcpF (baseF h) d := rfl
    rw [hF]
    refine ⟨show (1 : Int) ≤ 1 by decide, show (1 : Int) ≤ 5 by decide, rfl, ?_, rfl, rfl, rfl, rfl⟩
    unfold tcpE at hE2
    split at hE2; · omega
    rename_i h1
    split at hE2; · omega
    rename_i h2
    split at hE2; · omega
    rename_i h3
    split at hE2; · omega
    rename_i h4
    have e13 := hB.at_ 13
    have h5 := w16At_bd hB 0
    have h6 := w16At_bd hB 2
    have h7 := w16At_bd hB 14
    have hs : saneB (d.getD 13 0 % 64).toNat = true := by
      rw [show (d.getD 13 0 % 64).toNat = (d.getD 13 0).toNat % 64 by omega, sane64 _ (by omega)]
      simp at h3
      exact h3.2
    show Facts.rightTCP (tcpF (baseF h) d) = true
    unfold Facts.rightTCP
    show (Key.ported ⟨h.proto, h.src, h.dst, w16At d 0, w16At d 2⟩ && decide (d.getD 13 0 % 64 < 64) && saneB (d.getD 13 0 % 64).toNat && betweenB (w16At d 14) 0 65535 && betweenB ((d.length : Int) - tcpSize d) 0 65495) = true
    rw [hs]
    simp [Key.ported, betweenB]
    omega
  · have hE2 : udpE2 d = 0 := hE
    have hF : dataF 17 (baseF h) d = udpF (baseF h) d := rfl
    rw [hF]
    refine ⟨show (1 : Int) ≤ 2 by decide, show (2 : Int) ≤ 5 by decide, rfl, ?_, rfl, rfl, rfl, rfl⟩
    unfold udpE2 at hE2
    split at hE2
    · rename_i h1; exact absurd hE2 h1
    rename_i h1
    split at hE2; · omega
    rename_i h2
    unfold udpE at h1
    split at h1; · omega
    rename_i h3
    split at h1; · omega
    rename_i h4
    split at h1; · omega
    rename_i h5
    have h6 := w16At_bd hB 0
    have h7 := w16At_bd hB 2
    show (Key.ported ⟨h.proto, h.src, h.dst, w16At d 0, w16At d 2⟩ && betweenB (w16At d 4 - 8) 0 65507) = true
    simp [Key.ported, betweenB]
    omega
  · have hE2 : icmpE2 d = 0 := hE
    have hE3 : icmpE d = 0 := by
      unfold icmpE2 at hE2
      split at hE2
      · exact hE2
      · rename_i h1; omega
    have h8 : 8 ≤ d.length := by
      unfold icmpE at hE3
      split at hE3
      · omega
      · omega
    have hk2 : kind2 (d.getD 0 0).toNat (d.getD 1 0).toNat = 0 := by
      unfold icmpE at hE3
      split at hE3
      · omega
      · exact hE3
    have hk3 := kind1_pos hk2
    have hk4 := kind1_three (d.getD 0 0).toNat (d.getD 1 0).toNat
    have hF : dataF 1 (baseF h) d = icmpF (baseF h) d := rfl
    rw [hF]
    have hK : icmpK d = kind1 (d.getD 0 0).toNat (d.getD 1 0).toNat := rfl
    have e0 := hB.at_ 0
    have e1 := hB.at_ 1
    by_cases h5 : icmpK d = 5
    · have hQ : quoE (d.drop 8) = 0 := by
        unfold icmpE2 at hE2
        rw [if_neg (by omega), if_neg (by omega)] at hE2
        exact hE2
      unfold icmpF
      rw [if_neg (by omega)]
      have hBq : Byt (d.drop 8) := hB.drop 8
      have hlq : (d.drop 8).length = d.length - 8 := List.length_drop
      generalize d.drop 8 = q at *
      unfold quoE at hQ
      split at hQ; · omega
      rename_i n4
      split at hQ; · omega
      rename_i k0
      split at hQ; · omega
      rename_i k5
      have hn := firstB_le (quoT q) 4 0
      have ht1 := firstB_before (quoT q) 4 0 1 (by unfold quoN at n4; omega)
      simp [quoT] at ht1
      rw [h5]
      refine ⟨show (1 : Int) ≤ 5 by decide, show (5 : Int) ≤ 5 by decide, rfl, ?_, rfl, rfl, rfl, rfl⟩
      show ((kind2 (d.getD 0 0).toNat (d.getD 1 0).toNat == 0) && (kind1 (d.getD 0 0).toNat (d.getD 1 0).toNat == 5) && isQ (quoKind q) && Facts.qRight { baseF h with kind := 5, type := d.getD 0 0, code := d.getD 1 0, length := (d.length : Int) - 8, quoted := quoKey q, qkind := quoKind q }
        && ((quoKey q).proto == qProto (quoKind q)) && ((0 : Int) == 0) && ((0 : Int) == 0) && betweenB ((d.length : Int) - 8) 28 65507) = true
      have hmain : isQ (quoKind q) = true ∧ (quoKey q).proto = qProto (quoKind q) ∧ (quoKind q = 1 ∨ quoKind q = 2 → 0 < (quoKey q).sp ∧ 0 < (quoKey q).dp) ∧ (quoKind q = 3 ∨ quoKind q = 4 → (quoKey q).sp = (quoKey q).dp) := by
        have r0 := w16At_bd (hBq.drop (ipSize q)) 0
        have r2 := w16At_bd (hBq.drop (ipSize q)) 2
        unfold quoKind at k0 k5 ⊢
        unfold quoKey
        dsimp only at k0 k5 ⊢
        by_cases p6 : q.getD 9 0 = 6 ∨ q.getD 9 0 = 17
        · rw [if_pos p6] at k0 k5 ⊢
          rw [if_pos p6]
          by_cases hz : w16At (q.drop (ipSize q)) 0 = 0 ∨ w16At (q.drop (ipSize q)) 2 = 0
          · rw [if_pos hz] at k0; omega
          · rw [if_neg hz] at k0 k5 ⊢
            rcases p6 with p6 | p6 <;> rw [p6]
            · exact ⟨rfl, rfl, fun _ => ⟨by dsimp only; omega, by dsimp only; omega⟩, fun h => by simp at h⟩
            · exact ⟨rfl, rfl, fun _ => ⟨by dsimp only; omega, by dsimp only; omega⟩, fun h => by simp at h⟩
        · rw [if_neg p6] at k0 k5 ⊢
          rw [if_neg p6]
          by_cases p1 : q.getD 9 0 = 1
          · rw [if_pos p1] at k0 k5 ⊢
            rw [if_pos p1]
            have hb := kind1_three ((q.drop (ipSize q)).getD 0 0).toNat ((q.drop (ipSize q)).getD 1 0).toNat
            have hb2 : 0 ≤ kind1 ((q.drop (ipSize q)).getD 0 0).toNat ((q.drop (ipSize q)).getD 1 0).toNat ∧ kind1 ((q.drop (ipSize q)).getD 0 0).toNat ((q.drop (ipSize q)).getD 1 0).toNat ≤ 5 := by
              have := kindN_bd ((q.drop (ipSize q)).getD 0 0).toNat
              unfold kind1; repeat' split <;> omega
            generalize kind1 ((q.drop (ipSize q)).getD 0 0).toNat ((q.drop (ipSize q)).getD 1 0).toNat = K at *
            rw [p1]
            have hK34 : K = 3 ∨ K = 4 := by
              rcases (show K = 1 ∨ K = 2 ∨ K = 3 ∨ K = 4 by omega) with h | h | h | h
              · exact (hb (.inl h)).elim
              · exact (hb (.inr h)).elim
              · exact .inl h
              · exact .inr h
            rcases hK34 with rfl | rfl
            · exact ⟨rfl, rfl, fun h => by simp at h, fun _ => rfl⟩
            · exact ⟨rfl, rfl, fun h => by simp at h, fun _ => rfl⟩
          · rw [if_neg p1] at k0; omega
      obtain ⟨m1, m2, m3, m4⟩ := hmain
      have hQR : Facts.qRight { baseF h with kind := 5, type := d.getD 0 0, code := d.getD 1 0, length := (d.length : Int) - 8, quoted := quoKey q, qkind := quoKind q } = true := by
        have hi : 1 ≤ quoKind q ∧ quoKind q ≤ 4 := by simpa [isQ] using m1
        unfold Facts.qRight
        dsimp only
        rcases (show quoKind q = 1 ∨ quoKind q = 2 ∨ quoKind q = 3 ∨ quoKind q = 4 by omega) with e | e | e | e
        · have := m3 (.inl e)
          rw [if_pos e]
          unfold Facts.rightTCP Facts.quotedF
          dsimp only
          rw [e]
          simp [Key.ported, this, betweenB, Facts.zero]
          decide
        · have := m3 (.inr e)
          rw [if_neg (by omega), if_neg (by omega)]
          unfold Facts.rightUDP Facts.quotedF
          simp [Key.ported, this, betweenB, Facts.zero]
        · have := m4 (.inl e)
          rw [if_neg (by omega), if_pos (by omega)]
          unfold Facts.rightQuery Facts.quotedF
          dsimp only
          rw [e]
          simp [this, betweenB, Facts.zero]
          decide
        · have := m4 (.inr e)
          rw [if_neg (by omega), if_pos (by omega)]
          unfold Facts.rightQuery Facts.quotedF
          dsimp only
          rw [e]
          simp [this, betweenB, Facts.zero]
          decide
      rw [m1, hQR, m2, hk2, ← hK, h5]
      simp [betweenB]
      omega
    · unfold icmpF
      rw [if_pos h5]
      have h34 : icmpK d = 3 ∨ icmpK d = 4 := by
        rcases (show icmpK d = 1 ∨ icmpK d = 2 ∨ icmpK d = 3 ∨ icmpK d = 4 by omega) with h | h | h | h
        · exact (hk4 (.inl h)).elim
        · exact (hk4 (.inr h)).elim
        · exact .inl h
        · exact .inr h
      have hR : ∀ K : Int, K = icmpK d → K = 3 ∨ K = 4 → Facts.rightQuery { baseF h with key := { (baseF h).key with sp := w16At d 4, dp := w16At d 4 }, kind := K, type := d.getD 0 0, code := d.getD 1 0, length := (d.length : Int) - 8 } = true := by
        intro K hKK _
        unfold Facts.rightQuery
        dsimp only
        rw [hk2, hKK, hK]
        simp [betweenB]
        omega
      have := hR (icmpK d) rfl h34
      rcases h34 with e | e <;> rw [e] at this ⊢
      · exact ⟨show (1 : Int) ≤ 3 by decide, show (3 : Int) ≤ 5 by decide, rfl, this, rfl, rfl, rfl, rfl⟩
      · exact ⟨show (1 : Int) ≤ 4 by decide, show (4 : Int) ≤ 5 by decide, rfl, this, rfl, rfl, rfl, rfl⟩
theorem facts_right {h : IpH} {d : List Int} (hB : Byt d) (hl : d.length ≤ 65515) (hp : h.proto = 6 ∨ h.proto = 17 ∨ h.proto = 1) (hE : dataE h.proto d = 0) (hs : usualB h.src = true) (hd : usualB h.dst = true) (hne : (h.src == h.dst) = false) :
    (dataF h.proto (baseF h) d).right = true := by
  obtain ⟨h1, h2, h3, h4, h5, h6, h7, h8⟩ := data_right h.proto h d hB hl hp hE
  unfold Facts.right
  rw [h4, h5, Facts.eqB_iff.2 rfl, h3, h6, h7, h8, hs, hd, hne]
  simp [h1, h2]
theorem pkt_right {b : List Int} (hB : Byt b) (h : pktR b = 0) : (pktF b).right = true := by
  have k := pkt_open h
  have hs := k.sizes hB
  obtain ⟨_, _, _, _, _, s1, s2, s3⟩ := reason_open k.why
  have b1 := l32At_bd hB 12
  have b2 := l32At_bd hB 16
  rw [k.facts]
  exact facts_right (ipData_byt hB) (by omega) k.proto k.data (usual_of b1.1 s1) (usual_of b2.1 s2) s3
end Go.Proofs.YtebeekjcepjcnaaGreatDoor
