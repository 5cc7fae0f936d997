/-
  Package build: Build.
-/
import Derived.WalkKit
import Derived.WalkSpells
import Derived.WalkLawsBesides
import Derived.WalkSmall
import Derived.Lib.Hide
import Derived.Deep.AppendLies
import Derived.Maps.AppendAt
import Derived.Laws.AppendOwnNone
import Derived.Laws.CopyOwn
import Derived.OneCell
import Derived.Orders
import Derived.RegionTactic
import Derived.Still
import Derived.Test.YtebeekjcepjcnaaDoorProg
import Derived.Deep.MidRow
import Derived.Lib.SliceRun
import Derived.RangeFuncNested
import Derived.RangeFuncBound
import Derived.RangeFuncCalls
import Derived.RangeFuncLeaves
import Derived.Shelf.Abstract
import Derived.OwnWalkIn
import Derived.TacticsInMore
import Derived.LoopNIn
import Derived.LoopIn
import Derived.Lib.AppendZeros
import Derived.MapKept
import Derived.Deep.DeepCutAuto
import Derived.Laws.StructEq
import Derived.Deep.RegionLaw
import Derived.Deep.RegionHeld3
import Derived.BigRegion
import Derived.ChangeAlike
import Derived.Test.YtebeekjcepjcnaaDoorWBase
import Derived.Test.YtebeekjcepjcnaaDoorWBits
import Derived.Test.YtebeekjcepjcnaaDoorWCsum
import Derived.Test.YtebeekjcepjcnaaDoorWSum
import Derived.Test.YtebeekjcepjcnaaDoorWConcat
import Derived.Test.YtebeekjcepjcnaaDoorWFix
import Derived.Test.YtebeekjcepjcnaaDoorWFacts
import Derived.Test.YtebeekjcepjcnaaDoorWIpw
import Derived.Test.YtebeekjcepjcnaaDoorWRegion
import Derived.Test.YtebeekjcepjcnaaDoorWWalk
import Derived.Test.YtebeekjcepjcnaaDoorWStep
import Derived.Test.YtebeekjcepjcnaaDoorWTcpw
import Derived.Test.YtebeekjcepjcnaaDoorWUdpw
import Derived.Test.YtebeekjcepjcnaaDoorWData
import Derived.Test.YtebeekjcepjcnaaDoorWMaps
import Derived.Test.YtebeekjcepjcnaaDoorWQuoted
import Derived.Test.YtebeekjcepjcnaaDoorWBuilda
import Derived.Test.YtebeekjcepjcnaaDoorWRerr
import Derived.Test.YtebeekjcepjcnaaDoorWOptsb
import Derived.Test.YtebeekjcepjcnaaDoorWRight
import Derived.Test.YtebeekjcepjcnaaDoorWLookp
import Derived.Test.YtebeekjcepjcnaaDoorWFailure
namespace Go.Proofs.YtebeekjcepjcnaaDoor
open Go.RowKit

def Facts.dataL (f : Facts) : List Int := if f.kind = 1 then f.segL else if f.kind = 2 then f.datL else if f.kind = 5 then f.failL else f.msgL
def Facts.buildL (f : Facts) : List Int := ipWriteL (hdrH f.key) f.dataL

theorem right_parts {f : Facts} (h : f.right = true) : 1 ≤ f.kind ∧ f.kind ≤ 5 ∧ f.fRight = true := by
  unfold Facts.right at h
  simp only [Bool.and_eq_true, decide_eq_true_eq] at h
  exact ⟨h.1.1.1.1.1.1.1, h.1.1.1.1.1.1.2, h.1.2⟩
theorem data_any (f : Facts) (w : World) (ho : f.Ok) (hr : f.right = true) (hs : SortsAt w) :
    Calls Tryd.prog (dataS f.kind) #[f.val] w fun e w' => ∃ v, e = .returned v ∧ Own w' w.heap.size v f.dataL ∧ Below w.heap.size w w' := by
  obtain ⟨_, _, hf⟩ := right_parts hr
  unfold Facts.dataL dataS
  unfold Facts.fRight at hf
  by_cases h1 : f.kind = 1
  · rw [if_pos h1] at hf ⊢
    rw [if_pos h1]
    exact segment_any f w ho hf
  · rw [if_neg h1] at hf ⊢
    rw [if_neg h1]
    by_cases h2 : f.kind = 2
    · rw [if_pos h2] at hf ⊢
      rw [if_pos h2]
      exact datagram_any f w ho hf
    · rw [if_neg h2] at hf ⊢
      rw [if_neg h2]
      by_cases h5 : f.kind = 5
      · rw [if_pos h5] at hf ⊢
        rw [if_pos h5]
        exact failure_any f w ho hf hs
      · rw [if_neg h5] at hf ⊢
        rw [if_neg h5]
        exact message_any f w ho hf hs
theorem tcpL_len (sp dp seqn ackn : Int) (fl : Nat) (win urg src dst : Int) (data : List Int) : (tcpL sp dp seqn ackn fl win urg [] src dst data).length = 20 + data.length := by
  unfold tcpL tcpSumL
  rw [length_splice]
  · simp [tcpL0, tcpHead, b16s_len, b32s_len]; omega
  · simp [tcpL0, tcpHead, b16s_len, b32s_len]; omega
theorem icmpL_len (t c i s : Int) (data : List Int) : (icmpL t c i s data).length = 8 + data.length := by
  unfold icmpL
  rw [fixL_len]
  simp [icmpHead]; omega
theorem udpL_len (sp dp : Int) (chk : Bool) (src dst : Int) (data : List Int) : (udpL sp dp chk src dst data).length = 8 + data.length := by
  unfold udpL
  split <;> simp [udp0_len]
theorem dataL_len {f : Facts} (hr : f.right = true) : f.dataL.length = (if f.kind = 1 then 20 else 8) + f.length.toNat ∧ f.dataL.length ≤ 65515 := by
  obtain ⟨_, _, hf⟩ := right_parts hr
  have h8 := (qL_len (quotedF_length f)).1
  unfold Facts.dataL
  unfold Facts.fRight at hf
  by_cases h1 : f.kind = 1
  · rw [if_pos h1] at hf ⊢
    rw [if_pos h1]
    simp only [Facts.rightTCP, betweenB, Bool.and_eq_true, decide_eq_true_eq] at hf
    unfold Facts.segL
    rw [tcpL_len, zerosL_len]
    omega
  · rw [if_neg h1] at hf ⊢
    rw [if_neg h1]
    by_cases h2 : f.kind = 2
    · rw [if_pos h2] at hf ⊢
      simp only [Facts.rightUDP, betweenB, Bool.and_eq_true, decide_eq_true_eq] at hf
      unfold Facts.datL
      rw [udpL_len, zerosL_len]
      omega
    · rw [if_neg h2] at hf ⊢
      by_cases h5 : f.kind = 5
      · rw [if_pos h5] at hf ⊢
        simp only [Facts.rightError, betweenB, Bool.and_eq_true, decide_eq_true_eq] at hf
        unfold Facts.failL
        rw [icmpL_len]
        simp only [List.length_append, headL_len, List.length_take, qIn_len, List.length_replicate, hdrH, List.length_nil]
        omega
      · rw [if_neg h5] at hf ⊢
        simp only [Facts.rightQuery, betweenB, Bool.and_eq_true, decide_eq_true_eq] at hf
        unfold Facts.msgL
        rw [icmpL_len, zerosL_len]
        omega

set_option maxRecDepth 100000 in
set_option maxHeartbeats 2000000 in
theorem build_yes (f : Facts) (w : World) (ho : f.Ok) (hr : f.right = true) (hs : SortsAt w) :
    Calls Tryd.prog 20 #[f.val] w fun e w' => ∃ v, e = .returned (.tuple #[v, .int .i64 0]) ∧ Own w' w.heap.size v f.buildL ∧ Below w.heap.size w w' := by
  obtain ⟨hk0, hk1, _⟩ := right_parts hr
  have HR := Lib.hid (fun W h => right_all f W ho h)
  rw [hr] at HR
  have HD := Lib.hid (fun W h => data_any f W ho hr h)
  have hl := (dataL_len hr).2
  have HH := Lib.hid (fun A dcap W h => header_any f A dcap _ f.dataL W ho.key rfl hl h)
  have HB := Lib.hid (show ipWriteL (hdrH f.key) f.dataL = f.buildL from rfl)
  rw [HB.out] at HH
  have Hlk := Lib.hid (fun (W : World) (m : Nat) (h : SortsM W m) => lookup_sorts W m h f.kind hk0 hk1 false)
  have hcf := callFunc_d f.kind
  have Hs := Lib.hid hs
  clear ho hr hs hk0 hk1 HB hl
  unfold sortV at Hlk
  generalize f.buildL = R at *
  generalize f.dataL = DL at *
  generalize protoS f.kind = pr at *
  generalize fieldsS f.kind = fn at *
  generalize dataS f.kind = dn at *
  obtain ⟨⟨k0, k1, k2, k3, k4⟩, kind, flags, type, code, seqn, ackn, window, length, ⟨q0, q1, q2, q3, q4⟩, qkind⟩ := f
  dsimp only [Facts.val, Facts.cells, Key.cells, List.cons_append, List.nil_append]
  dsimp only [Facts.val, Facts.cells, Key.cells, List.cons_append, List.nil_append] at HR HD HH
  try dsimp only at Hlk
  simp only [Bool.false_eq_true, if_false] at Hlk
  have hfd : ∀ W, (Instr.field 95 (.agg #[.int .u8 pr, .func (.func fn) #[] #[], .func (.func dn) #[] #[]]) 2).run Tryd.prog W = .ok (.func (.func dn) #[] #[]) W := fun _ => by kernel_rfl
  go_enter Tryd.func20, Tryd.ntmps20
  go_upto_region 1 with (fail)
  refine wp_name1 ?_
  intro w1 hb1 hs1 b0
  clear hs1
  have Hs1 := Lib.hid (Hs.out.below hb1 (Nat.le_refl _))
  go_upto_region 3 with (first | ((with_reducible refine look_load ?_); refine wpList_load_row rfl _ _ rfl _ rfl _ _ _ _ b0 Tryd.underlying27 rfl (by kernel_rfl) ?_) | (go_at_call 34; refine (HR.out _ Hs1.out).mono ?_; rintro e w2 ⟨rfl, l2⟩) | fail)
  have b0' := b0.below l2 b0.lt
  have hb2 := hb1.trans (l2.mono hb1.size)
  clear b0 l2 hb1 Hs1
  go_upto_region 4 with (first | ((with_reducible refine look_load ?_); refine wpList_load_row rfl _ _ rfl _ rfl _ _ _ _ b0' Tryd.underlying27 rfl (by kernel_rfl) ?_) | ((with_reducible refine look_store ?_); refine wpList_store_new rfl _ _ _ rfl _ _ rfl rfl _ _ rfl (by kernel_rfl) (by simp) (by simp [Value.oneCell']) ?_) | fail)
  try dsimp only [Act.put]
  refine wp_name1 ?_
  intro w3 hb3 hs3 b4
  clear hs3
  have b0 := b0'.below hb3 b0'.lt
  have hb4 := hb2.trans (hb3.mono hb2.size)
  have hSt := ((St.nil hb4 hb4.size).cons b4).cons b0
  clear b0' hb2 hb3
  refine wp_region_walk0 (by kernel_rfl) (fun _ W => St w w.heap.size _ W) [] Grow [0, 2, 3, 6, 1, 4, 5, 7, 8, 9, 10] (by kernel_rfl) hSt.drew ?_
  iterate 4
    apply Walk.one rfl rfl rfl
    case hrun =>
      intro c W hE hF
      have hbp := hE.get 1 rfl
      have hc0 := (hE.get 0 rfl).cell
      go_wp2_with (first | ((with_reducible refine look_load ?_); refine wpList_load_row rfl _ _ rfl _ rfl _ _ _ _ hbp Tryd.underlying91 rfl (by kernel_rfl) ?_) | fail)
      exact TextPost.mk ⟨Grow.refl _, hE⟩
    case hv => rfl
  refine Walk.whatever (fun u W => ∃ m, u = .map (some m) ∧ SortsM W m) ?_ rfl rfl rfl (by kernel_rfl) ?_ (fun u0 => ?_)
  · rintro u W W' ⟨m, e, hm⟩ hG
    exact ⟨m, e, hm.grown (grown_of_below (row := none) hG) (by simp)⟩
  · intro c W hE hF
    go_wp2_with fail
    refine (sorts_any _).mono ?_
    rintro e W2 ⟨m, rfl, hm0, hm, l⟩
    go_wp2_with fail
    exact ⟨_, rfl, ⟨m, rfl, hm⟩, l, hE.below l⟩
  dsimp only [Act.put]
  simp only [List.setIfInBounds_toArray, List.set_cons_succ, List.set_cons_zero]
  apply Walk.one rfl rfl rfl
  case hrun =>
    intro c W hE hF
    have hlk : (Instr.lookup 96 u0 (.int .u8 kind) false).run Tryd.prog W = .ok (.agg #[.int .u8 pr, .func (.func fn) #[] #[], .func (.func dn) #[] #[]]) W := by
      obtain ⟨m, rfl, hm⟩ := hF.head
      exact Hlk.out W m hm
    go_wp2_with fail
    exact TextPost.mk ⟨Grow.refl _, hE⟩
  case hv => rfl
  apply Walk.one rfl rfl rfl
  case hrun =>
    intro c W hE hF
    go_wp2_with fail
    exact TextPost.mk ⟨Grow.refl _, hE⟩
  case hv => rfl
  refine Walk.anyOf (fun v => v) (fun _ _ h => h) (fun v W => Own W w.heap.size v DL) (fun _ _ _ h hG => h.keep hG) rfl rfl rfl (by kernel_rfl) (by kernel_rfl) ?_ (fun v => ?_)
  · intro c W hE hF
    have HsW := Lib.hid (Hs.out.below hE.1 (Nat.le_refl _))
    go_wp2_with fail
    refine (HD.out W HsW.out).mono ?_
    rintro e W2 ⟨v, rfl, hown, l⟩
    go_wp2_with fail
    exact ⟨v, rfl, hown.base_le hE.2.1, l, hE.below l⟩
  dsimp only [Act.put]
  simp only [List.setIfInBounds_toArray, List.set_cons_succ, List.set_cons_zero]
  refine Walk.anyOf (fun v => v) (fun _ _ h => h) (fun v W => Own W w.heap.size v R) (fun _ _ _ h hG => h.keep hG) rfl rfl rfl (by kernel_rfl) (by kernel_rfl) ?_ (fun v2 => ?_)
  · intro c W hE hF
    obtain ⟨A, cap, rfl, hrd, _, _⟩ := hF.head.open_
    go_wp2_with fail
    refine (HH.out A cap W hrd).mono ?_
    rintro e W2 ⟨v, rfl, hown, l⟩
    go_wp2_with fail
    exact ⟨v, rfl, hown.base_le hE.2.1, l, hE.below l⟩
  dsimp only [Act.put]
  simp only [List.setIfInBounds_toArray, List.set_cons_succ, List.set_cons_zero]
  iterate 2
    apply Walk.one rfl rfl rfl
    case hrun =>
      intro c W hE hF
      go_wp2_with fail
      exact TextPost.mk ⟨Grow.refl _, hE⟩
    case hv => rfl
  refine Walk.done (fun W hE hF => ?_)
  have ho := hF.head
  have hbW := hE.1
  clear hSt hE hF
  go_wp2_with fail
  go_ret2
  exact ⟨_, rfl, ho, hbW⟩

set_option maxRecDepth 100000 in
set_option maxHeartbeats 2000000 in
theorem build_no (f : Facts) (w : World) (ho : f.Ok) (hr : f.right = false) (hs : SortsAt w) :
    Calls Tryd.prog 20 #[f.val] w fun e w' => e = .returned (.tuple #[.slice none 0 0, .int .i64 120]) ∧ Below w.heap.size w w' := by
  have HR := Lib.hid (fun W h => right_all f W ho h)
  rw [hr] at HR
  have Hs := Lib.hid hs
  clear ho hr hs
  obtain ⟨⟨k0, k1, k2, k3, k4⟩, kind, flags, type, code, seqn, ackn, window, length, ⟨q0, q1, q2, q3, q4⟩, qkind⟩ := f
  dsimp only [Facts.val, Facts.cells, Key.cells, List.cons_append, List.nil_append]
  dsimp only [Facts.val, Facts.cells, Key.cells, List.cons_append, List.nil_append] at HR
  go_enter Tryd.func20, Tryd.ntmps20
  go_upto_region 1 with (fail)
  refine wp_name1 ?_
  intro w1 hb1 hs1 b0
  clear hs1
  have Hs1 := Lib.hid (Hs.out.below hb1 (Nat.le_refl _))
  go_wp2_with (first | ((with_reducible refine look_load ?_); refine wpList_load_row rfl _ _ rfl _ rfl _ _ _ _ b0 Tryd.underlying27 rfl (by kernel_rfl) ?_) | (go_at_call 34; refine (HR.out _ Hs1.out).mono ?_; rintro e w2 ⟨rfl, l2⟩) | fail)
  go_ret2
  exact ⟨rfl, hb1.trans (l2.mono hb1.size)⟩

end Go.Proofs.YtebeekjcepjcnaaDoor
