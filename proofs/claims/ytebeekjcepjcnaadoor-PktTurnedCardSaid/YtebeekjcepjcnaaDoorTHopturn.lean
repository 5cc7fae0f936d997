/-
  ip.Hop and ip.Turn of a packet that ip.Write wrote.
  A packet that is made, with its TTL lower, or turned, is read (plain).
  What content of the fourth kind is: an error with a quote that is read.
-/
import Derived.WalkKit
import Derived.WalkSpells
import Derived.WalkLawsBesides
import Derived.WalkSmall
import Derived.Lib.Hide
import Derived.Deep.AppendLies
import Derived.Maps.AppendAt
import Derived.Laws.AppendOwnNone
import Derived.Laws.CopyOwn
import Derived.OneCell
import Derived.Test.YtebeekjcepjcnaaDoorProg
import Derived.Lib.SliceRun
import Derived.RangeFuncNested
import Derived.RangeFuncBound
import Derived.RangeFuncCalls
import Derived.RangeFuncLeaves
import Derived.Shelf.Abstract
import Derived.OwnWalkIn
import Derived.TacticsInMore
import Derived.LoopNIn
import Derived.LoopIn
import Derived.Lib.AppendZeros
import Derived.BigRegion
import Derived.ChangeAlike
import Derived.Deep.RegionLaw
import Derived.Deep.DeepCutAuto
import Derived.Orders
import Derived.RegionTactic
import Derived.Still
import Derived.Deep.MidRow
import Derived.Deep.RegionHeld3
import Derived.MapKept
import Derived.Lib.MinMax
import Derived.RegionIn
import Derived.Laws.StructEq
import Derived.Laws.BitsAllLaws
import Derived.Deep.CutBlock
import Derived.Test.YtebeekjcepjcnaaDoorTBase
import Derived.Test.YtebeekjcepjcnaaDoorTBits
import Derived.Test.YtebeekjcepjcnaaDoorTCsum
import Derived.Test.YtebeekjcepjcnaaDoorTSum
import Derived.Test.YtebeekjcepjcnaaDoorTConcat
import Derived.Test.YtebeekjcepjcnaaDoorTFix
import Derived.Test.YtebeekjcepjcnaaDoorTFacts
import Derived.Test.YtebeekjcepjcnaaDoorTPkt
import Derived.Test.YtebeekjcepjcnaaDoorTWalk
import Derived.Test.YtebeekjcepjcnaaDoorTStep
import Derived.Test.YtebeekjcepjcnaaDoorTTcpw
import Derived.Test.YtebeekjcepjcnaaDoorTUdpw
import Derived.Test.YtebeekjcepjcnaaDoorTData
import Derived.Test.YtebeekjcepjcnaaDoorTIprd
import Derived.Test.YtebeekjcepjcnaaDoorTFold
import Derived.Test.YtebeekjcepjcnaaDoorTFresh
import Derived.Test.YtebeekjcepjcnaaDoorTIpre
import Derived.Test.YtebeekjcepjcnaaDoorTIpread
import Derived.Test.YtebeekjcepjcnaaDoorTOptsa
import Derived.Test.YtebeekjcepjcnaaDoorTOptsb
import Derived.Test.YtebeekjcepjcnaaDoorTOptsc
import Derived.Test.YtebeekjcepjcnaaDoorTOptsd
import Derived.Test.YtebeekjcepjcnaaDoorTTcprd
import Derived.Test.YtebeekjcepjcnaaDoorTEq
import Derived.Test.YtebeekjcepjcnaaDoorTMade8
import Derived.Test.YtebeekjcepjcnaaDoorTIpback
import Derived.Test.YtebeekjcepjcnaaDoorTMade6p
import Derived.Test.YtebeekjcepjcnaaDoorTOptw
import Derived.Test.YtebeekjcepjcnaaDoorTMade10
import Derived.Test.YtebeekjcepjcnaaDoorTMade9
import Derived.Test.YtebeekjcepjcnaaDoorTPright
import Derived.Test.YtebeekjcepjcnaaDoorTPktlen
import Derived.Test.YtebeekjcepjcnaaDoorTSm
import Derived.Test.YtebeekjcepjcnaaDoorTUdprd
import Derived.Test.YtebeekjcepjcnaaDoorTIcmprd
import Derived.Test.YtebeekjcepjcnaaDoorTContt
import Derived.Test.YtebeekjcepjcnaaDoorTMade11p
import Derived.Test.YtebeekjcepjcnaaDoorTM11law
namespace Go.Proofs.YtebeekjcepjcnaaDoor
open Go.RowKit
theorem byteSum_tail (a b : List Int) (m0 : Nat) (h0 : byteSum a m0 = byteSum b m0) (h : ∀ i, m0 ≤ i → a.getD i 0 = b.getD i 0) : ∀ m, byteSum a (m0 + m) = byteSum b (m0 + m)
  | 0 => h0
  | m + 1 => by
    have ih := byteSum_tail a b m0 h0 h m
    rw [show m0 + (m + 1) = m0 + m + 1 by omega]
    simp only [byteSum]
    rw [ih, h (m0 + m) (by omega)]
/-- The header with both addresses exchanged. -/
def IpH.turn (h : IpH) : IpH := { h with src := h.dst, dst := h.src }
theorem turn_ok {h : IpH} (ho : h.Ok) : h.turn.Ok := ⟨ho.tos0, ho.tos1, ho.id0, ho.id1, ho.ttl0, ho.ttl1, ho.proto0, ho.proto1, ho.dst0, ho.dst1, ho.src0, ho.src1, ho.opts⟩
theorem turn_right {h : IpH} {n : Nat} (hR : h.Right n) : h.turn.Right n := ⟨hR.off0, hR.off1, hR.off8, hR.len, hR.len4, hR.all, hR.offn, hR.mf⟩
theorem hd20_byt {h : IpH} (ho : h.Ok) {n : Nat} (hR : h.Right n) : Byt (hd20 h n 0 ++ h.opts) := by
  have := splice_byt (head1_byt ho hR.len n) ho.opts 20
  rwa [headS_eq] at this
theorem turn_sum {h : IpH} (ho : h.Ok) {n : Nat} (hR : h.Right n) : ofB (hd20 h.turn n 0 ++ h.opts) = ofB (hd20 h n 0 ++ h.opts) := by
  have b1 := hd20_byt ho hR
  have b2 : Byt (hd20 h.turn n 0 ++ h.opts) := hd20_byt (turn_ok ho) (turn_right hR)
  have hl : (hd20 h.turn n 0 ++ h.opts).length = 20 + h.opts.length := by rw [List.length_append, hd20_len]
  have hl2 : (hd20 h n 0 ++ h.opts).length = 20 + h.opts.length := by rw [List.length_append, hd20_len]
  unfold ofB
  rw [sumB_foldF b1, sumB_foldF b2, hl, hl2]
  have h20 : byteSum (hd20 h.turn n 0 ++ h.opts) 20 = byteSum (hd20 h n 0 ++ h.opts) 20 := by
    simp only [byteSum, hd20, IpH.turn, IpH.word, List.cons_append, List.nil_append, List.getD_cons_succ, List.getD_cons_zero]
    simp
    omega
  rw [byteSum_tail _ _ 20 h20 (fun i hi => ?_)]
  rw [List.getD_eq_getElem?_getD, List.getD_eq_getElem?_getD, List.getElem?_append_right (by rw [hd20_len]; omega), List.getElem?_append_right (by rw [hd20_len]; omega), hd20_len, hd20_len]
theorem turn_bytes {h : IpH} (ho : h.Ok) (data : List Int) (hR : h.Right data.length) : putL (putL (ipWriteL h data) 12 4 h.dst) 16 4 h.src = ipWriteL h.turn data := by
  unfold ipWriteL
  rw [headL_eq, headL_eq]
  rw [show h.turn.opts = h.opts from rfl, turn_sum ho hR]
  generalize ofB (hd20 h data.length 0 ++ h.opts) = c
  simp only [putL, hd20, List.cons_append, List.nil_append, List.set_cons_succ, List.set_cons_zero, Nat.add_zero, Nat.reduceAdd, IpH.turn]
  rfl
/-- What ip.Read says of a packet that was written. -/
theorem read_back (h : IpH) (A : Option Addr) (cap n : Nat) (data : List Int) (w : World) (ho : h.Ok) (hR : h.Right data.length) (hl : data.length ≤ 65535) (hdb : Byt data) (hn : (ipWriteL h data).length = n) (hcap : n ≤ cap) (hr : Rd w w.heap.size A .u8 (ipWriteL h data)) :
    Calls Tryd.prog 54 #[.slice A n cap] w fun e W => ∃ q : Option Addr × Nat, e = .returned (.tuple #[.agg #[.int .u8 h.tos, .int .u16 h.id, .bool h.df, .bool h.mf, .int .i64 h.off, .int .u8 h.ttl, .int .u8 h.proto, .int .u32 h.src, .int .u32 h.dst, .slice q.1 h.opts.length q.2], .int .i64 ((20 + h.opts.length : Nat) : Int), .int .i64 ((20 + h.opts.length + data.length : Nat) : Int), .int .i64 0]) ∧ Own W w.heap.size (.slice q.1 h.opts.length q.2) h.opts ∧ Below w.heap.size w W := by
  have k : IpBack h data.length (ipWriteL h data) := ip_back h data.length data ho hR
  have hlen := ipWriteL_len h data
  have hE := k.eip hR (by omega)
  have hN : ipN (ipWriteL h data) = 7 := by
    have h1 := firstB_le (ipT (ipWriteL h data)) 7 0
    unfold ipE at hE
    unfold ipN at *
    split at hE <;> omega
  refine (ipRead_any A cap n (ipWriteL h data) w hn (by have := hR.len; omega) hcap (ipWriteL_byt ho hR.len hdb) hr).mono ?_
  rintro e W ⟨v, rfl, hown, l⟩
  have ho2 := hown hN
  rw [k.hdr] at ho2
  obtain ⟨q, rfl⟩ := ho2.shape rfl
  refine ⟨q, ?_, ho2, l⟩
  unfold ipOut
  rw [if_pos hN, if_pos hN, if_pos hN, hE, k.size, k.total]
  unfold ipN10
  rw [k.hdr]
theorem drop_cat {h : IpH} {data : List Int} : (ipWriteL h data).drop (20 + h.opts.length) = data := by
  unfold ipWriteL
  exact List.drop_left' (headL_len h data.length)
theorem written_some {w : World} {B : Nat} {A : Option Addr} {h : IpH} {data : List Int} (hr : Rd w B A .u8 (ipWriteL h data)) : ∃ b off, A = some ⟨b, off, none⟩ := by
  obtain ⟨b, off, e, _⟩ := hr.at0 (by rw [ipWriteL_len]; omega)
  exact ⟨b, off, e⟩
set_option maxRecDepth 100000 in
set_option maxHeartbeats 4000000 in
theorem hop_any (h : IpH) (A : Option Addr) (cap n : Nat) (data : List Int) (w : World) (ho : h.Ok) (hR : h.Right data.length) (hl : data.length ≤ 65535) (h0 : 0 < data.length) (hdb : Byt data) (httl : 2 ≤ h.ttl) (hn : (ipWriteL h data).length = n) (hcap : n ≤ cap) (hr : Rd w w.heap.size A .u8 (ipWriteL h data)) :
    Calls Tryd.prog 40 #[.slice A n cap] w fun e W => ∃ v, e = .returned (.tuple #[v, .int .i64 0]) ∧ Own W w.heap.size v (ipWriteL { h with ttl := h.ttl - 1 } data) ∧ Below w.heap.size w W := by
  have hlen := ipWriteL_len h data
  obtain ⟨b, off, rfl⟩ := written_some hr
  have HRd := Lib.hid (read_back h _ cap n data w ho hR hl hdb hn hcap hr)
  have ho2 : ({ h with ttl := h.ttl - 1 } : IpH).Ok := { ho with ttl0 := (by show 0 ≤ h.ttl - 1; omega), ttl1 := (by show h.ttl - 1 < 256; have := ho.ttl1; omega) }
  have hR2 : ({ h with ttl := h.ttl - 1 } : IpH).Right data.length := ⟨hR.off0, hR.off1, hR.off8, hR.len, hR.len4, hR.all, hR.offn, hR.mf⟩
  have HD := Lib.hid (fun (W : World) (hb : Below w.heap.size w W) => (show Rd W W.heap.size (some ⟨b, off + (20 + h.opts.length), none⟩) .u8 data from by
    have h1 := (hr.below hb (Nat.le_refl _)).drop (20 + h.opts.length) (A' := some ⟨b, off + (20 + h.opts.length), none⟩) (fun _ b' o' e => by
      simp only [Option.some.injEq, Addr.mk.injEq, and_true] at e
      obtain ⟨rfl, rfl⟩ := e
      rfl)
    rw [drop_cat] at h1
    exact h1.more hb.size))
  have HW := Lib.hid (fun (W : World) (q : Option Addr × Nat) (c' : Nat) (hb : Below w.heap.size w W) (hq : Own W w.heap.size (.slice q.1 h.opts.length q.2) h.opts) => ipWrite_any { h with ttl := h.ttl - 1 } q.1 q.2 (some ⟨b, off + (20 + h.opts.length), none⟩) c' data W ho2 hR2 hq.rd (HD.out W hb))
  have htw : IntKind.u8.wrap (h.ttl - 1) = h.ttl - 1 := by rw [IntKind.wrap_u8]; have := ho.ttl1; omega
  have ht2 : decide (h.ttl < 2) = false := by simp; omega
  obtain ⟨fr, hfr⟩ : ∃ fr : Nat, 20 + h.opts.length = fr := ⟨_, rfl⟩
  obtain ⟨dl, hdl⟩ : ∃ dl : Nat, data.length = dl := ⟨_, rfl⟩
  rw [hfr] at HW HRd
  rw [hdl] at HW HRd
  dsimp only [IpH.val] at HW
  have hcf : (fr : Int) ≤ cap := by omega
  have hto : ((fr + dl : Nat) : Int) ≤ cap := by omega
  have hft : (fr : Int) ≤ ((fr + dl : Nat) : Int) := by omega
  have hne : ¬ (cap = fr) := by omega
  have hne2 : ¬ ((cap : Int) = fr) := by omega
  clear hr ho hR hdb hn ho2 hR2 hlen HD hfr hdl httl h0 hl hcap
  generalize ipWriteL { h with ttl := h.ttl - 1 } data = out at *
  obtain ⟨tos, ident, df, mf, off', ttl, proto, src, dst, opts⟩ := h
  dsimp only at *
  generalize hol : opts.length = ol at *
  clear hol
  go_enter Tryd.func40, Tryd.ntmps40
  go_upto_region 2 with (first | (go_at_call 54; refine HRd.out.mono ?_; rintro e w1 ⟨q, rfl, hq, l1⟩) | ((with_reducible refine look_store ?_); refine wpList_store_new rfl _ _ _ rfl _ _ rfl rfl _ _ rfl (by kernel_rfl) (by simp) (by simp [Value.oneCell']) ?_) | fail)
  try dsimp only [Act.put]
  refine wp_name1 ?_
  intro w2 hb2 hs2 bh
  have L2 := Lib.hid (l1.trans (hb2.mono l1.size))
  have hq2 := hq.below hb2 (Nat.le_refl _)
  have hch := bh.cell
  have hfh := bh.frozen
  have hz1 := Lib.hid (show w.heap.size ≤ w1.heap.size from l1.size)
  have hqf := Lib.hid (show ∀ g, (Value.slice q.1 ol q.2).ownBlock = some g → g < w1.heap.size from fun g hg => (hq.lt hg).2)
  clear hb2 hs2 l1 hq HRd
  go_upto_region 7 with fail
  try dsimp only [Act.put]
  have hlt1 := bh.lt
  have bh3 : Blk (w2.setCell ⟨w1.heap.size, 5, none⟩ (.int .u8 (ttl - 1))) w1.heap.size 67 #[.int .u8 tos, .int .u16 ident, .bool df, .bool mf, .int .i64 off', .int .u8 (ttl - 1), .int .u8 proto, .int .u32 src, .int .u32 dst, .slice q.1 ol q.2] := bh.set 5 _
  have hq3 := hq2.setCell_far (a := ⟨w1.heap.size, 5, none⟩) (fun e => by have h := hqf.out _ e; simp only at h; omega) (.int .u8 (ttl - 1))
  have hb3 := L2.out.setCell (p := ⟨w1.heap.size, 5, none⟩) hz1.out (.int .u8 (ttl - 1))
  clear bh hq2 L2 hch hfh hz1 hqf hlt1
  revert bh3 hq3 hb3
  generalize w2.setCell ⟨w1.heap.size, 5, none⟩ (.int .u8 (ttl - 1)) = w3
  intro bh3 hq3 hb3
  have L3 := Lib.hid hb3
  have HQ := Lib.hid hq3
  have hto2 : (fr : Int) + dl ≤ cap := by omega
  have hft2 : (fr : Int) ≤ fr + dl := by omega
  have hs3 := bh3.lt
  clear hb3 hq3
  refine wp_region_walk0 (by kernel_rfl) (fun _ W => St w3 w3.heap.size [] W) [] Grow [0, 1, 2, 3, 4, 5, 6, 7, 8, 9] (by kernel_rfl) (St.nil (Below.refl _ w3) (Nat.le_refl _)).drew ?_
  iterate 5
    apply Walk.one rfl rfl rfl
    case hrun =>
      intro c W hE hF
      have bhW := bh3.below hE.1 bh3.lt
      go_wp2_with (first | ((with_reducible refine look_load ?_); refine wpList_load_row rfl _ _ rfl _ rfl _ _ _ _ bhW Tryd.underlying67 rfl (by kernel_rfl) ?_) | fail)
      exact TextPost.mk ⟨Grow.refl _, hE⟩
    case hv => rfl
  simp only [Nat.add_sub_cancel_left]
  refine Walk.anyOf (fun v => .tuple #[v, .int .i64 0]) tup_inj (fun v W => Own W w.heap.size v out) (fun _ _ _ h hG => h.keep hG) rfl rfl rfl (by kernel_rfl) (by kernel_rfl) ?_ (fun v => ?_)
  · intro c W hE hF
    have H7 := HW.out W q (cap - fr) (L3.out.trans (hE.1.mono L3.out.size)) (HQ.out.below hE.1 (Nat.le_refl _))
    have hbl := L3.out.size
    go_wp2_with fail
    refine H7.mono ?_
    rintro e W2 ⟨v, rfl, hown, l⟩
    go_wp2_with fail
    exact ⟨v, rfl, hown.base_le (by have := hE.2.1; omega), l, hE.below l⟩
  dsimp only [Act.put]
  simp only [List.setIfInBounds_toArray, List.set_cons_succ, List.set_cons_zero]
  iterate 4
    apply Walk.one rfl rfl rfl
    case hrun =>
      intro c W hE hF
      go_wp2_with fail
      exact TextPost.mk ⟨Grow.refl _, hE⟩
    case hv => rfl
  refine Walk.done (fun W hE hF => ?_)
  have hown := hF.head
  have hbW := L3.out.trans (hE.1.mono L3.out.size)
  clear hE hF
  go_wp2_with fail
  go_ret2
  exact ⟨v, rfl, hown, hbW⟩
set_option maxRecDepth 100000 in
set_option maxHeartbeats 4000000 in
theorem turn_any (h : IpH) (A : Option Addr) (cap n : Nat) (data : List Int) (w : World) (ho : h.Ok) (hR : h.Right data.length) (hl : data.length ≤ 65535) (hdb : Byt data) (hn : (ipWriteL h data).length = n) (hcap : n ≤ cap) (hr : Rd w w.heap.size A .u8 (ipWriteL h data)) :
    Calls Tryd.prog 41 #[.slice A n cap] w fun e W => ∃ v, e = .returned (.tuple #[v, .int .i64 0]) ∧ Own W w.heap.size v (ipWriteL h.turn data) ∧ Below w.heap.size w W := by
  have hlen := ipWriteL_len h data
  have HRd := Lib.hid (read_back h A cap n data w ho hR hl hdb hn hcap hr)
  have HTB := Lib.hid (turn_bytes ho data hR)
  have hs0 := ho.src0
  have hs1 := ho.src1
  have hd0 := ho.dst0
  have hd1 := ho.dst1
  have hol := hR.len
  rw [show 20 + h.opts.length + data.length = n by omega] at HRd
  obtain ⟨fr, hfr⟩ : ∃ fr : Nat, 20 + h.opts.length = fr := ⟨_, rfl⟩
  rw [hfr] at HRd
  have hHr := Lib.hid hr
  have HC := Lib.hid (fun (W : World) (hb : Below w.heap.size w W) => (show Calls Tryd.prog 71 #[.slice A n cap] W fun e w' => ∃ v, e = .returned v ∧ Own w' W.heap.size v (ipWriteL h data) ∧ Below W.heap.size W w' from by
    have h1 := clone_any A cap (ipWriteL h data) W ((hr.below hb (Nat.le_refl _)).more hb.size) (by omega)
    rwa [hn] at h1))
  have hn2 : 20 ≤ n ∧ n ≤ 1000000 := by omega
  have HN := Lib.hid hn
  clear hr ho hR hdb hn hlen hfr hl
  generalize ipWriteL h data = bs at *
  generalize ipWriteL h.turn data = out at *
  obtain ⟨tos, ident, df, mf, off', ttl, proto, src, dst, opts⟩ := h
  dsimp only at *
  generalize opts.length = ol at *
  go_enter Tryd.func41, Tryd.ntmps41
  go_upto_region 2 with (first | (go_at_call 54; refine HRd.out.mono ?_; rintro e w1 ⟨q, rfl, hq, l1⟩) | ((with_reducible refine look_store ?_); refine wpList_store_new rfl _ _ _ rfl _ _ rfl rfl _ _ rfl (by kernel_rfl) (by simp) (by simp [Value.oneCell']) ?_) | fail)
  try dsimp only [Act.put]
  refine wp_name1 ?_
  intro w2 hb2 hs2 bh
  have L2 := Lib.hid (l1.trans (hb2.mono l1.size))
  have hcn : (n : Int) ≤ cap := by omega
  clear hb2 hs2 l1 hq HRd
  go_wp2_with fail
  refine (HC.out w2 L2.out).mono ?_
  rintro e w3 ⟨v, rfl, hv, l3⟩
  have bh3 := bh.below l3 bh.lt
  have L3 := Lib.hid (L2.out.trans (l3.mono L2.out.size))
  obtain ⟨g, c3, rfl, hg0, hg1, hc3, hc4⟩ := hv.form (by rw [HN.out]; omega)
  rw [HN.out] at hv hc3 ⊢
  have HP1 := Lib.hid (put_any g n c3 w2.heap.size bs 12 4 dst w3 hv hn2.2 (by omega) hd0 hd1)
  have hbg := bh.lt
  have HL2 := Lib.hid (show w.heap.size ≤ w2.heap.size from L2.out.size)
  clear l3 bh hv L2
  have hch := bh3.cell
  go_wp2_with fail
  refine HP1.out.mono ?_
  rintro e w4 ⟨rfl, hv4, g4, l4⟩
  have bh4 := bh3.grown g4 (fun e => by simp only [Option.some.injEq] at e; omega)
  have L4 := Lib.hid (L3.out.trans (l4.mono (show w.heap.size ≤ g by have := HL2.out; omega)))
  have HP2 := Lib.hid (put_any g n c3 w2.heap.size (putL bs 12 4 dst) 16 4 src w4 hv4 hn2.2 (by omega) hs0 hs1)
  have hch4 := bh4.cell
  clear hch bh3 HP1 l4 g4 hv4
  go_wp2_with fail
  refine HP2.out.mono ?_
  rintro e w5 ⟨rfl, hv5, g5, l5⟩
  rw [HTB.out] at hv5
  have L5 := Lib.hid (L4.out.trans (l5.mono (show w.heap.size ≤ g by have := HL2.out; omega)))
  clear hch4 bh4 HP2 l5 g5
  go_wp2_with fail
  go_ret2
  exact ⟨_, rfl, hv5.base_le HL2.out, L5.out⟩
end Go.Proofs.YtebeekjcepjcnaaDoor
namespace Go.Proofs.YtebeekjcepjcnaaDoor
open Go.RowKit
theorem made_read {h : IpH} {k : Nat} {data : List Int} {f : Facts} (hC : Cont k data f) (hk : k < 4) (hOk : h.Ok) (hR : h.Right data.length) (hrs : h.reason = 0) (hp : h.proto = f.key.proto) (behind : List Int) :
    pktR (ipWriteL h data ++ behind) = 0 ∧ pktF (ipWriteL h data ++ behind) = { f with key := { f.key with src := h.src, dst := h.dst } } := by
  have hpr : f.key.proto = 6 ∨ f.key.proto = 17 ∨ f.key.proto = 1 := by
    rw [hC.proto]
    rcases (show k = 0 ∨ k = 1 ∨ k = 2 ∨ k = 3 by omega) with rfl | rfl | rfl | rfl <;> simp
  obtain ⟨p1, p2⟩ := pkt_back h data behind hOk hR
  rw [hrs, if_neg (by simp), hp, if_neg (by omega), hC.data] at p1
  have h0 : reasonOf 0 = 0 := by decide
  rw [h0] at p1
  refine ⟨p1, (p2 p1).trans ?_⟩
  rw [hp, hC.facts _ hp]
theorem reason_make {h : IpH} (h1 : h.off = 0) (h2 : h.mf = false) (h3 : (optRead h.opts).2 = 0) (h4 : routedB (optRead h.opts).1 = false) (h5 : h.ttl ≠ 0) (h6 : strangeB h.src = false) (h7 : strangeB h.dst = false) (h8 : (h.src == h.dst) = false) : h.reason = 0 := by
  unfold IpH.reason
  rw [if_neg (by rw [h1, h2]; simp), if_neg (by rw [h3]; simp), if_neg (by rw [h4]; decide), if_neg h5, if_neg (by rw [h6, h7, h8]; decide)]
/-- The header with a TTL that is lower. -/
def IpH.down (h : IpH) (j : Nat) : IpH := { h with ttl := h.ttl - j }
theorem down_zero (h : IpH) : h.down 0 = h := by
  unfold IpH.down
  rw [show h.ttl - ((0 : Nat) : Int) = h.ttl by omega]
theorem down_next (h : IpH) (j : Nat) : ({ h.down j with ttl := (h.down j).ttl - 1 } : IpH) = h.down (j + 1) := by
  show ({ h with ttl := h.ttl - (j : Int) - 1 } : IpH) = { h with ttl := h.ttl - ((j + 1 : Nat) : Int) }
  rw [show h.ttl - (j : Int) - 1 = h.ttl - ((j + 1 : Nat) : Int) by omega]
theorem down_ok {h : IpH} (ho : h.Ok) {j : Nat} (hj : (j : Int) ≤ h.ttl) : (h.down j).Ok := { ho with ttl0 := (by show 0 ≤ h.ttl - j; omega), ttl1 := (by show h.ttl - (j : Int) < 256; have := ho.ttl1; omega) }
theorem down_right {h : IpH} {n : Nat} (hR : h.Right n) (j : Nat) : (h.down j).Right n := ⟨hR.off0, hR.off1, hR.off8, hR.len, hR.len4, hR.all, hR.offn, hR.mf⟩
theorem down_reason {h : IpH} (hr : h.reason = 0) {j : Nat} (hj : (j : Int) < h.ttl) : (h.down j).reason = 0 := by
  obtain ⟨h1, h2, h3, h4, h5, h6, h7, h8⟩ := reason_open hr
  exact reason_make h1 h2 h3 h4 (by show h.ttl - (j : Int) ≠ 0; omega) h6 h7 h8
theorem turn_reason {h : IpH} (hr : h.reason = 0) : h.turn.reason = 0 := by
  obtain ⟨h1, h2, h3, h4, h5, h6, h7, h8⟩ := reason_open hr
  refine reason_make h1 h2 h3 h4 h5 h7 h6 ?_
  show (h.dst == h.src) = false
  simp only [beq_eq_false_iff_ne, ne_eq] at *
  exact fun e => h8 e.symm
theorem down_len (h : IpH) (j : Nat) (data : List Int) : (ipWriteL (h.down j) data).length = (ipWriteL h data).length := by rw [ipWriteL_len, ipWriteL_len]; rfl
end Go.Proofs.YtebeekjcepjcnaaDoor
namespace Go.Proofs.YtebeekjcepjcnaaDoor
open Go.RowKit
theorem cont_quote {k : Nat} {b rest : List Int} {f : Facts} {h : IpH} {t c : Nat} {i s : Int} (hC : Cont k b f) (hk3 : k < 3) (ho : h.Ok) (hR : h.Right b.length) (hoff : h.off = 0) (hp : h.proto = f.key.proto) (h8 : 8 ≤ rest.length) (hrl : rest.length ≤ b.length) (hrb : Byt rest) (hpre : ∀ i, i < 8 → rest.getD i 0 = b.getD i 0)
    (ht : t < 256) (hc : c < 256) (i0 : 0 ≤ i) (i1 : i < 65536) (s0 : 0 ≤ s) (s1 : s < 65536) (hkk : kind2 t c = 0) (h5 : kind1 t c = 5) :
    Cont 3 (icmpL t c i s (headL h b.length ++ rest)) { Facts.zero with key := ⟨1, 0, 0, 0, 0⟩, kind := 5, type := t, code := c, length := (headL h b.length ++ rest).length, quoted := { f.key with src := h.src, dst := h.dst }, qkind := f.kind } := by
  have hfk : f.kind ≠ 5 := by
    obtain ⟨k0, k1, k2, _⟩ := hC.kind
    rcases (show k = 0 ∨ k = 1 ∨ k = 2 by omega) with rfl | rfl | rfl
    · rw [k0 rfl]; decide
    · rw [k1 rfl]; decide
    · rcases k2 rfl with h | h <;> rw [h] <;> decide
  have hpr : h.proto = 6 ∨ h.proto = 17 ∨ h.proto = 1 := by
    rw [hp, hC.proto]
    rcases (show k = 0 ∨ k = 1 ∨ k = 2 by omega) with rfl | rfl | rfl <;> simp
  have hF := hC.facts h hp
  have hlen := hC.len
  obtain ⟨q1, q2, q3⟩ := quo_back h b.length rest b ho hR hoff hlen.1 h8 hpre hpr (by rw [hp]; exact hC.data) (by rw [hp, hF]; exact hfk)
  rw [hp, hF] at q2 q3
  have hraw : (headL h b.length ++ rest).length = 20 + h.opts.length + rest.length := by rw [List.length_append, headL_len]
  have hrawb : Byt (headL h b.length ++ rest) := (headL_byt ho hR.len _).append hrb
  have hol := hR.len
  have hl2 := hlen.2.2 (by omega)
  generalize headL h b.length ++ rest = raw at *
  obtain ⟨x, y, e⟩ := icmpL_eq t c i s raw
  obtain ⟨a1, a2, a3, a4, a5, a6, a7⟩ := icmp_back t c x y i s raw hkk _ e
  rw [h5] at a2
  refine ⟨icmpW_byt (by omega) (by omega) (by omega) (by omega) i0 i1 s0 s1 hrawb, by omega, rfl, rfl, rfl, ?_, fun h' hp' => ?_, (fun h => absurd h (by decide)), (fun h => absurd h (by decide)), (fun h => absurd h (by decide)), fun _ => rfl⟩
  · show icmpE2 _ = 0
    unfold icmpE2
    rw [if_neg (by omega), if_neg (by omega), a3]
    exact q1
  · show icmpF (baseF h') _ = _
    unfold icmpF
    rw [if_neg (by omega), a2, a3, a5, a6, a7, q2, q3]
    have hp2 : h'.proto = 1 := hp'
    have h3 : (((8 + raw.length : Nat)) : Int) - 8 = raw.length := by omega
    rw [h3]
    simp [baseF, Facts.zero, hp2]
end Go.Proofs.YtebeekjcepjcnaaDoor
