/-
  bafflelaw11.content, a datagram.
  udp.Read: the header of a datagram, where its data ends, and the first error.
  The methods tcp and udp of pkt's packet.
-/
import Derived.Lib.MinMax
import Derived.WalkKit
import Derived.WalkSpells
import Derived.WalkLawsBesides
import Derived.WalkSmall
import Derived.Lib.Hide
import Derived.Deep.AppendLies
import Derived.Maps.AppendAt
import Derived.Laws.AppendOwnNone
import Derived.Laws.CopyOwn
import Derived.OneCell
import Derived.Test.YtebeekjcepjcnaaDoorProg
import Derived.Lib.SliceRun
import Derived.RangeFuncNested
import Derived.RangeFuncBound
import Derived.RangeFuncCalls
import Derived.RangeFuncLeaves
import Derived.Shelf.Abstract
import Derived.OwnWalkIn
import Derived.TacticsInMore
import Derived.LoopNIn
import Derived.LoopIn
import Derived.Lib.AppendZeros
import Derived.BigRegion
import Derived.ChangeAlike
import Derived.Deep.RegionLaw
import Derived.Deep.DeepCutAuto
import Derived.Orders
import Derived.RegionTactic
import Derived.Still
import Derived.Deep.MidRow
import Derived.Deep.RegionHeld3
import Derived.MapKept
import Derived.RegionIn
import Derived.Laws.StructEq
import Derived.Laws.BitsAllLaws
import Derived.Deep.CutBlock
import Derived.Test.YtebeekjcepjcnaaDoorWBase
import Derived.Test.YtebeekjcepjcnaaDoorWBits
import Derived.Test.YtebeekjcepjcnaaDoorWCsum
import Derived.Test.YtebeekjcepjcnaaDoorWSum
import Derived.Test.YtebeekjcepjcnaaDoorWConcat
import Derived.Test.YtebeekjcepjcnaaDoorWFix
import Derived.Test.YtebeekjcepjcnaaDoorWFacts
import Derived.Test.YtebeekjcepjcnaaDoorWIpw
import Derived.Test.YtebeekjcepjcnaaDoorWPkt
import Derived.Test.YtebeekjcepjcnaaDoorWRegion
import Derived.Test.YtebeekjcepjcnaaDoorWWalk
import Derived.Test.YtebeekjcepjcnaaDoorWStep
import Derived.Test.YtebeekjcepjcnaaDoorWTcpw
import Derived.Test.YtebeekjcepjcnaaDoorWUdpw
import Derived.Test.YtebeekjcepjcnaaDoorWData
import Derived.Test.YtebeekjcepjcnaaDoorWMaps
import Derived.Test.YtebeekjcepjcnaaDoorWQuoted
import Derived.Test.YtebeekjcepjcnaaDoorWBuilda
import Derived.Test.YtebeekjcepjcnaaDoorWRerr
import Derived.Test.YtebeekjcepjcnaaDoorWIcmpr
import Derived.Test.YtebeekjcepjcnaaDoorWIprd
import Derived.Test.YtebeekjcepjcnaaDoorWFresh
import Derived.Test.YtebeekjcepjcnaaDoorWIpre
import Derived.Test.YtebeekjcepjcnaaDoorWOptsa
import Derived.Test.YtebeekjcepjcnaaDoorWOptsb
import Derived.Test.YtebeekjcepjcnaaDoorWRight
import Derived.Test.YtebeekjcepjcnaaDoorWAnswer
import Derived.Test.YtebeekjcepjcnaaDoorWMade8
import Derived.Test.YtebeekjcepjcnaaDoorWIpback
import Derived.Test.YtebeekjcepjcnaaDoorWMade6p
import Derived.Test.YtebeekjcepjcnaaDoorWMade10
import Derived.Test.YtebeekjcepjcnaaDoorWMade9
import Derived.Test.YtebeekjcepjcnaaDoorWLookp
import Derived.Test.YtebeekjcepjcnaaDoorWFailure
import Derived.Test.YtebeekjcepjcnaaDoorWBuildb
import Derived.Test.YtebeekjcepjcnaaDoorWPright
import Derived.Test.YtebeekjcepjcnaaDoorWBuilt
namespace Go.Proofs.YtebeekjcepjcnaaDoor
open Go.RowKit
theorem results_tmp_cell {P : Program} {fn : Func} {p q : Tmp} {ty : TypeId} (h : fn.results = #[.tmp q, .cell p ty]) (tmps : Array Value) (w : World) (g : Nat) (t : TypeId) (cs : Array Value) (fr : Nat × Nat) (d : TypeDesc)
    (hp : tmps.getD p undef = .pointer (some ⟨g, 0, none⟩)) (hg : w.heap[g]? = some (.cells cs t fr))
    (hu : P.underlying ty = some d) (hd : (match d with | .struct _ | .array _ _ => true | _ => false) = true) (hi : (P.info? ty).map (·.size) = some cs.size) :
    (results fn tmps).run P w = .ok (.tuple #[tmps.getD q undef, .agg cs]) w := by
  have hp' : tmps[p]?.getD undef = .pointer (some ⟨g, 0, none⟩) := by simpa using hp
  simp [results, h, hp', asAddr, run_loadVar_row w g t ty cs fr d hg hu hd hi]
set_option maxRecDepth 100000 in
set_option maxHeartbeats 4000000 in
theorem content_udp (x : Sm) (hx : x.Ok) (src dst : Int) (w : World) (x0 : 0 ≤ src) (x1 : src < 4294967296) (y0 : 0 ≤ dst) (y1 : dst < 4294967296) (hA : SmAt w w.heap.size x) :
    Calls Tryd.prog 63 #[x.val, .int .u8 1, .int .u32 src, .int .u32 dst] w (ContPost 1 w) := by
  obtain ⟨f0, f1⟩ := hx.ufr
  obtain ⟨t0, t1⟩ := hx.uto
  obtain ⟨ul, uc, ub⟩ := hx.ul
  have hU := hA.ub
  have hm0 : min x.un 100 = min x.un 100 := rfl
  have hml : (x.ub.take 100).length = min x.un 100 := by rw [List.length_take]; omega
  have hmb : Byt (x.ub.take 100) := ub.take 100
  have hm1 : min x.un 100 ≤ 100 := by omega
  have HM := Lib.hid (fun w' (hb : Below w.heap.size w w') => made9_any x.ufr x.uto x.uck x.us x.ud x.uA x.uc x.un (min x.un 100) x.ub w' ul uc rfl (hU.belows hb (Nat.le_refl _)))
  clear hA hx
  dsimp only [Sm.val, Sm.cells]
  generalize x.ufr = fr at *
  generalize x.uto = to_ at *
  generalize x.ub.take 100 = data at *
  generalize min x.un 100 = m at *
  go_enter Tryd.func63, Tryd.ntmps63
  go_upto_region 1 with fail
  refine wp_name2 ?_
  intro w1 hb1 hs1 bx bf
  have hru := bx.range 30 (l := [.int .u16 fr, .int .u16 to_, .bool x.uck, .int .u32 x.us, .int .u32 x.ud, .slice x.uA x.un x.uc]) (by simp)
  go_upto_region 8 with (first | ((with_reducible refine look_load ?_); refine wpList_load_mid rfl _ _ rfl _ _ rfl _ _ hru Tryd.underlying61 rfl (by kernel_rfl) ?_) | (go_at_call 117; refine (HM.out _ hb1).mono ?_; rintro e w2 ⟨p, rfl, ho2, hl2⟩) | ((with_reducible refine look_store ?_); refine wpList_store_new rfl _ _ _ rfl _ _ rfl rfl _ _ rfl (by kernel_rfl) (by simp) (by simp [Value.oneCell']) ?_) | fail)
  try dsimp only [Act.put]
  refine wp_name1 ?_
  intro w3 hb3 hs3 bh
  have hch := bh.cell
  have hfh := bh.frozen
  have hb1' := hb1
  clear hru bx HM
  go_upto_region 9 with fail
  try dsimp only [Act.put]
  have bh4 : Blk (w3.setCell ⟨w2.heap.size, 0, none⟩ (.int .u16 (max fr 1))) w2.heap.size 168 #[.int .u16 (max fr 1), .int .u16 (max to_ 1), .bool x.uck] := bh.set 0 _
  have hb4 := hb3.setCell (p := ⟨w2.heap.size, 0, none⟩) (Nat.le_refl _) (.int .u16 (max fr 1))
  have hs4 : (w3.setCell ⟨w2.heap.size, 0, none⟩ (.int .u16 (max fr 1))).heap.size = w2.heap.size + 1 := by simp [hs3]
  clear hch hfh bh hb3 hs3
  revert bh4 hb4 hs4
  generalize w3.setCell ⟨w2.heap.size, 0, none⟩ (.int .u16 (max fr 1)) = w4
  intro bh4 hb4 hs4
  have bf4 := (bf.below hl2 bf.lt).below hb4 (bf.below hl2 bf.lt).lt
  have ho4 := ho2.below hb4 (Nat.le_refl _)
  have hbw := (hb1.trans (hl2.mono hb1.size)).trans (hb4.mono (Nat.le_trans hb1.size hl2.size))
  have hg4 : w.heap.size + 1 < w4.heap.size := bf4.lt
  have hne : w2.heap.size ≠ w.heap.size + 1 := by have := bf.lt; have := hl2.size; omega
  have HW := Lib.hid (udpWrite_any (max fr 1) (max to_ 1) x.uck src dst p.1 p.2 m data w4 (by omega) (by omega) (by omega) (by omega) hml (by omega) x0 x1 y0 y1 hmb ho4.rd)
  have HC := Lib.hid (cont_udp (chk := x.uck) (src := src) (dst := dst) (data := data) (sp := max fr 1) (dp := max to_ 1) (by omega) (by omega) (by omega) (by omega) (by omega) x0 x1 y0 y1 hmb)
  have hbl : w.heap.size ≤ w4.heap.size := hbw.size
  clear hl2 hb4 bf ho2 hb1 ho4 hb1'
  go_upto_region 10 with (first | ((with_reducible refine look_load ?_); refine wpList_load_row rfl _ _ rfl _ rfl _ _ _ _ bh4 Tryd.underlying168 rfl (by kernel_rfl) ?_) | (go_at_call 118; refine HW.out.mono ?_; rintro e w5 ⟨v, rfl, ho5, hl5⟩) | fail)
  try dsimp only [Act.put]
  obtain ⟨q, rfl⟩ := ho5.shape rfl
  have bh5 := bh4.below hl5 bh4.lt
  have bf5 := bf4.below hl5 bf4.lt
  have hbw5 := hbw.trans (hl5.mono hbl)
  clear HW hl5 bh4 bf4 hbw
  generalize max fr 1 = sp at *
  generalize max to_ 1 = dp at *
  have hSt : St1 w w.heap.size [(w2.heap.size, _, _)] (w.heap.size + 1) 27 _ #[.int .u8 17, .int .u32 0, .int .u32 0, .int .u16 sp, .int .u16 dp, .int .u8 2, .int .u8 0, .int .u8 0, .int .u8 0, .int .u32 0, .int .u32 0, .int .i64 0, .int .i64 m, .int .u8 0, .int .u32 0, .int .u32 0, .int .u16 0, .int .u16 0, .int .u8 0] 0 w5 := ⟨(St.nil hbw5 hbw5.size).cons bh5, by omega, by simp; omega, bf5⟩
  clear hbw5 bh5 bf5
  have hO := ho5.base_le (show w.heap.size + 1 + 1 ≤ w4.heap.size by omega)
  have hml' := Lib.hid (show (m : Int) = data.length by omega)
  have HC' := Lib.hid HC.out
  clear ho5 HC
  generalize udpL sp dp x.uck src dst data = ys at *
  generalize hyl : ys.length = k at *
  refine wp_region_walk0 (by kernel_rfl) (fun c W => St1 w w.heap.size _ (w.heap.size + 1) 27 _ #[.int .u8 17, .int .u32 0, .int .u32 0, .int .u16 sp, .int .u16 dp, .int .u8 2, .int .u8 0, .int .u8 0, .int .u8 0, .int .u32 0, .int .u32 0, .int .i64 0, .int .i64 m, .int .u8 0, .int .u32 0, .int .u32 0, .int .u16 0, .int .u16 0, .int .u8 0] c W ∧ Own W (w.heap.size + 1 + 1) (.slice q.1 k q.2) ys) [10] (GrowR (w.heap.size + 1)) [0, 1, 2, 3, 4, 5, 6, 7, 8, 9, 10] (by kernel_rfl) ⟨hSt.drew, hO.drew⟩ ?_
  iterate 10
    apply Walk.one rfl rfl rfl
    case hrun =>
      intro c W hE hF
      have hc := (hE.1.1.get 0 rfl).cell
      go_wp2_with fail
      exact TextPost.mk ⟨GrowR.refl _ _, hE⟩
    case hv => rfl
  apply Walk.keep 0 rfl rfl rfl rfl
  case hrun =>
    intro W2 hE hF
    have hbR := hE.1.2.2.2
    rw [if_pos rfl] at hbR
    go_wp2_with (first | ((with_reducible refine look_store ?_); refine wpList_store_row rfl _ _ _ rfl _ _ rfl rfl _ _ hbR (by kernel_rfl) (by simp) (by simp [Value.oneCell']) ?_) | fail)
    exact TextPost.mk ⟨grown_setRow _ _ _, hE.1.put, hE.2.growR (grown_setRow _ _ _)⟩
  case hv => rfl
  refine Walk.done (fun W hE hF => ?_)
  have hbR := hE.1.2.2.2
  have hbW := hE.1.1.1
  have ho := hE.2
  clear hE hF hSt hO
  go_wp2_with fail
  refine bodyPost_ret (results_tmp_cell Tryd.results63 _ _ _ _ _ _ _ rfl hbR Tryd.underlying27 rfl (by kernel_rfl)) rfl ⟨ys, q, _, ?_, ?_, HC'.out, hbW⟩
  · rw [← hml'.out, hyl]
    rfl
  · rw [hyl]; exact ho.base_le (by omega)
end Go.Proofs.YtebeekjcepjcnaaDoor
namespace Go.Proofs.YtebeekjcepjcnaaDoor
open Go.RowKit
def udpN (n0 n1 n3 : Int) : Array Value := #[.int .u16 n0, .int .u16 n1, .bool (n3 != 0)]
/-- The closure's two variables, by how many of them are set. -/
structure UdpSt (w : World) (gh X : Nat) (ar z N : Array Value) (o t : Value) (c : Nat) (W : World) : Prop where
  below : Below gh w W
  lt : gh + 2 ≤ X
  x : Blk W X 176 ar
  h : Blk W gh 168 (if c = 0 then z else N)
  t : Blk W (gh + 1) 3 (if c ≤ 1 then #[o] else #[t])
  keep : ∀ i, i < w.heap.size → i ≠ gh → i ≠ gh + 1 → W.heap[i]? = w.heap[i]?
theorem UdpSt.drew {w W : World} {gh X : Nat} {ar z N : Array Value} {o t : Value} {c : Nat} (h : UdpSt w gh X ar z N o t c W) : UdpSt w gh X ar z N o t c W.drew := ⟨h.below.drew, h.lt, h.x.drew, h.h.drew, h.t.drew, h.keep⟩
theorem UdpSt.one {w W : World} {gh X : Nat} {ar z N : Array Value} {o t : Value} (h : UdpSt w gh X ar z N o t 0 W) : UdpSt w gh X ar z N o t 1 (W.setRow gh N) := by
  have hl := h.lt
  exact ⟨below_setRow h.below (Nat.le_refl _) _, h.lt, (setRow_other _ _ _ _ (by omega)).trans h.x, by rw [if_neg (by decide)]; exact setRow_heap _ _ _ _ _ _ h.h, by
    have := h.t
    rw [if_pos (by decide)] at this ⊢
    exact (setRow_other _ _ _ _ (by omega)).trans this, fun i h1 h2 h3 => (setRow_other _ _ _ _ h2).trans (h.keep i h1 h2 h3)⟩
theorem UdpSt.two {w W : World} {gh X : Nat} {ar z N : Array Value} {o t : Value} (h : UdpSt w gh X ar z N o t 1 W) : UdpSt w gh X ar z N o t 2 (W.setCell ⟨gh + 1, 0, none⟩ t) := by
  have hl := h.lt
  exact ⟨h.below.setCell (p := ⟨gh + 1, 0, none⟩) (by show gh ≤ gh + 1; omega) _, h.lt, h.x.far (p := ⟨gh + 1, 0, none⟩) (by show X ≠ gh + 1; omega) _, by
    have := h.h
    rw [if_neg (by decide)] at this ⊢
    exact this.far (p := ⟨gh + 1, 0, none⟩) (by simp) _, by
    have := h.t
    rw [if_pos (by decide)] at this
    rw [if_neg (by decide)]
    exact this.set 0 t, fun i h1 h2 h3 => (Below.heap_setCell _ ⟨gh + 1, 0, none⟩ _ _ h3).trans (h.keep i h1 h2 h3)⟩
structure UdpW (w : World) (gh X : Nat) (ar z N : Array Value) (o t : Value) (c : Nat) (W : World) : Prop where
  below : Below gh w W
  size : w.heap.size ≤ W.heap.size
  lt : gh + 2 ≤ X
  x : Blk W X 176 ar
  h : Blk W gh 168 (if c = 0 then z else N)
  t : Blk W (gh + 1) 3 (if c = 0 then #[o] else #[t])
theorem UdpW.drew {w W : World} {gh X : Nat} {ar z N : Array Value} {o t : Value} {c : Nat} (h : UdpW w gh X ar z N o t c W) : UdpW w gh X ar z N o t c W.drew := ⟨h.below.drew, h.size, h.lt, h.x.drew, h.h.drew, h.t.drew⟩
def AnyTop (_ : Value) (_ : World) : Prop := True
theorem AnyTop.mk {u : Value} {W : World} : AnyTop u W := trivial
def UdpOut (w : World) (d : List Int) (e : Ending) (W : World) : Prop := e = .returned (.tuple #[.agg (if udpE d = 0 then udpN (w16At d 0) (w16At d 2) (w16At d 6) else #[.int .u16 0, .int .u16 0, .bool false]), .int .i64 (if udpE d = 0 then w16At d 4 else 0), .int .i64 (udpE d)]) ∧ Below w.heap.size w W
end Go.Proofs.YtebeekjcepjcnaaDoor
namespace Go.Proofs.YtebeekjcepjcnaaDoor
open Go.RowKit
theorem tcpE_cases (d : List Int) (h : tcpE d = 0) : 20 ≤ tcpSize d ∧ tcpSize d ≤ d.length := by
  unfold tcpE at h
  split at h
  · omega
  split at h
  · omega
  omega
theorem TcpOut.open_ {w W : World} {d : List Int} {e : Ending} (h : TcpOut w d e W) (hB : Byt d) : ∃ a0 a1 a2 a3 a4 a5 a6 v T, e = .returned (.tuple #[.agg #[.int .u16 a0, .int .u16 a1, .int .u32 a2, .int .u32 a3, .int .u8 a4, .int .u16 a5, .int .u16 a6, v], .int .i64 T, .int .i64 (tcpE d)]) ∧ Below w.heap.size w W ∧ (0 ≤ a4 ∧ a4 < 256) ∧ (0 ≤ a5 ∧ a5 < 65536) ∧ (0 ≤ T ∧ T ≤ 60) ∧ v.oneCell' = true ∧
    (tcpE d = 0 → a0 = w16At d 0 ∧ a1 = w16At d 2 ∧ a2 = l32At d 4 ∧ a3 = l32At d 8 ∧ a4 = d.getD 13 0 ∧ a5 = w16At d 14 ∧ T = tcpSize d) := by
  obtain ⟨v, hv, he, hb⟩ := h
  by_cases h0 : tcpE d = 0
  · rw [if_pos h0, if_pos h0] at he
    have h1 := hB.at_ 13
    have h2 := w16At_bd hB 14
    have h3 := tcpE_cases d h0
    have h4 := hB.at_ 12
    exact ⟨_, _, _, _, _, _, _, v, _, he, hb, h1, h2, ⟨by omega, by unfold tcpSize; omega⟩, hv, fun _ => ⟨rfl, rfl, rfl, rfl, rfl, rfl, rfl⟩⟩
  · rw [if_neg h0, if_neg h0] at he
    exact ⟨_, _, _, _, _, _, _, _, _, he, hb, by omega, by omega, by omega, rfl, fun h => absurd h h0⟩
end Go.Proofs.YtebeekjcepjcnaaDoor
