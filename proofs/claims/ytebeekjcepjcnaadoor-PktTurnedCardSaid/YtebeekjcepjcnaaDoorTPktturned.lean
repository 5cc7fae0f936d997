/-
  bafflelaw11.PktTurned.
  Facts as an argument: opened to data, and shut again; the table of package icmp, read off the heap as it was laid.
-/
import Derived.Lib.MinMax
import Derived.WalkKit
import Derived.WalkSpells
import Derived.WalkLawsBesides
import Derived.WalkSmall
import Derived.Lib.Hide
import Derived.Deep.AppendLies
import Derived.Maps.AppendAt
import Derived.Laws.AppendOwnNone
import Derived.Laws.CopyOwn
import Derived.OneCell
import Derived.Test.YtebeekjcepjcnaaDoorProg
import Derived.Lib.SliceRun
import Derived.RangeFuncNested
import Derived.RangeFuncBound
import Derived.RangeFuncCalls
import Derived.RangeFuncLeaves
import Derived.Shelf.Abstract
import Derived.OwnWalkIn
import Derived.TacticsInMore
import Derived.LoopNIn
import Derived.LoopIn
import Derived.Lib.AppendZeros
import Derived.BigRegion
import Derived.ChangeAlike
import Derived.Deep.RegionLaw
import Derived.Deep.DeepCutAuto
import Derived.Orders
import Derived.RegionTactic
import Derived.Still
import Derived.Deep.MidRow
import Derived.Deep.RegionHeld3
import Derived.MapKept
import Derived.RegionIn
import Derived.Laws.StructEq
import Derived.Laws.BitsAllLaws
import Derived.Deep.CutBlock
import Derived.Test.YtebeekjcepjcnaaDoorRows
import Derived.ProofKit
import Derived.LaidMore
import Derived.OpenShut
import Derived.Lay
import Derived.Deep.Strs
import Derived.Test.YtebeekjcepjcnaaDoorTBase
import Derived.Test.YtebeekjcepjcnaaDoorTBits
import Derived.Test.YtebeekjcepjcnaaDoorTCsum
import Derived.Test.YtebeekjcepjcnaaDoorTSum
import Derived.Test.YtebeekjcepjcnaaDoorTConcat
import Derived.Test.YtebeekjcepjcnaaDoorTFix
import Derived.Test.YtebeekjcepjcnaaDoorTFacts
import Derived.Test.YtebeekjcepjcnaaDoorTPkt
import Derived.Test.YtebeekjcepjcnaaDoorTWalk
import Derived.Test.YtebeekjcepjcnaaDoorTStep
import Derived.Test.YtebeekjcepjcnaaDoorTTcpw
import Derived.Test.YtebeekjcepjcnaaDoorTUdpw
import Derived.Test.YtebeekjcepjcnaaDoorTData
import Derived.Test.YtebeekjcepjcnaaDoorTIprd
import Derived.Test.YtebeekjcepjcnaaDoorTFold
import Derived.Test.YtebeekjcepjcnaaDoorTFresh
import Derived.Test.YtebeekjcepjcnaaDoorTIpre
import Derived.Test.YtebeekjcepjcnaaDoorTIpread
import Derived.Test.YtebeekjcepjcnaaDoorTOptsa
import Derived.Test.YtebeekjcepjcnaaDoorTOptsb
import Derived.Test.YtebeekjcepjcnaaDoorTOptsc
import Derived.Test.YtebeekjcepjcnaaDoorTOptsd
import Derived.Test.YtebeekjcepjcnaaDoorTTcprd
import Derived.Test.YtebeekjcepjcnaaDoorTEq
import Derived.Test.YtebeekjcepjcnaaDoorTMade8
import Derived.Test.YtebeekjcepjcnaaDoorTIpback
import Derived.Test.YtebeekjcepjcnaaDoorTMade6p
import Derived.Test.YtebeekjcepjcnaaDoorTOptw
import Derived.Test.YtebeekjcepjcnaaDoorTMade10
import Derived.Test.YtebeekjcepjcnaaDoorTMade9
import Derived.Test.YtebeekjcepjcnaaDoorTPright
import Derived.Test.YtebeekjcepjcnaaDoorTPktlen
import Derived.Test.YtebeekjcepjcnaaDoorTSm
import Derived.Test.YtebeekjcepjcnaaDoorTUdprd
import Derived.Test.YtebeekjcepjcnaaDoorTIcmprd
import Derived.Test.YtebeekjcepjcnaaDoorTContt
import Derived.Test.YtebeekjcepjcnaaDoorTMade11p
import Derived.Test.YtebeekjcepjcnaaDoorTM11law
import Derived.Test.YtebeekjcepjcnaaDoorTHopturn
import Derived.Test.YtebeekjcepjcnaaDoorTConte
import Derived.Test.YtebeekjcepjcnaaDoorTMade6
import Derived.Test.YtebeekjcepjcnaaDoorTMade11
import Derived.Test.YtebeekjcepjcnaaDoorTPktn
import Derived.Test.YtebeekjcepjcnaaDoorTQuotc
import Derived.Test.YtebeekjcepjcnaaDoorTPkto
import Derived.Test.YtebeekjcepjcnaaDoorTPkta
import Derived.Test.YtebeekjcepjcnaaDoorTPktr
import Derived.Test.YtebeekjcepjcnaaDoorTRip5
import Derived.Test.YtebeekjcepjcnaaDoorTPawake
namespace Go.Proofs.YtebeekjcepjcnaaDoor
open Go.RowKit
/-- The bytes after some hops. -/
def TJ (w : World) (gF : Nat) (FC : Array Value) (h : IpH) (data : List Int) (L j : Nat) (q : Option Addr × Nat) (W : World) : Prop := Below w.heap.size w W ∧ Blk W gF 27 FC ∧ Rd W W.heap.size q.1 .u8 (ipWriteL (h.down j) data) ∧ L ≤ q.2
set_option maxRecDepth 100000 in
set_option maxHeartbeats 16000000 in
theorem pktTurned_any (x : Sm) (hx : x.Ok) (hops : Int) (w : World) (hA : SmAt w w.heap.size x) (n0 : 0 ≤ hops) (_n1 : hops < 256) (hT : Tabs w) (hs : SortsAt w) (hm : NamesAt w) :
    Calls Tryd.prog 14 #[x.val, .int .u8 hops] w fun e W => e = .returned (.bool true) ∧ Below w.heap.size w W := by
  have HAw := Lib.hid (fun (W : World) (hb : Below w.heap.size w W) => awakeP_any W (hs.below hb (Nat.le_refl _)) (hm.below hb (Nat.le_refl _)))
  obtain ⟨tt, htt⟩ : ∃ tt, 9 + x.ttl % 200 = tt := ⟨_, rfl⟩
  have hx1 := hx.ttl
  have htb : 9 ≤ tt ∧ tt < 256 := by omega
  have htm : x.ttl.tmod 200 = x.ttl % 200 := Int.tmod_eq_emod_of_nonneg hx1.1
  have htw : IntKind.u8.wrap (9 + x.ttl % 200) = tt := by rw [IntKind.wrap_u8]; omega
  have hxo : Sm.Ok { x with ttl := tt } := { hx with ttl := ⟨by show 0 ≤ tt; omega, by show tt < 256; omega⟩ }
  have HM := Lib.hid (fun (W : World) (hb : Below w.heap.size w W) => made11_any { x with ttl := tt } hxo W (by have h := (hA.below hb (Nat.le_refl _)).more hb.size; exact ⟨h.os, h.tb, h.ub, h.ib⟩) (hT.below hb (Nat.le_refl _)) (hs.below hb (Nat.le_refl _)))
  have Hs := Lib.hid (fun (W : World) (hb : Below w.heap.size w W) => hs.below hb (Nat.le_refl _))
  have HLaw := Lib.hid (fun (os : List OE) (data : List Int) (f : Facts) (hos : OsOk os) (hC : Cont (x.kind % 4).toNat data f) => m11_law hxo hos hC (by omega))
  obtain ⟨m, hm1, hm2⟩ : ∃ m : Nat, hops.tmod 9 = m ∧ m < 9 := ⟨(hops % 9).toNat, by rw [Int.tmod_eq_emod_of_nonneg n0]; omega, by omega⟩
  have HMt := Lib.hid (show m < 9 ∧ 9 ≤ tt from ⟨hm2, htb.1⟩)
  have hm9 : (m : Int) < 9 := by omega
  clear hA hT hs hx hxo hm hx1 hm2 htb htt
  unfold Made11Post at HM
  dsimp only [Sm.val, Sm.cells] at HM
  dsimp only [Sm.val, Sm.cells]
  go_enter Tryd.func14, Tryd.ntmps14
  go_upto_region 1 with fail
  refine wp_name1 ?_
  intro w1 hb1 hs1 bx
  have L1 := Lib.hid hb1
  clear hb1 hs1
  go_wp2_with fail
  refine (HAw.out w1 L1.out).mono ?_
  rintro e w2 ⟨rfl, l2⟩
  have bx2 := bx.below l2 bx.lt
  have L2 := Lib.hid (L1.out.trans (l2.mono L1.out.size))
  clear l2 bx HAw L1
  have hcx := bx2.cell
  have hfx := bx2.frozen
  go_upto_region 4 with fail
  try dsimp only [Act.put]
  have bx3 : Blk (w2.setCell ⟨w.heap.size, 2, none⟩ (.int .u8 tt)) w.heap.size 65 #[.int .u8 x.kind, .int .u8 x.tos, .int .u8 tt, .int .u16 x.id, .bool x.df, .int .u32 x.src, .int .u32 x.dst, .slice x.oA x.on x.oc, .int .u8 x.h0, .int .u8 x.h1, .int .u8 x.h2, .int .u8 x.h3, .int .u8 x.h4, .int .u8 x.h5, .int .u8 x.h6, .int .u8 x.h7, .int .u8 x.h8, .int .u8 x.h9, .int .u8 x.h10, .int .u8 x.h11, .int .u8 x.h12, .int .u8 x.h13, .int .u8 x.h14, .int .u8 x.h15, .int .u8 x.tf, .int .u8 x.tm, .int .u8 x.tw, .int .u32 x.ts, .int .u32 x.td, .slice x.tA x.tn x.tc, .int .u16 x.ufr, .int .u16 x.uto, .bool x.uck, .int .u32 x.us, .int .u32 x.ud, .slice x.uA x.un x.uc, .int .u8 x.ity, .int .u8 x.ico, .int .u16 x.iid, .int .u16 x.isq, .slice x.iA x.inn x.ic] := bx2.set 2 (.int .u8 tt)
  have hL3 : Below w.heap.size w (w2.setCell ⟨w.heap.size, 2, none⟩ (.int .u8 tt)) := L2.out.setCell (p := ⟨w.heap.size, 2, none⟩) (Nat.le_refl _) _
  clear hcx hfx bx2 L2
  revert bx3 hL3
  generalize w2.setCell ⟨w.heap.size, 2, none⟩ (.int .u8 tt) = v2
  intro bx3 hL3
  have L2 := Lib.hid hL3
  clear hL3
  go_wp2_with (first | ((with_reducible refine look_load ?_); refine wpList_load_row rfl _ _ rfl _ rfl _ _ _ _ bx3 Tryd.underlying65 rfl (by kernel_rfl) ?_) | fail)
  refine (HM.out v2 L2.out).mono ?_
  rintro e w3 ⟨os, oA, oc, p, data, f, rfl, ho, hd, _, hos, hC, _, l3⟩
  have HL := Lib.hid (HLaw.out os data f hos hC)
  have HO := Lib.hid ho
  have HD := Lib.hid hd
  have HC := Lib.hid (show (8 ≤ data.length ∧ data.length ≤ 400) ∧ Byt data from ⟨⟨hC.len.1, hC.len.2.1⟩, hC.byt⟩)
  have HCo := Lib.hid hC
  have L3 := Lib.hid (L2.out.trans (l3.mono L2.out.size))
  clear ho hd hos hC l3 HLaw HM bx3
  have HT : Hid ((m11H { x with ttl := tt } f.key.proto os).ttl = tt) := Lib.hid (by show max tt 1 = tt; have := HMt.out; omega)
  have HF : Hid (∀ h : IpH, h.proto = f.key.proto → h.Ok → h.Right data.length → h.reason = 0 → h.src = (m11F { x with ttl := tt } f).key.src → h.dst = (m11F { x with ttl := tt } f).key.dst → pktR (ipWriteL h data) = 0 ∧ pktF (ipWriteL h data) = m11F { x with ttl := tt } f) := Lib.hid (fun h e1 e2 e3 e4 e5 e6 => by
    have := made_read HCo.out (by omega) e2 e3 e4 e1 []
    rw [List.append_nil, e5, e6] at this
    exact this)
  have HFt : Hid (∀ h : IpH, h.proto = f.key.proto → h.Ok → h.Right data.length → h.reason = 0 → h.src = (m11F { x with ttl := tt } f).key.dst → h.dst = (m11F { x with ttl := tt } f).key.src → pktR (ipWriteL h data) = 0 ∧ pktF (ipWriteL h data) = { m11F { x with ttl := tt } f with key := { (m11F { x with ttl := tt } f).key with src := (m11F { x with ttl := tt } f).key.dst, dst := (m11F { x with ttl := tt } f).key.src } }) := Lib.hid (fun h e1 e2 e3 e4 e5 e6 => by
    have := made_read HCo.out (by omega) e2 e3 e4 e1 []
    rw [List.append_nil, e5, e6] at this
    exact this)
  have HOk := Lib.hid HL.out.ok
  have HRi := Lib.hid HL.out.right
  have HRe := Lib.hid HL.out.reason
  have HSr : Hid ((m11H { x with ttl := tt } f.key.proto os).src = (m11F { x with ttl := tt } f).key.src ∧ (m11H { x with ttl := tt } f.key.proto os).dst = (m11F { x with ttl := tt } f).key.dst ∧ (m11H { x with ttl := tt } f.key.proto os).proto = f.key.proto) := Lib.hid ⟨rfl, rfl, rfl⟩
  have HFo := Lib.hid HL.out.fok
  clear HL HCo
  generalize m11F { x with ttl := tt } f = F at *
  generalize m11H { x with ttl := tt } f.key.proto os = h at *
  have HFd : Hid (∀ j : Nat, j ≤ m → (h.down j).Ok ∧ (h.down j).Right data.length ∧ 2 ≤ (h.down j).ttl + (if j = m then 1 else 0) ∧ pktR (ipWriteL (h.down j) data) = 0 ∧ pktF (ipWriteL (h.down j) data) = F ∧ (ipWriteL (h.down j) data).length = (ipWriteL h data).length ∧ pktR (ipWriteL (h.down j).turn data) = 0 ∧ pktF (ipWriteL (h.down j).turn data) = { F with key := { F.key with src := F.key.dst, dst := F.key.src } } ∧ (ipWriteL (h.down j).turn data).length = (ipWriteL h data).length) := Lib.hid (fun j hj => by
    have h1 := HMt.out
    have h2 := HT.out
    have a1 := down_ok HOk.out (j := j) (by omega)
    have a2 := down_right HRi.out j
    have a3 := down_reason HRe.out (j := j) (by omega)
    obtain ⟨s1, s2, s3⟩ := HSr.out
    obtain ⟨p1, p2⟩ := HF.out (h.down j) s3 a1 a2 a3 s1 s2
    obtain ⟨p3, p4⟩ := HFt.out (h.down j).turn s3 (turn_ok a1) (turn_right a2) (turn_reason a3) s2 s1
    refine ⟨a1, a2, ?_, p1, p2, down_len h j data, p3, p4, ?_⟩
    · show 2 ≤ h.ttl - (j : Int) + _
      split <;> omega
    · rw [ipWriteL_len, ipWriteL_len]; rfl)
  have HL0 := Lib.hid (show (ipWriteL h data).length ≤ 1000000 ∧ 0 < (ipWriteL h data).length from by have := ipWriteL_len h data; have := HRi.out.len; have := HC.out; omega)
  clear HF HFt HT HRe HSr
  have HW := Lib.hid (fun (W : World) (hb : Below w3.heap.size w3 W) => ipWrite_any h oA oc p.1 p.2 data W HOk.out HRi.out (by
    have := (HO.out.below hb (Nat.le_refl _)).rd
    exact this) (HD.out.below hb (Nat.le_refl _)).rd)
  obtain ⟨L, hL⟩ : ∃ L, (ipWriteL h data).length = L := ⟨_, rfl⟩
  rw [hL] at HFd HL0
  have HLe := Lib.hid hL
  clear hL
  have HEqT := Lib.hid (fun (W : World) => run_ne_facts { F with key := { F.key with src := F.key.dst, dst := F.key.src } } W)
  have HEq := Lib.hid (fun (W : World) => run_eq_facts F F W)
  rw [facts_eqB_refl] at HEq
  have HRd := Lib.hid (fun (W : World) (A' : Option Addr) (c' : Nat) (bs : List Int) (hB : Byt bs) (hk : bs.length = L) (hc : L ≤ c') (hr : Rd W W.heap.size A' .u8 bs) (hb : Below w.heap.size w W) => pktRead_any A' c' L bs W hk HL0.out.1 hc hB hr (Hs.out W hb))
  obtain ⟨⟨k0, k1, k2, k3, k4⟩, f1, f2, f3, f4, f5, f6, f7, f8, ⟨z0, z1, z2, z3, z4⟩, f9⟩ := F
  dsimp only [IpH.val, Facts.val, Facts.cells, Key.cells, List.cons_append, List.nil_append] at HW HEq HEqT ⊢
  obtain ⟨q1, q2, q3⟩ := two_blocks w3 67 27 #[.int .u8 0, .int .u16 0, .bool false, .bool false, .int .i64 0, .int .u8 0, .int .u8 0, .int .u32 0, .int .u32 0, .slice none 0 0] #[.int .u8 0, .int .u32 0, .int .u32 0, .int .u16 0, .int .u16 0, .int .u8 0, .int .u8 0, .int .u8 0, .int .u8 0, .int .u32 0, .int .u32 0, .int .i64 0, .int .i64 0, .int .u8 0, .int .u32 0, .int .u32 0, .int .u16 0, .int .u16 0, .int .u8 0] #[.int .u8 h.tos, .int .u16 h.id, .bool h.df, .bool h.mf, .int .i64 h.off, .int .u8 h.ttl, .int .u8 h.proto, .int .u32 h.src, .int .u32 h.dst, .slice oA h.opts.length oc] #[.int .u8 k0, .int .u32 k1, .int .u32 k2, .int .u16 k3, .int .u16 k4, .int .u8 f1, .int .u8 f2, .int .u8 f3, .int .u8 f4, .int .u32 f5, .int .u32 f6, .int .i64 f7, .int .i64 f8, .int .u8 z0, .int .u32 z1, .int .u32 z2, .int .u16 z3, .int .u16 z4, .int .u8 f9]
  go_upto_region 5 with (first | ((with_reducible refine look_store ?_); refine wpList_store_row rfl _ _ _ rfl _ _ rfl rfl _ _ q1 (by kernel_rfl) (by simp) (by simp [Value.oneCell']) ?_) | ((with_reducible refine look_store ?_); refine wpList_store_row rfl _ _ _ rfl _ _ rfl rfl _ _ q2 (by kernel_rfl) (by simp) (by simp [Value.oneCell']) ?_) | fail)
  try dsimp only [Act.put]
  clear q1 q2 q3
  refine wp_two ?_
  intro w4 hb4 hs4 bh bf
  have H5 := Lib.hid (HW.out w4 hb4)
  have L4 := Lib.hid (L3.out.trans (hb4.mono L3.out.size))
  have HGF := Lib.hid (show w.heap.size ≤ w3.heap.size + 1 from by have := L3.out.size; omega)
  clear HW HO HD hb4 hs4 L3 L2
  go_wp2_with (first | ((with_reducible refine look_load ?_); refine wpList_load_row rfl _ _ rfl _ rfl _ _ _ _ bh Tryd.underlying67 rfl (by kernel_rfl) ?_) | fail)
  refine H5.out.mono ?_
  rintro e w5 ⟨v, rfl, hown, l5⟩
  obtain ⟨g, c5, rfl, hg0, _, hc5, _⟩ := hown.form (by rw [HLe.out]; exact HL0.out.2)
  rw [HLe.out] at hc5 ⊢
  have HJ0 : Hid (TJ w (w3.heap.size + 1) #[.int .u8 k0, .int .u32 k1, .int .u32 k2, .int .u16 k3, .int .u16 k4, .int .u8 f1, .int .u8 f2, .int .u8 f3, .int .u8 f4, .int .u32 f5, .int .u32 f6, .int .i64 f7, .int .i64 f8, .int .u8 z0, .int .u32 z1, .int .u32 z2, .int .u16 z3, .int .u16 z4, .int .u8 f9] h data L 0 (some ⟨g, 0, none⟩, c5) w5) := Lib.hid ⟨L4.out.trans (l5.mono L4.out.size), bf.below l5 bf.lt, by rw [down_zero]; exact hown.rd, hc5⟩
  clear H5 L4 bf bh l5 hown hg0 HLe
  go_wp2_with fail
  go_loopw [8, 9, 38] (fun bv ev iv W => ∃ (j : Nat) (q : Option Addr × Nat), j ≤ m ∧ iv = .int .u8 j ∧ ev = .int .i64 0 ∧ bv = .slice q.1 L q.2 ∧ Hid (TJ w (w3.heap.size + 1) #[.int .u8 k0, .int .u32 k1, .int .u32 k2, .int .u16 k3, .int .u16 k4, .int .u8 f1, .int .u8 f2, .int .u8 f3, .int .u8 f4, .int .u32 f5, .int .u32 f6, .int .i64 f7, .int .i64 f8, .int .u8 z0, .int .u32 z1, .int .u32 z2, .int .u16 z3, .int .u16 z4, .int .u8 f9] h data L j q W)) (fun _ _ iv _ => m - (intOf iv).toNat)
  case atStart => exact ⟨0, _, by omega, rfl, rfl, rfl, HJ0⟩
  case round =>
    obtain ⟨j, q, hj, rfl, rfl, rfl, hJ⟩ := hrel
    rename World => wo
    clear HJ0
    by_cases hlt : j < m
    · have e1 : decide ((j : Int) < m) = true := by simp; omega
      have e2 : decide (j < m) = true := by simp; omega
      have hj9 : (j : Int) < 9 := by omega
      have hwj : IntKind.u8.wrap ((j : Int) + 1) = ((j + 1 : Nat) : Int) := by rw [IntKind.wrap_u8]; omega
      have HH := Lib.hid (hop_any (h.down j) q.1 q.2 L data wo (HFd.out j hj).1 (HFd.out j hj).2.1 (by have := HC.out; omega) (by have := HC.out; omega) HC.out.2 (by have h1 := (HFd.out j hj).2.2.1; rw [if_neg (by omega)] at h1; omega) (HFd.out j hj).2.2.2.2.2.1 hJ.out.2.2.2 hJ.out.2.2.1)
      rw [down_next] at HH
      go_wp2_with (first | (go_at_call 40; refine HH.out.mono ?_; rintro e w6 ⟨v6, rfl, ho6, l6⟩; obtain ⟨g6, c6, rfl, _, _, hc6, _⟩ := ho6.form (by rw [(HFd.out (j + 1) (by omega)).2.2.2.2.2.1]; exact HL0.out.2); rw [(HFd.out (j + 1) (by omega)).2.2.2.2.2.1] at hc6 ⊢; have HJ6 : Hid (TJ w (w3.heap.size + 1) #[.int .u8 k0, .int .u32 k1, .int .u32 k2, .int .u16 k3, .int .u16 k4, .int .u8 f1, .int .u8 f2, .int .u8 f3, .int .u8 f4, .int .u32 f5, .int .u32 f6, .int .i64 f7, .int .i64 f8, .int .u8 z0, .int .u32 z1, .int .u32 z2, .int .u16 z3, .int .u16 z4, .int .u8 f9] h data L (j + 1) (some ⟨g6, 0, none⟩, c6) w6) := Lib.hid ⟨hJ.out.1.trans (l6.mono hJ.out.1.size), hJ.out.2.1.below l6 hJ.out.2.1.lt, ho6.rd, hc6⟩; clear ho6 l6) | fail)
      go_roundw
      case rel => exact ⟨j + 1, _, by omega, by go_num, rfl, rfl, HJ6⟩
      case measure => simp [intOf]; omega
    · obtain rfl : j = m := by omega
      obtain ⟨d1, d2, _, d4, d5, d6, d7, d8, d9⟩ := HFd.out j (Nat.le_refl _)
      have d8' : pktF (ipWriteL (h.down j).turn data) = ⟨⟨k0, k2, k1, k3, k4⟩, f1, f2, f3, f4, f5, f6, f7, f8, ⟨z0, z1, z2, z3, z4⟩, f9⟩ := d8
      have HR1 := Lib.hid (HRd.out wo q.1 q.2 (ipWriteL (h.down j) data) (ipWriteL_byt d1 d2.len HC.out.2) d6 hJ.out.2.2.2 hJ.out.2.2.1 hJ.out.1)
      rw [d4, d5] at HR1
      have HTn := Lib.hid (fun (W : World) (l : Below wo.heap.size wo W) => turn_any (h.down j) q.1 q.2 L data W d1 d2 (by have := HC.out; omega) HC.out.2 d6 hJ.out.2.2.2 ((hJ.out.2.2.1.below l (Nat.le_refl _)).more l.size))
      have HR2 := Lib.hid (fun (W : World) (A' : Option Addr) (c' : Nat) (hc : L ≤ c') (hr : Rd W W.heap.size A' .u8 (ipWriteL (h.down j).turn data)) (hb : Below w.heap.size w W) => HRd.out W A' c' _ (ipWriteL_byt (turn_ok d1) (turn_right d2).len HC.out.2) d9 hc hr hb)
      rw [d7, d8'] at HR2
      have HL9 := Lib.hid (show (ipWriteL (h.down j).turn data).length = L ∧ 0 < L from ⟨d9, HL0.out.2⟩)
      have L6 := Lib.hid hJ.out.1
      have bF6 := hJ.out.2.1
      clear d1 d2 d4 d5 d6 d7 d8 d8' d9 hJ HFd HC HRd HL0 HOk HRi HFo hlt hj hm9 hm1 HMt
      generalize ipWriteL (h.down j).turn data = tb at *
      dsimp only [Facts.val, Facts.cells, Key.cells, List.cons_append, List.nil_append] at HR1 HR2
      go_upto_region 15 with (first | (go_at_call 31; refine HR1.out.mono ?_; rintro e w6 ⟨rfl, l6⟩) | ((with_reducible refine look_store ?_); refine wpList_store_new rfl _ _ _ rfl _ _ rfl rfl _ _ rfl (by kernel_rfl) (by simp) (by simp [Value.oneCell']) ?_) | fail)
      try dsimp only [Act.put]
      refine wp_name1 ?_
      intro w7 hb7 hs7 bg
      have HT7 := Lib.hid (HTn.out w7 (l6.trans (hb7.mono l6.size)))
      have bF7 := (bF6.below l6 bF6.lt).below hb7 (bF6.below l6 bF6.lt).lt
      have L7 := Lib.hid ((L6.out.trans (l6.mono L6.out.size)).trans (hb7.mono (Nat.le_trans L6.out.size l6.size)))
      have hg7 := Lib.hid (show w3.heap.size + 1 < w6.heap.size from (bF6.below l6 bF6.lt).lt)
      clear l6 hb7 hs7 bF6 L6 HR1 HTn
      go_wp2_with fail
      refine HT7.out.mono ?_
      rintro e w8 ⟨v8, rfl, ho8, l8⟩
      obtain ⟨g8, c8, rfl, _, _, hc8, _⟩ := ho8.form (by rw [HL9.out.1]; exact HL9.out.2)
      rw [HL9.out.1] at hc8 ⊢
      have bg8 := bg.below l8 bg.lt
      have bF8 := bF7.below l8 bF7.lt
      have L8 := Lib.hid (L7.out.trans (l8.mono L7.out.size))
      have H8 := Lib.hid (HR2.out w8 _ c8 hc8 ho8.rd L8.out)
      clear l8 bg bF7 L7 HT7 HR2 ho8
      go_upto_region 17 with (first | (go_at_call 31; refine H8.out.mono ?_; rintro e w9 ⟨rfl, l9⟩) | ((with_reducible refine look_store ?_); refine wpList_store_new rfl _ _ _ rfl _ _ rfl rfl _ _ rfl (by kernel_rfl) (by simp) (by simp [Value.oneCell']) ?_) | fail)
      try dsimp only [Act.put]
      refine wp_name1 ?_
      intro w10 hb10 hs10 bk
      have bg10 := (bg8.below l9 bg8.lt).below hb10 (bg8.below l9 bg8.lt).lt
      have bF10 := (bF8.below l9 bF8.lt).below hb10 (bF8.below l9 bF8.lt).lt
      have L10 := Lib.hid ((L8.out.trans (l9.mono L8.out.size)).trans (hb10.mono (Nat.le_trans L8.out.size l9.size)))
      have hg9 := Lib.hid (show w3.heap.size + 1 < w9.heap.size from (bF8.below l9 bF8.lt).lt)
      clear l9 hb10 hs10 bg8 bF8 L8 H8
      have hcF := bF10.cell
      have hfF := bF10.frozen
      go_upto_region 18 with fail
      try dsimp only [Act.put]
      have bF11 : Blk ((w10.setCell ⟨w3.heap.size + 1, 1, none⟩ (.int .u32 k2)).setCell ⟨w3.heap.size + 1, 2, none⟩ (.int .u32 k1)) (w3.heap.size + 1) 27 #[.int .u8 k0, .int .u32 k2, .int .u32 k1, .int .u16 k3, .int .u16 k4, .int .u8 f1, .int .u8 f2, .int .u8 f3, .int .u8 f4, .int .u32 f5, .int .u32 f6, .int .i64 f7, .int .i64 f8, .int .u8 z0, .int .u32 z1, .int .u32 z2, .int .u16 z3, .int .u16 z4, .int .u8 f9] := (bF10.set 1 (.int .u32 k2)).set 2 (.int .u32 k1)
      have bg11 := (bg10.far (p := ⟨w3.heap.size + 1, 1, none⟩) (by have := hg7.out; show w6.heap.size ≠ w3.heap.size + 1; omega) (.int .u32 k2)).far (p := ⟨w3.heap.size + 1, 2, none⟩) (by have := hg7.out; show w6.heap.size ≠ w3.heap.size + 1; omega) (.int .u32 k1)
      have bk11 := (bk.far (p := ⟨w3.heap.size + 1, 1, none⟩) (by have := hg9.out; show w9.heap.size ≠ w3.heap.size + 1; omega) (.int .u32 k2)).far (p := ⟨w3.heap.size + 1, 2, none⟩) (by have := hg9.out; show w9.heap.size ≠ w3.heap.size + 1; omega) (.int .u32 k1)
      have hL11 := (L10.out.setCell (p := ⟨w3.heap.size + 1, 1, none⟩) HGF.out (.int .u32 k2)).setCell (p := ⟨w3.heap.size + 1, 2, none⟩) HGF.out (.int .u32 k1)
      clear hcF hfF bF10 bg10 bk L10
      revert bF11 bg11 bk11 hL11
      generalize (w10.setCell ⟨w3.heap.size + 1, 1, none⟩ (.int .u32 k2)).setCell ⟨w3.heap.size + 1, 2, none⟩ (.int .u32 k1) = w11
      intro bF11 bg11 bk11 hL11
      have hne := HEqT.out w11
      have heq := HEq.out
      have L11 := Lib.hid hL11
      have HEq2 := Lib.hid heq
      have hcF := bF11.cell
      have hfF := bF11.frozen
      clear hL11 heq
      go_upto_region 21 with (first | ((with_reducible refine look_load ?_); refine wpList_load_g (by first | rfl | simp [Region.wanted, yielded]) _ _ rfl _ rfl _ _ _ _ bk11 Tryd.underlying27 rfl (by kernel_rfl) ?_) | ((with_reducible refine look_load ?_); refine wpList_load_g (by first | rfl | simp [Region.wanted, yielded]) _ _ rfl _ rfl _ _ _ _ bF11 Tryd.underlying27 rfl (by kernel_rfl) ?_) | fail)
      try dsimp only [Act.put]
      have bF12 : Blk ((w11.setCell ⟨w3.heap.size + 1, 1, none⟩ (.int .u32 k1)).setCell ⟨w3.heap.size + 1, 2, none⟩ (.int .u32 k2)) (w3.heap.size + 1) 27 #[.int .u8 k0, .int .u32 k1, .int .u32 k2, .int .u16 k3, .int .u16 k4, .int .u8 f1, .int .u8 f2, .int .u8 f3, .int .u8 f4, .int .u32 f5, .int .u32 f6, .int .i64 f7, .int .i64 f8, .int .u8 z0, .int .u32 z1, .int .u32 z2, .int .u16 z3, .int .u16 z4, .int .u8 f9] := (bF11.set 1 (.int .u32 k1)).set 2 (.int .u32 k2)
      have bg12 := (bg11.far (p := ⟨w3.heap.size + 1, 1, none⟩) (by have := hg7.out; show w6.heap.size ≠ w3.heap.size + 1; omega) (.int .u32 k1)).far (p := ⟨w3.heap.size + 1, 2, none⟩) (by have := hg7.out; show w6.heap.size ≠ w3.heap.size + 1; omega) (.int .u32 k2)
      have hL12 := (L11.out.setCell (p := ⟨w3.heap.size + 1, 1, none⟩) HGF.out (.int .u32 k1)).setCell (p := ⟨w3.heap.size + 1, 2, none⟩) HGF.out (.int .u32 k2)
      clear hcF hfF bF11 bg11 bk11 L11 hne
      revert bF12 bg12 hL12
      generalize (w11.setCell ⟨w3.heap.size + 1, 1, none⟩ (.int .u32 k1)).setCell ⟨w3.heap.size + 1, 2, none⟩ (.int .u32 k2) = w12
      intro bF12 bg12 hL12
      have heq := HEq2.out w12
      have L12 := Lib.hid hL12
      clear hL12
      go_wp2_with (first | ((with_reducible refine look_load ?_); refine wpList_load_row rfl _ _ rfl _ rfl _ _ _ _ bg12 Tryd.underlying27 rfl (by kernel_rfl) ?_) | ((with_reducible refine look_load ?_); refine wpList_load_row rfl _ _ rfl _ rfl _ _ _ _ bF12 Tryd.underlying27 rfl (by kernel_rfl) ?_) | fail)
      go_ret
      exact ⟨rfl, L12.out⟩
end Go.Proofs.YtebeekjcepjcnaaDoor
namespace Go.Proofs.YtebeekjcepjcnaaDoor
open Go.ChangeShapes Go.WideShapes Go.ChangeAt Go.RowKit

section
variable {H : Type} {enc : TypeId × Value → H} {w : World} {base : Nat} {spare : Nat → Bool} {held : Bool}
theorem wf_u8 {n : Int} : (Lit.int .u8 n).wf = true ↔ 0 ≤ n ∧ n < 256 := by simp [Lit.wf, IntKind.min, IntKind.max, IntKind.signed, IntKind.bits]; omega
theorem wf_u16 {n : Int} : (Lit.int .u16 n).wf = true ↔ 0 ≤ n ∧ n < 65536 := by simp [Lit.wf, IntKind.min, IntKind.max, IntKind.signed, IntKind.bits]; omega
theorem wf_u32 {n : Int} : (Lit.int .u32 n).wf = true ↔ 0 ≤ n ∧ n < 4294967296 := by simp [Lit.wf, IntKind.min, IntKind.max, IntKind.signed, IntKind.bits]; omega
theorem cOne8 : Tryd.prog.cellsOf 5 = 1 := by kernel_rfl
theorem cOne16 : Tryd.prog.cellsOf 23 = 1 := by kernel_rfl
theorem cOne32 : Tryd.prog.cellsOf 22 = 1 := by kernel_rfl
/-- One number among the cells. -/
theorem one_int {t : TypeId} {k : IntKind} {n off : Nat} {cs : List Value} {c : Value} {y : DataW H × List MemPlace} (ht : Tryd.prog.underlying t = some (.int k)) (hc : Tryd.prog.cellsOf t = 1) (h1 : (cs.drop off).take 1 = [c])
    (h : DataW.trod enc Tryd.prog w base spare held n t ((cs.drop off).take (Tryd.prog.cellsOf t)) = some y) : ∃ x, c = .int k x ∧ y = (.lit (.int k x), []) ∧ (Lit.int k x).wf = true := by
  rw [hc, h1] at h
  obtain ⟨x, e1, e2, e3⟩ := DataW.trod_int ht h
  simp only [List.cons.injEq, and_true] at e1
  exact ⟨x, e1, e2, e3⟩
end

theorem gSorts : Tryd.prog.globalNamed "baffle/icmp.sorts" = some 1 := by kernel_rfl
theorem tSorts : (Tryd.prog.globals[1]?).map (·.type) = some 189 := by kernel_rfl
theorem cSort : Tryd.prog.cellsOf 188 = 3 := by kernel_rfl
theorem nth_of_take {l : List Value} {a : Nat} {c : Value} (h : (l.drop a).take 1 = [c]) : l[a]? = some c := by
  have h2 : ((l.drop a).take 1)[0]? = some c := by rw [h]; rfl
  rwa [List.getElem?_take_of_lt (by omega), List.getElem?_drop, Nat.add_zero] at h2
theorem sorts_dat {H : Type} (k : Nat) (hk : k < 19) : ∃ l : List (DataW H), Rows.laid_baffle_icmp_sorts = .agg l ∧ l[k]? = some (.agg [.lit (.int .u8 (kindN k)), .lit (.int .u8 (codesN k)), .lit (.int .u8 (replyN k))]) := by
  refine ⟨_, rfl, ?_⟩
  rcases (show k = 0 ∨ k = 1 ∨ k = 2 ∨ k = 3 ∨ k = 4 ∨ k = 5 ∨ k = 6 ∨ k = 7 ∨ k = 8 ∨ k = 9 ∨ k = 10 ∨ k = 11 ∨ k = 12 ∨ k = 13 ∨ k = 14 ∨ k = 15 ∨ k = 16 ∨ k = 17 ∨ k = 18 by omega) with rfl | rfl | rfl | rfl | rfl | rfl | rfl | rfl | rfl | rfl | rfl | rfl | rfl | rfl | rfl | rfl | rfl | rfl | rfl <;> rfl
end Go.Proofs.YtebeekjcepjcnaaDoor
