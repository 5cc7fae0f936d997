/-
  bafflelaw11.PktErrors.
-/
import Derived.Lib.MinMax
import Derived.WalkKit
import Derived.WalkSpells
import Derived.WalkLawsBesides
import Derived.WalkSmall
import Derived.Lib.Hide
import Derived.Deep.AppendLies
import Derived.Maps.AppendAt
import Derived.Laws.AppendOwnNone
import Derived.Laws.CopyOwn
import Derived.OneCell
import Derived.Test.YtebeekjcepjcnaaDoorProg
import Derived.Lib.SliceRun
import Derived.RangeFuncNested
import Derived.RangeFuncBound
import Derived.RangeFuncCalls
import Derived.RangeFuncLeaves
import Derived.Shelf.Abstract
import Derived.OwnWalkIn
import Derived.TacticsInMore
import Derived.LoopNIn
import Derived.LoopIn
import Derived.Lib.AppendZeros
import Derived.BigRegion
import Derived.ChangeAlike
import Derived.Deep.RegionLaw
import Derived.Deep.DeepCutAuto
import Derived.Orders
import Derived.RegionTactic
import Derived.Still
import Derived.Deep.MidRow
import Derived.Deep.RegionHeld3
import Derived.MapKept
import Derived.RegionIn
import Derived.Laws.StructEq
import Derived.Laws.BitsAllLaws
import Derived.Deep.CutBlock
import Derived.Test.YtebeekjcepjcnaaDoorEBase
import Derived.Test.YtebeekjcepjcnaaDoorEBits
import Derived.Test.YtebeekjcepjcnaaDoorECsum
import Derived.Test.YtebeekjcepjcnaaDoorESum
import Derived.Test.YtebeekjcepjcnaaDoorEConcat
import Derived.Test.YtebeekjcepjcnaaDoorEFix
import Derived.Test.YtebeekjcepjcnaaDoorEFacts
import Derived.Test.YtebeekjcepjcnaaDoorEPkt
import Derived.Test.YtebeekjcepjcnaaDoorERegion
import Derived.Test.YtebeekjcepjcnaaDoorEWalk
import Derived.Test.YtebeekjcepjcnaaDoorEStep
import Derived.Test.YtebeekjcepjcnaaDoorETcpw
import Derived.Test.YtebeekjcepjcnaaDoorEUdpw
import Derived.Test.YtebeekjcepjcnaaDoorEData
import Derived.Test.YtebeekjcepjcnaaDoorEIprd
import Derived.Test.YtebeekjcepjcnaaDoorEFold
import Derived.Test.YtebeekjcepjcnaaDoorEFresh
import Derived.Test.YtebeekjcepjcnaaDoorEIpre
import Derived.Test.YtebeekjcepjcnaaDoorEIpread
import Derived.Test.YtebeekjcepjcnaaDoorEOptsa
import Derived.Test.YtebeekjcepjcnaaDoorEOptsb
import Derived.Test.YtebeekjcepjcnaaDoorEOptsc
import Derived.Test.YtebeekjcepjcnaaDoorEOptsd
import Derived.Test.YtebeekjcepjcnaaDoorETcprd
import Derived.Test.YtebeekjcepjcnaaDoorEEq
import Derived.Test.YtebeekjcepjcnaaDoorEMade8
import Derived.Test.YtebeekjcepjcnaaDoorEIpback
import Derived.Test.YtebeekjcepjcnaaDoorEMade6p
import Derived.Test.YtebeekjcepjcnaaDoorEOptw
import Derived.Test.YtebeekjcepjcnaaDoorEMade10
import Derived.Test.YtebeekjcepjcnaaDoorEMade9
import Derived.Test.YtebeekjcepjcnaaDoorEPright
import Derived.Test.YtebeekjcepjcnaaDoorEPktlen
import Derived.Test.YtebeekjcepjcnaaDoorESm
import Derived.Test.YtebeekjcepjcnaaDoorEUdprd
import Derived.Test.YtebeekjcepjcnaaDoorEIcmprd
import Derived.Test.YtebeekjcepjcnaaDoorEContt
import Derived.Test.YtebeekjcepjcnaaDoorEMade11p
import Derived.Test.YtebeekjcepjcnaaDoorEM11law
import Derived.Test.YtebeekjcepjcnaaDoorEErrlaw
import Derived.Test.YtebeekjcepjcnaaDoorEQuota
import Derived.Test.YtebeekjcepjcnaaDoorEQuotc
import Derived.Test.YtebeekjcepjcnaaDoorEPkto
import Derived.Test.YtebeekjcepjcnaaDoorEPkta
import Derived.Test.YtebeekjcepjcnaaDoorEPktr
import Derived.Test.YtebeekjcepjcnaaDoorERip5
import Derived.Test.YtebeekjcepjcnaaDoorEPawake
import Derived.Test.YtebeekjcepjcnaaDoorEContq
import Derived.Test.YtebeekjcepjcnaaDoorEMade6
import Derived.Test.YtebeekjcepjcnaaDoorEMade11
namespace Go.Proofs.YtebeekjcepjcnaaDoor
open Go.RowKit
def ekL : List Int := [3, 3, 3, 2, 1, 2, 1]
theorem ekL_bd : ∀ i, i < 7 → 0 ≤ ekL.getD i 0 ∧ ekL.getD i 0 < 4 := by decide
theorem ekL_cell : ∀ i, i < 7 → (#[.int .u8 3, .int .u8 3, .int .u8 3, .int .u8 2, .int .u8 1, .int .u8 2, .int .u8 1] : Array Value)[i]? = some (.int .u8 (ekL.getD i 0)) := by
  intro i hi
  rcases (show i = 0 ∨ i = 1 ∨ i = 2 ∨ i = 3 ∨ i = 4 ∨ i = 5 ∨ i = 6 by omega) with rfl | rfl | rfl | rfl | rfl | rfl | rfl <;> rfl
theorem pick_any (a n : Int) (w : World) (a0 : 0 ≤ a) (n0 : 1 ≤ n) (n1 : n ≤ 1000000) (_a1 : a ≤ 1000000) : Calls Tryd.prog 38 #[.int .i64 a, .int .i64 n] w fun e w' => e = .returned (.int .i64 (a % n)) ∧ w = w' := by
  have h1 : decide (n < 1) = false := by simp; omega
  have h2 : a.tmod n = a % n := Int.tmod_eq_emod_of_nonneg a0
  have h3 : decide (a % n < 0) = false := by have := Int.emod_nonneg a (show n ≠ 0 by omega); simp; omega
  have h4 : (n == 0) = false := by simp; omega
  have h5 : IntKind.i64.wrap (a % n) = a % n := by
    have := Int.emod_nonneg a (show n ≠ 0 by omega); have := Int.emod_lt_of_pos a (show 0 < n by omega)
    rw [IntKind.wrap_i64]; omega
  go_enter Tryd.func38, Tryd.ntmps38
  go_wp2_with fail
  go_ret
  exact ⟨rfl, rfl⟩
theorem icmpL_bytD {t c : Int} {d : List Int} (t0 : 0 ≤ t) (t1 : t < 256) (c0 : 0 ≤ c) (c1 : c < 256) (hd : Byt d) : Byt (icmpL t c 0 0 d) := by
  unfold icmpL icmpHead
  exact fixL_byt (by exact .cons t0 t1 (.cons c0 c1 (.cons (by omega) (by omega) (.cons (by omega) (by omega) (.cons (by omega) (by omega) (.cons (by omega) (by omega) (.cons (by omega) (by omega) (.cons (by omega) (by omega) hd)))))))) 2
theorem cont_quo {data : List Int} {f : Facts} (hC : Cont 3 data f) {n4 : Nat} (hs : ipSize (data.drop 8) = 20 + n4) : 36 + n4 ≤ data.length := by
  obtain ⟨hp, h8, _, h2, hK⟩ := cont_icm hC (.inr rfl)
  have hk5 := hC.kind.2.2.2 rfl
  have hd : icmpE2 data = 0 := by
    have := hC.data
    unfold dataE at this
    rw [if_neg (by omega), if_neg (by omega)] at this
    exact this
  have hE : icmpE data = 0 := by
    unfold icmpE
    rw [if_neg (by omega), h2]
  unfold icmpE2 at hd
  rw [hE, if_neg (by decide), hK, hk5, if_neg (by decide)] at hd
  have hq : quoT (data.drop 8) 1 = false := by
    cases hq : quoT (data.drop 8) 1 with
    | false => rfl
    | true => rw [quoE_bad (j := 1) (by omega) hq] at hd; cases hd
  have hq2 : (decide (ipSize (data.drop 8) < 20) || decide ((data.drop 8).length < ipSize (data.drop 8) + 8)) = false := hq
  rw [hs, List.length_drop] at hq2
  simp at hq2
  omega
/-- What the rest of the walk needs: the header's block, its options, the data. -/
def PE (w : World) (gH : Nat) (HC : Array Value) (oA : Option Addr) (opts : List Int) (q : Option Addr × Nat) (k : Nat) (xs : List Int) (W : World) : Prop := Below w.heap.size w W ∧ Blk W gH 67 HC ∧ Rd W W.heap.size oA .u8 opts ∧ Rd W W.heap.size q.1 .u8 xs ∧ k ≤ q.2
/-- The row of the data, the header's block and its options. -/
def PS (w : World) (B gH : Nat) (HC : Array Value) (oA : Option Addr) (ol oc : Nat) (opts : List Int) (g cap dl : Nat) (xs : List Int) (W : World) : Prop := Below w.heap.size w W ∧ Blk W gH 67 HC ∧ Own W B (.slice oA ol oc) opts ∧ Own W B (.slice (some ⟨g, 0, none⟩) dl cap) xs ∧ (Value.slice oA ol oc).ownBlock ≠ some g ∧ gH ≠ g ∧ w.heap.size ≤ g ∧ dl ≤ cap
section
variable {w W : World} {B gH : Nat} {HC : Array Value} {oA : Option Addr} {ol oc : Nat} {opts : List Int} {g cap dl : Nat} {xs : List Int}
theorem PS.below {W' : World} (h : PS w B gH HC oA ol oc opts g cap dl xs W) (l : Below W.heap.size W W') : PS w B gH HC oA ol oc opts g cap dl xs W' := ⟨h.1.trans (l.mono h.1.size), h.2.1.below l h.2.1.lt, h.2.2.1.below l (Nat.le_refl _), h.2.2.2.1.below l (Nat.le_refl _), h.2.2.2.2⟩
theorem PS.set (h : PS w B gH HC oA ol oc opts g cap dl xs W) (j : Nat) (x : Int) : PS w B gH HC oA ol oc opts g cap dl (xs.set j x) (W.setCell ⟨g, j, none⟩ (.int .u8 x)) := ⟨h.1.setCell (p := ⟨g, j, none⟩) h.2.2.2.2.2.2.1 _, h.2.1.far (p := ⟨g, j, none⟩) h.2.2.2.2.2.1 _, h.2.2.1.setCell_far (a := ⟨g, j, none⟩) h.2.2.2.2.1 _, h.2.2.2.1.set j x, h.2.2.2.2⟩
theorem PS.pe (h : PS w B gH HC oA ol oc opts g cap dl xs W) {k : Nat} (hk : k ≤ dl) : PE w gH HC oA opts (some ⟨g, 0, none⟩, cap) k (xs.take k) W := ⟨h.1, h.2.1, h.2.2.1.rd, h.2.2.2.1.rd.take k, by have := h.2.2.2.2.2.2.2; show k ≤ cap; omega⟩
theorem PS.all (h : PS w B gH HC oA ol oc opts g cap dl xs W) : PE w gH HC oA opts (some ⟨g, 0, none⟩, cap) dl xs W := ⟨h.1, h.2.1, h.2.2.1.rd, h.2.2.2.1.rd, h.2.2.2.2.2.2.2⟩
end
set_option maxRecDepth 100000 in
set_option maxHeartbeats 16000000 in
theorem pktErrors_any (x : Sm) (hx : x.Ok) (way n : Int) (w : World) (hA : SmAt w w.heap.size x) (a0 : 0 ≤ way) (_a1 : way < 256) (n0 : 0 ≤ n) (n1 : n < 256) (hT : Tabs w) (hs : SortsAt w) (hm : NamesAt w) :
    Calls Tryd.prog 13 #[x.val, .int .u8 way, .int .u8 n] w fun e W => e = .returned (.bool true) ∧ Below w.heap.size w W := by
  have HAw := Lib.hid (fun (W : World) (hb : Below w.heap.size w W) => awakeP_any W (hs.below hb (Nat.le_refl _)) (hm.below hb (Nat.le_refl _)))
  obtain ⟨i, hi1, hi2⟩ : ∃ i : Nat, way.tmod 7 = i ∧ i < 7 := ⟨(way % 7).toNat, by rw [Int.tmod_eq_emod_of_nonneg a0]; omega, by omega⟩
  obtain ⟨kt, hkt⟩ : ∃ kt, ekL.getD i 0 = kt := ⟨_, rfl⟩
  have hkb := ekL_bd i hi2
  rw [hkt] at hkb
  have hxo : Sm.Ok { x with kind := kt } := { hx with kind := ⟨hkb.1, by show kt < 256; omega⟩ }
  have HM := Lib.hid (fun (W : World) (hb : Below w.heap.size w W) => made11_any { x with kind := kt } hxo W (by have h := (hA.below hb (Nat.le_refl _)).more hb.size; exact ⟨h.os, h.tb, h.ub, h.ib⟩) (hT.below hb (Nat.le_refl _)) (hs.below hb (Nat.le_refl _)))
  have Hs := Lib.hid (fun (W : World) (hb : Below w.heap.size w W) => hs.below hb (Nat.le_refl _))
  have HLaw := Lib.hid (fun (os : List OE) (data : List Int) (f : Facts) (hos : OsOk os) (hC : Cont (kt % 4).toNat data f) => m11_law hxo hos hC (by omega))
  have HKb := Lib.hid hkb
  have HKt := Lib.hid hkt
  have hct := fun W : World => (Blk.new W 5 #[.int .u8 3, .int .u8 3, .int .u8 3, .int .u8 2, .int .u8 1, .int .u8 2, .int .u8 1]).cell i
  rw [ekL_cell i hi2, hkt] at hct
  have hii : (i : Int) < 7 := by omega
  have HIi := Lib.hid hi2
  have HXt := Lib.hid hx.tos
  clear hA hT hs hm hx hxo hkb hkt hi2
  unfold Made11Post at HM
  dsimp only [Sm.val, Sm.cells] at HM
  dsimp only [Sm.val, Sm.cells]
  go_enter Tryd.func13, Tryd.ntmps13
  go_upto_region 1 with fail
  refine wp_name1 ?_
  intro w1 hb1 hs1 bx
  have L1 := Lib.hid hb1
  clear hb1 hs1
  go_wp2_with fail
  refine (HAw.out w1 L1.out).mono ?_
  rintro e w2 ⟨rfl, l2⟩
  have bx2 := bx.below l2 bx.lt
  have L2 := Lib.hid (L1.out.trans (l2.mono L1.out.size))
  clear l2 bx HAw L1
  have hcx := fun o => (bx2.alloc o).cell 0
  have hfx := fun o => (bx2.alloc o).frozen 0
  go_upto_region 4 with fail
  try dsimp only [Act.put]
  have bx3 : Blk ((w2.alloc (.cells #[.int .u8 3, .int .u8 3, .int .u8 3, .int .u8 2, .int .u8 1, .int .u8 2, .int .u8 1] 5)).setCell ⟨w.heap.size, 0, none⟩ (.int .u8 kt)) w.heap.size 65 #[.int .u8 kt, .int .u8 x.tos, .int .u8 x.ttl, .int .u16 x.id, .bool x.df, .int .u32 x.src, .int .u32 x.dst, .slice x.oA x.on x.oc, .int .u8 x.h0, .int .u8 x.h1, .int .u8 x.h2, .int .u8 x.h3, .int .u8 x.h4, .int .u8 x.h5, .int .u8 x.h6, .int .u8 x.h7, .int .u8 x.h8, .int .u8 x.h9, .int .u8 x.h10, .int .u8 x.h11, .int .u8 x.h12, .int .u8 x.h13, .int .u8 x.h14, .int .u8 x.h15, .int .u8 x.tf, .int .u8 x.tm, .int .u8 x.tw, .int .u32 x.ts, .int .u32 x.td, .slice x.tA x.tn x.tc, .int .u16 x.ufr, .int .u16 x.uto, .bool x.uck, .int .u32 x.us, .int .u32 x.ud, .slice x.uA x.un x.uc, .int .u8 x.ity, .int .u8 x.ico, .int .u16 x.iid, .int .u16 x.isq, .slice x.iA x.inn x.ic] := (bx2.alloc (.cells #[.int .u8 3, .int .u8 3, .int .u8 3, .int .u8 2, .int .u8 1, .int .u8 2, .int .u8 1] 5)).set 0 (.int .u8 kt)
  have hL3 : Below w.heap.size w ((w2.alloc (.cells #[.int .u8 3, .int .u8 3, .int .u8 3, .int .u8 2, .int .u8 1, .int .u8 2, .int .u8 1] 5)).setCell ⟨w.heap.size, 0, none⟩ (.int .u8 kt)) := (L2.out.alloc L2.out.size _).setCell (p := ⟨w.heap.size, 0, none⟩) (Nat.le_refl _) _
  clear hcx hfx hct bx2 L2
  revert bx3 hL3
  generalize (w2.alloc (.cells #[.int .u8 3, .int .u8 3, .int .u8 3, .int .u8 2, .int .u8 1, .int .u8 2, .int .u8 1] 5)).setCell ⟨w.heap.size, 0, none⟩ (.int .u8 kt) = v2
  intro bx3 hL3
  have L2 := Lib.hid hL3
  clear hL3
  go_wp2_with (first | ((with_reducible refine look_load ?_); refine wpList_load_row rfl _ _ rfl _ rfl _ _ _ _ bx3 Tryd.underlying65 rfl (by kernel_rfl) ?_) | fail)
  refine (HM.out v2 L2.out).mono ?_
  rintro e w3 ⟨os, oA, oc, p, data, f, rfl, ho, hd, hne, hos, hC, hz, l3⟩
  have HL := Lib.hid (HLaw.out os data f hos hC)
  have L3 := Lib.hid (L2.out.trans (l3.mono L2.out.size))
  have hbx := bx3.below l3 bx3.lt
  have Hg0 := Lib.hid (show w.heap.size < v2.heap.size from bx3.lt)
  have hktn : (kt % 4).toNat = kt.toNat := by have := HKb.out; omega
  rw [hktn] at hC
  have HD8 := Lib.hid hC.len
  have HDb := Lib.hid hC.byt
  have HZs := Lib.hid hz
  have HPr := Lib.hid HL.out.proto
  have HC := Lib.hid hC
  have HB : Hid (∀ d : List Int, d.length ≤ 1000 → ∀ r, r ≠ 0 → reasonOf (dataE f.key.proto d) = r → (m11H { x with kind := kt } f.key.proto os).Right d.length ∧ pktR (ipWriteL (m11H { x with kind := kt } f.key.proto os) d) = r ∧ pktF (ipWriteL (m11H { x with kind := kt } f.key.proto os) d) = Facts.zero) := Lib.hid (fun d hd r hr he => by
    have hR := m11_rightn HL.out.right hd
    obtain ⟨p1, p2⟩ := made_bad HL.out.ok hR HL.out.reason HL.out.proto he hr
    exact ⟨hR, p1, p2⟩)
  have HOk := Lib.hid HL.out.ok
  have HOl := Lib.hid HL.out.optl
  have HO := Lib.hid ho
  have HNe := Lib.hid hne
  obtain ⟨g, cap, hpe, hg0, hg1, hcp, hcm⟩ := hd.form (by have := HD8.out; omega)
  have hp1 : p = (some ⟨g, 0, none⟩, cap) := by
    simp only [Value.slice.injEq] at hpe
    exact Prod.ext hpe.1 hpe.2.2
  subst hp1
  clear hpe l3 HLaw HM bx3 HL hktn hos hC hz ho hne
  have HD := Lib.hid hd
  dsimp only at HD HNe
  generalize hdl : data.length = dl at *
  have HDl := Lib.hid hdl
  clear hdl hd
  generalize m11F { x with kind := kt } f = F at *
  generalize m11H { x with kind := kt } f.key.proto os = h at *
  generalize hop : h.opts.length = ol at *
  obtain ⟨tos, ident, df, mf, off, ttl, proto, src, dst, opts⟩ := h
  dsimp only at hop
  subst hop
  have HW := Lib.hid (fun (d : List Int) (k : Nat) (hk : d.length = k) (h1 : k ≤ 1000) (r : Int) (hr : r ≠ 0) (he : reasonOf (dataE f.key.proto d) = r) (A' : Option Addr) (c' : Nat) (W : World) (hrA : Rd W W.heap.size oA .u8 opts) (hrD : Rd W W.heap.size A' .u8 d) => ipWrite_any ⟨tos, ident, df, mf, off, ttl, proto, src, dst, opts⟩ oA oc A' c' d W HOk.out (HB.out d (by omega) r hr he).1 hrA hrD)
  have HPk := Lib.hid (fun (d : List Int) (k : Nat) (hk : d.length = k) (h1 : k ≤ 1000) (hB : Byt d) (r : Int) (hr : r ≠ 0) (he : reasonOf (dataE f.key.proto d) = r) (A' : Option Addr) (c' L : Nat) (W : World) (hL : (ipWriteL ⟨tos, ident, df, mf, off, ttl, proto, src, dst, opts⟩ d).length = L) (hc : L ≤ c') (hrD : Rd W W.heap.size A' .u8 (ipWriteL ⟨tos, ident, df, mf, off, ttl, proto, src, dst, opts⟩ d)) (hb : Below w.heap.size w W) => (show Calls Tryd.prog 31 #[.slice A' L c'] W fun e W' => e = .returned (.tuple #[Facts.zero.val, .int .u8 r]) ∧ Below W.heap.size W W' from by
    obtain ⟨a1, a2, a3⟩ := HB.out d (by omega) r hr he
    have h4 := ipWriteL_len ⟨tos, ident, df, mf, off, ttl, proto, src, dst, opts⟩ d
    have h5 := a1.len
    have := pktRead_any A' c' L _ W hL (by dsimp only at *; omega) hc (ipWriteL_byt HOk.out a1.len hB) hrD (Hs.out W hb)
    rw [a2, a3] at this
    exact this))
  obtain ⟨⟨k0, k1, k2, k3, k4⟩, f1, f2, f3, f4, f5, f6, f7, f8, ⟨z0, z1, z2, z3, z4⟩, f9⟩ := F
  dsimp only [IpH.val, Facts.val, Facts.cells, Key.cells, List.cons_append, List.nil_append]
  obtain ⟨q1, q2, q3⟩ := two_blocks w3 67 27 #[.int .u8 0, .int .u16 0, .bool false, .bool false, .int .i64 0, .int .u8 0, .int .u8 0, .int .u32 0, .int .u32 0, .slice none 0 0] #[.int .u8 0, .int .u32 0, .int .u32 0, .int .u16 0, .int .u16 0, .int .u8 0, .int .u8 0, .int .u8 0, .int .u8 0, .int .u32 0, .int .u32 0, .int .i64 0, .int .i64 0, .int .u8 0, .int .u32 0, .int .u32 0, .int .u16 0, .int .u16 0, .int .u8 0] #[.int .u8 tos, .int .u16 ident, .bool df, .bool mf, .int .i64 off, .int .u8 ttl, .int .u8 proto, .int .u32 src, .int .u32 dst, .slice oA opts.length oc] #[.int .u8 k0, .int .u32 k1, .int .u32 k2, .int .u16 k3, .int .u16 k4, .int .u8 f1, .int .u8 f2, .int .u8 f3, .int .u8 f4, .int .u32 f5, .int .u32 f6, .int .i64 f7, .int .i64 f8, .int .u8 z0, .int .u32 z1, .int .u32 z2, .int .u16 z3, .int .u16 z4, .int .u8 f9]
  go_upto_region 5 with (first | ((with_reducible refine look_store ?_); refine wpList_store_row rfl _ _ _ rfl _ _ rfl rfl _ _ q1 (by kernel_rfl) (by simp) (by simp [Value.oneCell']) ?_) | ((with_reducible refine look_store ?_); refine wpList_store_row rfl _ _ _ rfl _ _ rfl rfl _ _ q2 (by kernel_rfl) (by simp) (by simp [Value.oneCell']) ?_) | fail)
  try dsimp only [Act.put]
  clear q1 q2 q3
  refine wp_two ?_
  intro w4 hb4 hs4 bh bf
  have L4 := Lib.hid (L3.out.trans (hb4.mono L3.out.size))
  have bx4 := hbx.below hb4 hbx.lt
  have HP4 : Hid (PS w v2.heap.size w3.heap.size #[.int .u8 tos, .int .u16 ident, .bool df, .bool mf, .int .i64 off, .int .u8 ttl, .int .u8 proto, .int .u32 src, .int .u32 dst, .slice oA opts.length oc] oA opts.length oc opts g cap dl data w4) := Lib.hid ⟨L4.out, bh, HO.out.below hb4 (Nat.le_refl _), HD.out.below hb4 (Nat.le_refl _), fun h => HNe.out g h rfl, by omega, by have := Hg0.out; omega, hcp⟩
  have HG := Lib.hid (show w.heap.size < g ∧ w.heap.size ≤ w4.heap.size from ⟨by have := Hg0.out; omega, L4.out.size⟩)
  clear hb4 hs4 bh bf hbx L3 L2 HNe HO HD Hg0 hg0 hg1
  go_upto_block 0 with fail
  try dsimp only [Act.put]
  go_cut [8, 10] (fun s8 s10 wx => ∃ (q : Option Addr × Nat) (k : Nat) (d : List Int) (r : Int), s8 = .slice q.1 k q.2 ∧ s10 = .int .u8 r ∧ d.length = k ∧ k ≤ 1000 ∧ Byt d ∧ r ≠ 0 ∧ reasonOf (dataE f.key.proto d) = r ∧ Hid (PE w w3.heap.size #[.int .u8 tos, .int .u16 ident, .bool df, .bool mf, .int .i64 off, .int .u8 ttl, .int .u8 proto, .int .u32 src, .int .u32 dst, .slice oA opts.length oc] oA opts q k d wx))
  case first =>
    have hi2 := HIi.out
    have hcd := HP4.out.2.2.2.1.cell
    have hfd := HP4.out.2.2.2.1.free
    rcases (show i = 0 ∨ i = 1 ∨ i = 2 ∨ i = 3 ∨ i = 4 ∨ i = 5 ∨ i = 6 by omega) with rfl | rfl | rfl | rfl | rfl | rfl | rfl
    · obtain rfl : kt = 3 := HKt.out.symm
      obtain ⟨t3, ht3, ht3b⟩ : ∃ t3 : Nat, x.tos.tmod 3 = t3 ∧ t3 < 3 := ⟨(x.tos % 3).toNat, by rw [Int.tmod_eq_emod_of_nonneg HXt.out.1]; omega, by omega⟩
      obtain ⟨n4, hn4⟩ : ∃ n4 : Nat, t3 * 4 = n4 := ⟨_, rfl⟩
      have hw4 : IntKind.u8.wrap ((t3 : Int) * 4) = (n4 : Int) := by rw [IntKind.wrap_u8]; omega
      have hzs : ipSize (data.drop 8) = 20 + n4 := by
        rw [HZs.out (by decide)]
        rw [Int.tmod_eq_emod_of_nonneg HXt.out.1] at ht3
        omega
      have hlen := cont_quo HC.out hzs
      obtain ⟨pk, hpk, hpkb⟩ : ∃ pk : Nat, n % (28 + (n4 : Int)) = pk ∧ pk < 28 + n4 := ⟨(n % (28 + (n4 : Int))).toNat, by have := Int.emod_nonneg n (show (28 + (n4 : Int)) ≠ 0 by omega); omega, by have := Int.emod_lt_of_pos n (show 0 < 28 + (n4 : Int) by omega); omega⟩
      have HPick := Lib.hid (pick_any n (28 + (n4 : Int)) w4 n0 (by omega) (by omega) (by omega))
      rw [hpk] at HPick
      have hn8 : (n4 : Int) ≤ 8 := by omega
      have hpi : (pk : Int) < 36 := by omega
      have hcap8 : (8 : Int) + (pk : Int) ≤ cap := by have := HDl.out; omega
      have hk8 : 8 + pk ≤ dl := by have := HDl.out; omega
      have HE := Lib.hid (err0 HC.out hzs hpkb)
      have HK8 := Lib.hid (show 8 + pk ≤ dl ∧ (data.take (8 + pk)).length = 8 + pk from ⟨hk8, by rw [List.length_take]; have := HDl.out; omega⟩)
      have hcx := bx4.cell 1
      clear hlen hzs hk8 hcd hfd
      go_wp2_with (first | (go_at_call 38; refine HPick.out.mono ?_; rintro e w5 ⟨rfl, rfl⟩) | fail)
      go_meet
      exact ⟨(some ⟨g, 0, none⟩, cap), 8 + pk, data.take (8 + pk), 18, rfl, rfl, HK8.out.2, by omega, HDb.out.take _, by decide, HE.out, Lib.hid (HP4.out.pe HK8.out.1)⟩
    · obtain rfl : kt = 3 := HKt.out.symm
      obtain ⟨c, hc1, hc2⟩ : ∃ c : Nat, n.tmod 16 = c ∧ c < 16 := ⟨(n % 16).toNat, by rw [Int.tmod_eq_emod_of_nonneg n0]; omega, by omega⟩
      obtain ⟨z, hz1, hz2⟩ : ∃ z : Nat, n.tmod 20 = z ∧ z < 20 := ⟨(n % 20).toNat, by rw [Int.tmod_eq_emod_of_nonneg n0]; omega, by omega⟩
      have HIc := Lib.hid (fun (W : World) (hb : Below w.heap.size w W) (A : Option Addr) (hr : Rd W W.heap.size A .u8 (List.replicate z 0)) => (show Calls Tryd.prog 39 #[.agg #[.int .u8 3, .int .u8 (c : Int), .int .u16 0, .int .u16 0], .slice A z z] W fun e w' => ∃ v, e = .returned (.tuple #[v, .int .i64 0]) ∧ Own w' W.heap.size v (icmpL 3 c 0 0 (zerosL z)) ∧ Below W.heap.size W w' from by
        have hk : ∀ c : Nat, c < 16 → kind2 3 c = 0 := by decide
        have := icmpWrite_any 3 c 0 0 A z (zerosL z) W (by decide) (by omega) (by decide) (by decide) (by decide) (by decide) (Hs.out W hb) (hk c hc2) (by rw [zerosL_len]; omega) (zerosL_byt z) hr
        rw [zerosL_len] at this
        exact this))
      obtain ⟨il, hil⟩ : ∃ il, (icmpL 3 c 0 0 (zerosL z)).length = il := ⟨_, rfl⟩
      have hilb : il = 8 + z := by
        obtain ⟨x1, y1, e1⟩ := icmpL_eq 3 c 0 0 (zerosL z)
        rw [← hil, e1]; simp [zerosL_len]; omega
      obtain ⟨Q, hQ⟩ : ∃ Q, ipWriteL ⟨0, 0, false, false, 0, 0, 1, 0, 0, []⟩ (icmpL 3 c 0 0 (zerosL z)) = Q := ⟨_, rfl⟩
      have ho0 : IpH.Ok ⟨0, 0, false, false, 0, 0, 1, 0, 0, []⟩ := ⟨by decide, by decide, by decide, by decide, by decide, by decide, by decide, by decide, by decide, by decide, by decide, by decide, Byt.nil⟩
      have hR0 : IpH.Right ⟨0, 0, false, false, 0, 0, 1, 0, 0, []⟩ (icmpL 3 c 0 0 (zerosL z)).length := ⟨by decide, by decide, rfl, by decide, rfl, by rw [hil]; show 0 + _ ≤ 65515; omega, by rw [hil]; show (0 : Int) + (il : Int) ≤ 65515; omega, fun h => by simp at h⟩
      have HIw := Lib.hid (fun (W : World) (A : Option Addr) (ca : Nat) (hr : Rd W W.heap.size A .u8 (icmpL 3 c 0 0 (zerosL z))) => (show Calls Tryd.prog 36 #[.agg #[.int .u8 0, .int .u16 0, .bool false, .bool false, .int .i64 0, .int .u8 0, .int .u8 1, .int .u32 0, .int .u32 0, .slice none 0 0], .slice A il ca] W fun e w' => ∃ v, e = .returned (.tuple #[v, .int .i64 0]) ∧ Own w' W.heap.size v Q ∧ Below W.heap.size W w' from by
        have := ipWrite_any ⟨0, 0, false, false, 0, 0, 1, 0, 0, []⟩ none 0 A ca (icmpL 3 c 0 0 (zerosL z)) W ho0 hR0 Rd.nil hr
        rw [hil, hQ] at this
        exact this))
      have HQe := Lib.hid (show quoE Q = 104 by rw [← hQ]; exact quo_nest c z hc2 hz2 0 0)
      have hQb : Byt Q := by
        rw [← hQ]
        refine ipWriteL_byt ho0 hR0.len ?_
        exact icmpL_bytD (by decide) (by decide) (by omega) (by omega) (zerosL_byt z)
      have hQl : Q.length = 20 + il := by
        rw [← hQ, ipWriteL_len, hil]; simp
      have HQb := Lib.hid hQb
      have HQl := Lib.hid (show Q.length = 20 + il ∧ il = 8 + z ∧ z < 20 from ⟨hQl, hilb, hz2⟩)
      obtain ⟨ql, hql⟩ : ∃ ql, Q.length = ql := ⟨_, rfl⟩
      have HQq := Lib.hid hql
      have HE := Lib.hid (err1 HC.out HQe.out)
      have HIl := Lib.hid hil
      have hc8 : (8 : Int) ≤ cap := by have := HD8.out; have := HDl.out; omega
      have HG1 := Lib.hid (show (data.take 8).length = 8 from by rw [List.length_take]; have := HD8.out; have := HDl.out; omega)
      clear hcd hfd hil hilb hQ ho0 hR0 hQb hQl hql
      go_upto_region 12 with (first | (at_make; refine make_own rfl _ _ rfl w4.heap.size _ _ _ _ z z rfl rfl (by simp) (by simp) (by omega) (by omega) (by simp) ?_; intro w5 hown5 hb5 hlt5; have HI5 := Lib.hid (HIc.out w5 (HP4.out.1.trans (hb5.mono HP4.out.1.size)) _ hown5.rd)) | (go_at_call 39; refine HI5.out.mono ?_; rintro e w6 ⟨v6, rfl, ho6, hb6⟩; obtain ⟨g6, c6, rfl, _, _, hc6, _⟩ := ho6.form (by rw [HIl.out]; have := HQl.out; omega); rw [HIl.out] at hc6 ⊢) | fail)
      try dsimp only [Act.put]
      have hP6 := (HP4.out.below hb5).below hb6
      have HW7 := Lib.hid (HIw.out w6 (some ⟨g6, 0, none⟩) c6 ho6.rd)
      have HP6 := Lib.hid hP6
      clear hP6 hown5 hb5 hlt5 ho6 hb6 HIc HIw HI5 HP4
      go_upto_region 13 with (first | (go_at_call 36; refine HW7.out.mono ?_; rintro e w7 ⟨v7, rfl, ho7, hb7⟩; obtain ⟨g7, c7, rfl, _, _, hc7, _⟩ := ho7.form (by have := HQl.out; omega); rw [HQq.out] at hc7 ⊢) | fail)
      try dsimp only [Act.put]
      have HP7 := Lib.hid (HP6.out.below hb7)
      have HR7 := Lib.hid ho7.rd
      clear ho7 hb7 HW7 HP6
      go_wp2_with (first | (at_builtin; refine app_full rfl _ _ rfl g 0 8 (data.take 8) rfl HG1.out w7.heap.size (HP7.out.2.2.2.1.rd.take 8) (Nat.le_refl _) w7.heap.size (some ⟨g7, 0, none⟩) ql c7 Q rfl HQq.out.symm HR7.out (by have := HQl.out; have := HQq.out; omega) ?_; intro q8 w8 o8 l8) | fail)
      go_meet
      have hP8 := HP7.out.below l8
      have hq8 := o8.rd (Nat.le_trans HP7.out.1.size l8.size |> fun _ => l8.size)
      exact ⟨q8, 8 + ql, data.take 8 ++ Q, 19, rfl, rfl, by rw [List.length_append, HG1.out, HQq.out], by have := HQl.out; have := HQq.out; omega, (HDb.out.take _).append HQb.out, by decide, HE.out, Lib.hid ⟨hP8.1, hP8.2.1, hP8.2.2.1.rd, hq8.1, hq8.2⟩⟩
    · obtain rfl : kt = 3 := HKt.out.symm
      have hw : IntKind.u8.wrap (16 + n % 200) = 16 + n % 200 := by rw [IntKind.wrap_u8]; omega
      have ht : n.tmod 200 = n % 200 := Int.tmod_eq_emod_of_nonneg n0
      have hc1 := hcd 1 (by have := HD8.out; have := HDl.out; omega)
      have hd8 : (1 : Int) < dl := by have := HD8.out; omega
      clear hcd
      go_wp2_with fail
      go_meet
      exact ⟨(some ⟨g, 0, none⟩, cap), dl, data.set 1 (16 + n % 200), _, rfl, rfl, by rw [List.length_set]; exact HDl.out, by have := HD8.out; omega, HDb.out.set 1 (by omega) (by omega), by decide, err2 HC.out (by omega), Lib.hid (HP4.out.set 1 _).all⟩
    · obtain rfl : kt = 2 := HKt.out.symm
      obtain ⟨j, hj1, hj2⟩ : ∃ j : Nat, n.tmod 10 = j ∧ j < 10 := ⟨(n % 10).toNat, by rw [Int.tmod_eq_emod_of_nonneg n0]; omega, by omega⟩
      obtain ⟨t, ht⟩ : ∃ t, [1, 2, 6, 7, 9, 10, 15, 16, 19, 255].getD j 0 = t := ⟨_, rfl⟩
      have htk : t < 256 ∧ kindN t = 0 ∧ (#[.int .u8 1, .int .u8 2, .int .u8 6, .int .u8 7, .int .u8 9, .int .u8 10, .int .u8 15, .int .u8 16, .int .u8 19, .int .u8 255] : Array Value)[j]? = some (.int .u8 (t : Int)) := by
        rw [← ht]
        rcases (show j = 0 ∨ j = 1 ∨ j = 2 ∨ j = 3 ∨ j = 4 ∨ j = 5 ∨ j = 6 ∨ j = 7 ∨ j = 8 ∨ j = 9 by omega) with rfl | rfl | rfl | rfl | rfl | rfl | rfl | rfl | rfl | rfl <;> exact ⟨by decide, by decide, rfl⟩
      have hct := (Blk.new w4 5 #[.int .u8 1, .int .u8 2, .int .u8 6, .int .u8 7, .int .u8 9, .int .u8 10, .int .u8 15, .int .u8 16, .int .u8 19, .int .u8 255]).cell j
      rw [htk.2.2] at hct
      have hji : (j : Int) < 10 := by omega
      have HS := Lib.hid (HP4.out.below ((Below.refl w4.heap.size w4).alloc (Nat.le_refl _) (.cells #[.int .u8 1, .int .u8 2, .int .u8 6, .int .u8 7, .int .u8 9, .int .u8 10, .int .u8 15, .int .u8 16, .int .u8 19, .int .u8 255] 5)))
      have hc0 := HS.out.2.2.2.1.cell 0 (by have := HD8.out; have := HDl.out; omega)
      have hf0 := HS.out.2.2.2.1.free 0
      have HTk := Lib.hid htk
      have hd8 : (0 : Int) < dl := by have := HD8.out; omega
      clear hcd hfd htk ht
      go_wp2_with fail
      go_meet
      exact ⟨(some ⟨g, 0, none⟩, cap), dl, data.set 0 (t : Int), _, rfl, rfl, by rw [List.length_set]; exact HDl.out, by have := HD8.out; omega, HDb.out.set 0 (by omega) (by have := HTk.out.1; omega), by decide, err3 HC.out HTk.out.2.1, Lib.hid (HS.out.set 0 _).all⟩
    · obtain rfl : kt = 1 := HKt.out.symm
      obtain ⟨l, hl1, hl2⟩ : ∃ l : Nat, n.tmod 8 = l ∧ l < 8 := ⟨(n % 8).toNat, by rw [Int.tmod_eq_emod_of_nonneg n0]; omega, by omega⟩
      have hc4 := hcd 4 (by have := HD8.out; have := HDl.out; omega)
      have HS := Lib.hid (HP4.out.set 4 0)
      have hc5 := HS.out.2.2.2.1.cell 5 (by rw [List.length_set]; have := HD8.out; have := HDl.out; omega)
      have hf5 := HS.out.2.2.2.1.free 5
      have hc5o := hcd 5 (by have := HD8.out; have := HDl.out; omega)
      have hd8 : (8 : Int) ≤ dl := by have := HD8.out; omega
      have hd4 : (4 : Int) < dl := by omega
      have hd5 : (5 : Int) < dl := by omega
      clear hcd
      go_wp2_with fail
      go_meet
      exact ⟨(some ⟨g, 0, none⟩, cap), dl, (data.set 4 0).set 5 (l : Int), _, rfl, rfl, by rw [List.length_set, List.length_set]; exact HDl.out, by have := HD8.out; omega, (HDb.out.set 4 (by omega) (by omega)).set 5 (by omega) (by omega), by decide, err4 HC.out (by omega), Lib.hid (HS.out.set 5 _).all⟩
    · obtain rfl : kt = 2 := HKt.out.symm
      obtain ⟨l, hl1, hl2⟩ : ∃ l : Nat, n.tmod 8 = l ∧ l < 8 := ⟨(n % 8).toNat, by rw [Int.tmod_eq_emod_of_nonneg n0]; omega, by omega⟩
      have hlc : (l : Int) ≤ cap := by have := HD8.out; omega
      have hld : l ≤ dl := by have := HD8.out; omega
      have HK := Lib.hid (show l ≤ dl ∧ (data.take l).length = l from ⟨hld, by rw [List.length_take]; have := HDl.out; omega⟩)
      clear hcd hfd hld
      go_wp2_with fail
      go_meet
      exact ⟨(some ⟨g, 0, none⟩, cap), l, data.take l, _, rfl, rfl, HK.out.2, by omega, HDb.out.take _, by decide, err5 HC.out hl2, Lib.hid (HP4.out.pe HK.out.1)⟩
    · obtain rfl : kt = 1 := HKt.out.symm
      obtain ⟨l, hl1, hl2⟩ : ∃ l : Nat, n.tmod 2 = l ∧ (l = 0 ∨ l = 1) := ⟨(n % 2).toNat, by rw [Int.tmod_eq_emod_of_nonneg n0]; omega, by omega⟩
      obtain ⟨k, hk⟩ : ∃ k : Nat, 2 * l = k := ⟨_, rfl⟩
      have hw1 : IntKind.u8.wrap (2 * (l : Int)) = (k : Int) := by rw [IntKind.wrap_u8]; omega
      have hw2 : IntKind.u8.wrap ((k : Int) + 1) = ((k + 1 : Nat) : Int) := by rw [IntKind.wrap_u8]; omega
      have hk4 : k = 0 ∨ k = 2 := by omega
      have HK := Lib.hid hk4
      have hd8 : (8 : Int) ≤ dl := by have := HD8.out; omega
      have hcA := hcd k (by have := HD8.out; have := HDl.out; omega)
      have HS := Lib.hid (HP4.out.set k 0)
      have hcB := HS.out.2.2.2.1.cell (k + 1) (by rw [List.length_set]; have := HD8.out; have := HDl.out; omega)
      have hfB := HS.out.2.2.2.1.free (k + 1)
      have hcC := hcd (k + 1) (by have := HD8.out; have := HDl.out; omega)
      have hd4 : (k : Int) < dl := by omega
      have hd5 : ((k + 1 : Nat) : Int) < dl := by omega
      clear hcd hk4 hk hl2
      go_wp2_with fail
      go_meet
      exact ⟨(some ⟨g, 0, none⟩, cap), dl, (data.set k 0).set (k + 1) 0, _, rfl, rfl, by rw [List.length_set, List.length_set]; exact HDl.out, by have := HD8.out; omega, (HDb.out.set k (by omega) (by omega)).set (k + 1) (by omega) (by omega), by decide, err6 HC.out k HK.out, Lib.hid (HS.out.set (k + 1) _).all⟩
  case rest =>
    obtain ⟨q, k, d, r, rfl, rfl, hk, hk1, hdB, hr, he, hPE⟩ := hcut
    rename World => w5
    have HW5 : Hid (Calls Tryd.prog 36 #[.agg #[.int .u8 tos, .int .u16 ident, .bool df, .bool mf, .int .i64 off, .int .u8 ttl, .int .u8 proto, .int .u32 src, .int .u32 dst, .slice oA opts.length oc], .slice q.1 k q.2] w5 fun e w' => ∃ v, e = .returned (.tuple #[v, .int .i64 0]) ∧ Own w' w5.heap.size v (ipWriteL ⟨tos, ident, df, mf, off, ttl, proto, src, dst, opts⟩ d) ∧ Below w5.heap.size w5 w') := Lib.hid (by
      have := HW.out d k hk hk1 r hr he q.1 q.2 w5 hPE.out.2.2.1 hPE.out.2.2.2.1
      rw [hk] at this
      exact this)
    have HR5 := Lib.hid (HPk.out d k hk hk1 hdB r hr he)
    have bh5 := hPE.out.2.1
    have L5 := Lib.hid hPE.out.1
    have hln := ipWriteL_len ⟨tos, ident, df, mf, off, ttl, proto, src, dst, opts⟩ d
    have HLn := Lib.hid (show 0 < (ipWriteL ⟨tos, ident, df, mf, off, ttl, proto, src, dst, opts⟩ d).length from by omega)
    clear hln hPE HW HPk HB HC HDb HZs HP4 bx4 hdB he hk hk1 hr
    generalize ipWriteL ⟨tos, ident, df, mf, off, ttl, proto, src, dst, opts⟩ d = bs at *
    obtain ⟨L, hL⟩ : ∃ L, bs.length = L := ⟨_, rfl⟩
    have HL := Lib.hid hL
    clear hL
    go_wp2_with (first | ((with_reducible refine look_load ?_); refine wpList_load_row rfl _ _ rfl _ rfl _ _ _ _ bh5 Tryd.underlying67 rfl (by kernel_rfl) ?_) | fail)
    refine HW5.out.mono ?_
    rintro e w6 ⟨v, rfl, hown, l6⟩
    obtain ⟨g6, c6, rfl, _, _, hc6, _⟩ := hown.form HLn.out
    rw [HL.out] at hc6 ⊢
    have L6 := Lib.hid (L5.out.trans (l6.mono L5.out.size))
    have HR6 := Lib.hid (HR5.out (some ⟨g6, 0, none⟩) c6 L w6 HL.out hc6 hown.rd L6.out)
    clear hown l6 bh5 HW5 HR5 L5
    dsimp only [Facts.val, Facts.cells, Key.cells, Facts.zero, Key.zero, List.cons_append, List.nil_append] at HR6
    go_upto_region 24 with (first | (go_at_call 31; refine HR6.out.mono ?_; rintro e w7 ⟨rfl, l7⟩) | ((with_reducible refine look_store ?_); refine wpList_store_new rfl _ _ _ rfl _ _ rfl rfl _ _ rfl (by kernel_rfl) (by simp) (by simp [Value.oneCell']) ?_) | fail)
    try dsimp only [Act.put]
    refine wp_name1 ?_
    intro w8 hb8 hs8 bg
    have L8 := Lib.hid ((L6.out.trans (l7.mono L6.out.size)).trans (hb8.mono (Nat.le_trans L6.out.size l7.size)))
    have hzz := run_eq_facts Facts.zero Facts.zero w8
    rw [facts_eqB_refl] at hzz
    dsimp only [Facts.val, Facts.cells, Key.cells, Facts.zero, Key.zero, List.cons_append, List.nil_append] at hzz
    clear l7 hb8 hs8 L6 HR6
    go_wp2_with (first | ((with_reducible refine look_load ?_); refine wpList_load_g (by first | rfl | simp [Region.wanted, yielded]) _ _ rfl _ rfl _ _ _ _ bg Tryd.underlying27 rfl (by kernel_rfl) ?_) | fail)
    go_ret
    exact ⟨rfl, L8.out⟩
end Go.Proofs.YtebeekjcepjcnaaDoor
