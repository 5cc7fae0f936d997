/-
  bafflelaw11.PktFirst.
-/
import Derived.Lib.MinMax
import Derived.WalkKit
import Derived.WalkSpells
import Derived.WalkLawsBesides
import Derived.WalkSmall
import Derived.Lib.Hide
import Derived.Deep.AppendLies
import Derived.Maps.AppendAt
import Derived.Laws.AppendOwnNone
import Derived.Laws.CopyOwn
import Derived.OneCell
import Derived.Test.YtebeekjcepjcnaaDoorProg
import Derived.Lib.SliceRun
import Derived.RangeFuncNested
import Derived.RangeFuncBound
import Derived.RangeFuncCalls
import Derived.RangeFuncLeaves
import Derived.Shelf.Abstract
import Derived.OwnWalkIn
import Derived.TacticsInMore
import Derived.LoopNIn
import Derived.LoopIn
import Derived.Lib.AppendZeros
import Derived.BigRegion
import Derived.ChangeAlike
import Derived.Deep.RegionLaw
import Derived.Deep.DeepCutAuto
import Derived.Orders
import Derived.RegionTactic
import Derived.Still
import Derived.Deep.MidRow
import Derived.Deep.RegionHeld3
import Derived.MapKept
import Derived.RegionIn
import Derived.Laws.StructEq
import Derived.Laws.BitsAllLaws
import Derived.Deep.CutBlock
import Derived.Test.YtebeekjcepjcnaaDoorGBase
import Derived.Test.YtebeekjcepjcnaaDoorGBits
import Derived.Test.YtebeekjcepjcnaaDoorGCsum
import Derived.Test.YtebeekjcepjcnaaDoorGSum
import Derived.Test.YtebeekjcepjcnaaDoorGFix
import Derived.Test.YtebeekjcepjcnaaDoorGFacts
import Derived.Test.YtebeekjcepjcnaaDoorGPkt
import Derived.Test.YtebeekjcepjcnaaDoorGWalk
import Derived.Test.YtebeekjcepjcnaaDoorGStep
import Derived.Test.YtebeekjcepjcnaaDoorGTcpw
import Derived.Test.YtebeekjcepjcnaaDoorGUdpw
import Derived.Test.YtebeekjcepjcnaaDoorGData
import Derived.Test.YtebeekjcepjcnaaDoorGIprd
import Derived.Test.YtebeekjcepjcnaaDoorGFold
import Derived.Test.YtebeekjcepjcnaaDoorGFresh
import Derived.Test.YtebeekjcepjcnaaDoorGIpre
import Derived.Test.YtebeekjcepjcnaaDoorGIpread
import Derived.Test.YtebeekjcepjcnaaDoorGOptsa
import Derived.Test.YtebeekjcepjcnaaDoorGOptsb
import Derived.Test.YtebeekjcepjcnaaDoorGOptsc
import Derived.Test.YtebeekjcepjcnaaDoorGOptsd
import Derived.Test.YtebeekjcepjcnaaDoorGTcprd
import Derived.Test.YtebeekjcepjcnaaDoorGEq
import Derived.Test.YtebeekjcepjcnaaDoorGMade8
import Derived.Test.YtebeekjcepjcnaaDoorGIpback
import Derived.Test.YtebeekjcepjcnaaDoorGMade6p
import Derived.Test.YtebeekjcepjcnaaDoorGOptw
import Derived.Test.YtebeekjcepjcnaaDoorGMade10
import Derived.Test.YtebeekjcepjcnaaDoorGMade9
import Derived.Test.YtebeekjcepjcnaaDoorGPright
import Derived.Test.YtebeekjcepjcnaaDoorGBuilt
import Derived.Test.YtebeekjcepjcnaaDoorGUdprd
import Derived.Test.YtebeekjcepjcnaaDoorGIcmprd
import Derived.Test.YtebeekjcepjcnaaDoorGContt
import Derived.Test.YtebeekjcepjcnaaDoorGMade11p
import Derived.Test.YtebeekjcepjcnaaDoorGM11law
import Derived.Test.YtebeekjcepjcnaaDoorGFirstlaw
import Derived.Test.YtebeekjcepjcnaaDoorGRawlaw
import Derived.Test.YtebeekjcepjcnaaDoorGPktn
import Derived.Test.YtebeekjcepjcnaaDoorGQuotc
import Derived.Test.YtebeekjcepjcnaaDoorGPkto
import Derived.Test.YtebeekjcepjcnaaDoorGPkta
import Derived.Test.YtebeekjcepjcnaaDoorGPktr
import Derived.Test.YtebeekjcepjcnaaDoorGRip5
import Derived.Test.YtebeekjcepjcnaaDoorGPawake
import Derived.Test.YtebeekjcepjcnaaDoorGContq
import Derived.Test.YtebeekjcepjcnaaDoorGAnslaw
import Derived.Test.YtebeekjcepjcnaaDoorGMade6
import Derived.Test.YtebeekjcepjcnaaDoorGMade11
namespace Go.Proofs.YtebeekjcepjcnaaDoor
open Go.RowKit

theorem own_formK {W : World} {B n : Nat} {v : Value} {xs : List Int} (h : Own W B v xs) (hn : xs.length = n) (h0 : 0 < n) : ∃ g cap, v = .slice (some ⟨g, 0, none⟩) n cap ∧ B ≤ g ∧ g < W.heap.size ∧ n ≤ cap ∧ cap ≤ maxLen := by
  subst hn
  exact h.form h0
theorem own_zero (W : World) (B G : Nat) (hG : G = W.heap.size) (hB : B ≤ W.heap.size) : Own (W.alloc (.cells #[] 5)) B (.slice (some ⟨G, 0, none⟩) 0 0) [] := by
  subst hG
  exact Own.mk' (n := 0) (l := []) ⟨rfl, .inr ⟨W.heap.size, 0, _, rfl, hB, heap_alloc_new W _, by omega, by simp [maxLen], rfl, rfl⟩⟩ rfl rfl
theorem own_four (W : World) (B G : Nat) (hG : G = W.heap.size) (a b c e : Int) (hB : B ≤ W.heap.size) : Own (W.alloc (.cells #[.int .u8 a, .int .u8 b, .int .u8 c, .int .u8 e] 5)) B (.slice (some ⟨G, 0, none⟩) 4 4) [a, b, c, e] := by
  subst hG
  exact Own.mk' (n := 4) (l := U8 [a, b, c, e]) ⟨rfl, .inr ⟨W.heap.size, 4, _, rfl, hB, heap_alloc_new W _, by omega, by simp [maxLen], rfl, rfl⟩⟩ rfl rfl
theorem andNot22 : ∀ v : Fin 256, bits .andNot .u8 ((v : Nat) : Int) 22 = (((v : Nat) &&& 233 : Nat) : Int) := by decide +kernel
theorem and15 : ∀ v : Fin 256, (v : Nat) % 16 = 0 → bits .and .u8 ((v : Nat) : Int) 15 = 0 := by decide +kernel
theorem or16 : ∀ q : Fin 5, bits .or .u8 (16 * ((q : Nat) : Int)) 0 = 16 * ((q : Nat) : Int) := by decide +kernel
theorem orE0 : ∀ m : Fin 256, bits .or .u32 3758096384 ((m : Nat) : Int) = 3758096384 + ((m : Nat) : Int) := by decide +kernel
/-- The loop's blocks: the header, its options, the facts, the data's row. -/
structure PF (w : World) (B gH gF g cap dl : Nat) (FC : Array Value) (h : IpH) (A : Option Addr) (oc : Nat) (d : List Int) (W : World) : Prop where
  below : Below w.heap.size w W
  hdr : Blk W gH 67 #[.int .u8 h.tos, .int .u16 h.id, .bool h.df, .bool h.mf, .int .i64 h.off, .int .u8 h.ttl, .int .u8 h.proto, .int .u32 h.src, .int .u32 h.dst, .slice A h.opts.length oc]
  facts : Blk W gF 27 FC
  opts : Own W B (.slice A h.opts.length oc) h.opts
  data : Own W B (.slice (some ⟨g, 0, none⟩) dl cap) d
  og : (Value.slice A h.opts.length oc).ownBlock ≠ some g
  oh : (Value.slice A h.opts.length oc).ownBlock ≠ some gH
  hg : gH ≠ g
  fg : gF ≠ g
  hf : gH ≠ gF
  wg : w.heap.size ≤ g
  wh : w.heap.size ≤ gH
  dc : dl ≤ cap
section
variable {w W : World} {B gH gF g cap dl : Nat} {FC : Array Value} {h : IpH} {A : Option Addr} {oc : Nat} {d : List Int}
theorem PF.setD (p : PF w B gH gF g cap dl FC h A oc d W) (j : Nat) (x : Int) : PF w B gH gF g cap dl FC h A oc (d.set j x) (W.setCell ⟨g, j, none⟩ (.int .u8 x)) :=
  { p with below := p.below.setCell (p := ⟨g, j, none⟩) p.wg _, hdr := p.hdr.far (p := ⟨g, j, none⟩) p.hg _, facts := p.facts.far (p := ⟨g, j, none⟩) p.fg _, opts := p.opts.setCell_far (a := ⟨g, j, none⟩) p.og _, data := p.data.set j x }
theorem PF.setH (p : PF w B gH gF g cap dl FC h A oc d W) (h' : IpH) (j : Nat) (u : Value) (ho : h'.opts = h.opts) (e : (#[.int .u8 h.tos, .int .u16 h.id, .bool h.df, .bool h.mf, .int .i64 h.off, .int .u8 h.ttl, .int .u8 h.proto, .int .u32 h.src, .int .u32 h.dst, .slice A h.opts.length oc] : Array Value).setIfInBounds j u = #[.int .u8 h'.tos, .int .u16 h'.id, .bool h'.df, .bool h'.mf, .int .i64 h'.off, .int .u8 h'.ttl, .int .u8 h'.proto, .int .u32 h'.src, .int .u32 h'.dst, .slice A h'.opts.length oc]) : PF w B gH gF g cap dl FC h' A oc d (W.setCell ⟨gH, j, none⟩ u) :=
  { below := p.below.setCell (p := ⟨gH, j, none⟩) p.wh _, hdr := by rw [← e]; exact p.hdr.set j u, facts := p.facts.far (p := ⟨gH, j, none⟩) p.hf.symm _, opts := by rw [ho]; exact p.opts.setCell_far (a := ⟨gH, j, none⟩) p.oh _, data := p.data.setCell_far (a := ⟨gH, j, none⟩) (by intro q; exact p.hg (by injection q with q; exact q.symm)) _, og := by rw [ho]; exact p.og, oh := by rw [ho]; exact p.oh, hg := p.hg, fg := p.fg, hf := p.hf, wg := p.wg, wh := p.wh, dc := p.dc }
theorem PF.down {W' : World} (p : PF w B gH gF g cap dl FC h A oc d W) (l : Below W.heap.size W W') : PF w B gH gF g cap dl FC h A oc d W' :=
  { p with below := p.below.trans (l.mono p.below.size), hdr := p.hdr.below l p.hdr.lt, facts := p.facts.below l p.facts.lt, opts := p.opts.below l (Nat.le_refl _), data := p.data.below l (Nat.le_refl _) }
/-- Other options, in a row made since. -/
theorem PF.setO (p : PF w B gH gF g cap dl FC h A oc d W) {G n oc' : Nat} {o : List Int} (hn : o.length = n) (ho : Own W B (.slice (some ⟨G, 0, none⟩) n oc') o) (h1 : g < G) (h2 : gH < G) : PF w B gH gF g cap dl FC { h with opts := o } (some ⟨G, 0, none⟩) oc' d (W.setCell ⟨gH, 9, none⟩ (.slice (some ⟨G, 0, none⟩) n oc')) := by
  subst hn
  have e1 : (Value.slice (some ⟨G, 0, none⟩) o.length oc').ownBlock ≠ some g := by
    show some G ≠ some g
    intro q; injection q with q; omega
  have e2 : (Value.slice (some ⟨G, 0, none⟩) o.length oc').ownBlock ≠ some gH := by
    show some G ≠ some gH
    intro q; injection q with q; omega
  exact { below := p.below.setCell (p := ⟨gH, 9, none⟩) p.wh _, hdr := p.hdr.set 9 (.slice (some ⟨G, 0, none⟩) o.length oc'), facts := p.facts.far (p := ⟨gH, 9, none⟩) p.hf.symm _, opts := ho.setCell_far (a := ⟨gH, 9, none⟩) e2 _, data := p.data.setCell_far (a := ⟨gH, 9, none⟩) (by intro q; exact p.hg (by injection q with q; exact q.symm)) _, og := e1, oh := e2, hg := p.hg, fg := p.fg, hf := p.hf, wg := p.wg, wh := p.wh, dc := p.dc }
end
theorem ver2 : ∀ v : Fin 256, ∀ j : Fin 4, bits .or .u8 (bits .and .u8 ((v : Nat) : Int) 15) ([0, 80, 96, 240].getD j 0) / 16 ≠ 4 ∧ 0 ≤ bits .or .u8 (bits .and .u8 ((v : Nat) : Int) 15) ([0, 80, 96, 240].getD j 0) ∧ bits .or .u8 (bits .and .u8 ((v : Nat) : Int) 15) ([0, 80, 96, 240].getD j 0) < 256 := by decide +kernel
theorem or64 : ∀ q : Fin 5, bits .or .u8 64 ((q : Nat) : Int) = 64 + ((q : Nat) : Int) := by decide +kernel
theorem or128 : ∀ v : Fin 256, 128 ≤ bits .or .u8 ((v : Nat) : Int) 128 ∧ bits .or .u8 ((v : Nat) : Int) 128 < 256 := by decide +kernel
theorem xor2 : ∀ v : Fin 256, ∀ k : Fin 8, bits .xor .u8 ((v : Nat) : Int) ((2 ^ (k : Nat) : Nat) : Int) ≠ ((v : Nat) : Int) ∧ 0 ≤ bits .xor .u8 ((v : Nat) : Int) ((2 ^ (k : Nat) : Nat) : Int) ∧ bits .xor .u8 ((v : Nat) : Int) ((2 ^ (k : Nat) : Nat) : Int) < 256 := by decide +kernel
/-- What is kept while the packet's bytes are damaged. -/
structure PW (w : World) (gF : Nat) (FC : Array Value) (B g c L : Nat) (bs : List Int) (W : World) : Prop where
  below : Below w.heap.size w W
  facts : Blk W gF 27 FC
  own : Own W B (.slice (some ⟨g, 0, none⟩) L c) bs
  fg : gF ≠ g
  wg : w.heap.size ≤ g
  lc : L ≤ c
/-- The packet's bytes and the facts, where the ways meet. -/
def PX (w : World) (gF : Nat) (FC : Array Value) (q : Option Addr × Nat) (n : Nat) (bs : List Int) (W : World) : Prop := Below w.heap.size w W ∧ Blk W gF 27 FC ∧ Rd W W.heap.size q.1 .u8 bs ∧ n ≤ q.2
section
variable {w W : World} {gF : Nat} {FC : Array Value} {B g c L : Nat} {bs : List Int}
theorem PW.set (p : PW w gF FC B g c L bs W) (j : Nat) (x : Int) : PW w gF FC B g c L (bs.set j x) (W.setCell ⟨g, j, none⟩ (.int .u8 x)) :=
  { p with below := p.below.setCell (p := ⟨g, j, none⟩) p.wg _, facts := p.facts.far (p := ⟨g, j, none⟩) p.fg _, own := p.own.set j x }
theorem PW.down {W' : World} (p : PW w gF FC B g c L bs W) (l : Below W.heap.size W W') : PW w gF FC B g c L bs W' :=
  { p with below := p.below.trans (l.mono p.below.size), facts := p.facts.below l p.facts.lt, own := p.own.below l (Nat.le_refl _) }
theorem PW.px (p : PW w gF FC B g c L bs W) : PX w gF FC (some ⟨g, 0, none⟩, c) L bs W := ⟨p.below, p.facts, p.own.rd, p.lc⟩
theorem PW.cut (p : PW w gF FC B g c L bs W) {m : Nat} (hm : m ≤ L) : PX w gF FC (some ⟨g, 0, none⟩, c) m (bs.take m) W := ⟨p.below, p.facts, p.own.rd.take m, Nat.le_trans hm p.lc⟩
end
set_option maxRecDepth 100000 in
set_option maxHeartbeats 16000000 in
theorem pktFirst_any (x : Sm) (hx : x.Ok) (defs way n : Int) (w : World) (hA : SmAt w w.heap.size x) (_d0 : 0 ≤ defs) (_d1 : defs < 65536) (a0 : 0 ≤ way) (_a1 : way < 256) (n0 : 0 ≤ n) (n1 : n < 256) (hT : Tabs w) (hs : SortsAt w) (hm : NamesAt w) :
    Calls Tryd.prog 12 #[x.val, .int .u16 defs, .int .u8 way, .int .u8 n] w fun e W => e = .returned (.bool true) ∧ Below w.heap.size w W := by
  have HAw := Lib.hid (fun (W : World) (hb : Below w.heap.size w W) => awakeP_any W (hs.below hb (Nat.le_refl _)) (hm.below hb (Nat.le_refl _)))
  obtain ⟨i, hi1, hi2⟩ : ∃ i : Nat, way.tmod 7 = i ∧ i < 7 := ⟨(way % 7).toNat, by rw [Int.tmod_eq_emod_of_nonneg a0]; omega, by omega⟩
  have hxo : Sm.Ok { x with kind := 0 } := { hx with kind := ⟨(by decide : (0 : Int) ≤ 0), (by decide : (0 : Int) < 256)⟩ }
  have HM := Lib.hid (fun (W : World) (hb : Below w.heap.size w W) => made11_any { x with kind := 0 } hxo W (by have h := (hA.below hb (Nat.le_refl _)).more hb.size; exact ⟨h.os, h.tb, h.ub, h.ib⟩) (hT.below hb (Nat.le_refl _)) (hs.below hb (Nat.le_refl _)))
  have Hs := Lib.hid (fun (W : World) (hb : Below w.heap.size w W) => hs.below hb (Nat.le_refl _))
  have HLaw := Lib.hid (fun (os : List OE) (data : List Int) (f : Facts) (hos : OsOk os) (hC : Cont ((0 : Int) % 4).toNat data f) => m11_law hxo hos hC (by decide))
  have hii : (i : Int) < 7 := by omega
  have HIi := Lib.hid hi2
  have HXt := Lib.hid hx.tos
  clear hA hT hs hm hx hxo hi2
  unfold Made11Post at HM
  dsimp only [Sm.val, Sm.cells] at HM
  dsimp only [Sm.val, Sm.cells]
  go_enter Tryd.func12, Tryd.ntmps12
  go_upto_region 1 with fail
  refine wp_name1 ?_
  intro w1 hb1 hs1 bx
  have L1 := Lib.hid hb1
  clear hb1 hs1
  go_wp2_with fail
  refine (HAw.out w1 L1.out).mono ?_
  rintro e w2 ⟨rfl, l2⟩
  have bx2 := bx.below l2 bx.lt
  have L2 := Lib.hid (L1.out.trans (l2.mono L1.out.size))
  clear l2 bx HAw L1
  have hcx := bx2.cell 0
  have hfx := bx2.frozen 0
  go_upto_region 4 with fail
  try dsimp only [Act.put]
  have bx3 : Blk (w2.setCell ⟨w.heap.size, 0, none⟩ (.int .u8 0)) w.heap.size 65 #[.int .u8 0, .int .u8 x.tos, .int .u8 x.ttl, .int .u16 x.id, .bool x.df, .int .u32 x.src, .int .u32 x.dst, .slice x.oA x.on x.oc, .int .u8 x.h0, .int .u8 x.h1, .int .u8 x.h2, .int .u8 x.h3, .int .u8 x.h4, .int .u8 x.h5, .int .u8 x.h6, .int .u8 x.h7, .int .u8 x.h8, .int .u8 x.h9, .int .u8 x.h10, .int .u8 x.h11, .int .u8 x.h12, .int .u8 x.h13, .int .u8 x.h14, .int .u8 x.h15, .int .u8 x.tf, .int .u8 x.tm, .int .u8 x.tw, .int .u32 x.ts, .int .u32 x.td, .slice x.tA x.tn x.tc, .int .u16 x.ufr, .int .u16 x.uto, .bool x.uck, .int .u32 x.us, .int .u32 x.ud, .slice x.uA x.un x.uc, .int .u8 x.ity, .int .u8 x.ico, .int .u16 x.iid, .int .u16 x.isq, .slice x.iA x.inn x.ic] := bx2.set 0 (.int .u8 0)
  have hL3 : Below w.heap.size w (w2.setCell ⟨w.heap.size, 0, none⟩ (.int .u8 0)) := L2.out.setCell (p := ⟨w.heap.size, 0, none⟩) (Nat.le_refl _) _
  clear hcx hfx bx2 L2
  revert bx3 hL3
  generalize w2.setCell ⟨w.heap.size, 0, none⟩ (.int .u8 0) = v2
  intro bx3 hL3
  have L2 := Lib.hid hL3
  clear hL3
  go_wp2_with (first | ((with_reducible refine look_load ?_); refine wpList_load_row rfl _ _ rfl _ rfl _ _ _ _ bx3 Tryd.underlying65 rfl (by kernel_rfl) ?_) | fail)
  refine (HM.out v2 L2.out).mono ?_
  rintro e w3 ⟨os, oA, oc, p, data, f, rfl, ho, hd, hne, hos, hC, _, l3⟩
  have HL := Lib.hid (HLaw.out os data f hos hC)
  have L3 := Lib.hid (L2.out.trans (l3.mono L2.out.size))
  have hbx := bx3.below l3 bx3.lt
  have Hg0 := Lib.hid (show w.heap.size < v2.heap.size from bx3.lt)
  have HD8 := Lib.hid hC.len
  have HDb := Lib.hid hC.byt
  have HFb : Hid (FBase (m11H { x with kind := 0 } f.key.proto os) data) := Lib.hid ⟨HL.out.ok, HL.out.reason, hC.proto, by
    have h := hC.data
    rw [show f.key.proto = 6 from hC.proto] at h
    exact h⟩
  have HBk := Lib.hid (HL.out.back [])
  have HFo := Lib.hid HL.out.fok
  have HOr := Lib.hid (show (m11H { x with kind := 0 } f.key.proto os).opts.length ≤ 40 ∧ (m11H { x with kind := 0 } f.key.proto os).opts.length % 4 = 0 from ⟨HL.out.right.len, HL.out.right.len4⟩)
  have HOk := Lib.hid HL.out.ok
  have HOl := Lib.hid HL.out.optl
  have HO := Lib.hid ho
  have HNe := Lib.hid hne
  obtain ⟨g, cap, hpe, hg0, hg1, hcp, hcm⟩ := hd.form (by have := HD8.out; omega)
  have hp1 : p = (some ⟨g, 0, none⟩, cap) := by
    simp only [Value.slice.injEq] at hpe
    exact Prod.ext hpe.1 hpe.2.2
  subst hp1
  clear hpe l3 HLaw HM bx3 HL hos hC ho hne
  have HD := Lib.hid hd
  dsimp only at HD HNe
  generalize hdl : data.length = dl at *
  have HDl := Lib.hid hdl
  clear hdl hd
  generalize m11F { x with kind := 0 } f = F at *
  generalize m11H { x with kind := 0 } f.key.proto os = h at *
  generalize hop : h.opts.length = ol at *
  obtain ⟨tos, ident, df, mf, off, ttl, proto, src, dst, opts⟩ := h
  dsimp only at hop
  subst hop
  obtain ⟨⟨k0, k1, k2, k3, k4⟩, f1, f2, f3, f4, f5, f6, f7, f8, ⟨z0, z1, z2, z3, z4⟩, f9⟩ := F
  dsimp only [IpH.val, Facts.val, Facts.cells, Key.cells, List.cons_append, List.nil_append]
  obtain ⟨q1, q2, q3⟩ := two_blocks w3 67 27 #[.int .u8 0, .int .u16 0, .bool false, .bool false, .int .i64 0, .int .u8 0, .int .u8 0, .int .u32 0, .int .u32 0, .slice none 0 0] #[.int .u8 0, .int .u32 0, .int .u32 0, .int .u16 0, .int .u16 0, .int .u8 0, .int .u8 0, .int .u8 0, .int .u8 0, .int .u32 0, .int .u32 0, .int .i64 0, .int .i64 0, .int .u8 0, .int .u32 0, .int .u32 0, .int .u16 0, .int .u16 0, .int .u8 0] #[.int .u8 tos, .int .u16 ident, .bool df, .bool mf, .int .i64 off, .int .u8 ttl, .int .u8 proto, .int .u32 src, .int .u32 dst, .slice oA opts.length oc] #[.int .u8 k0, .int .u32 k1, .int .u32 k2, .int .u16 k3, .int .u16 k4, .int .u8 f1, .int .u8 f2, .int .u8 f3, .int .u8 f4, .int .u32 f5, .int .u32 f6, .int .i64 f7, .int .i64 f8, .int .u8 z0, .int .u32 z1, .int .u32 z2, .int .u16 z3, .int .u16 z4, .int .u8 f9]
  go_upto_region 5 with (first | ((with_reducible refine look_store ?_); refine wpList_store_row rfl _ _ _ rfl _ _ rfl rfl _ _ q1 (by kernel_rfl) (by simp) (by simp [Value.oneCell']) ?_) | ((with_reducible refine look_store ?_); refine wpList_store_row rfl _ _ _ rfl _ _ rfl rfl _ _ q2 (by kernel_rfl) (by simp) (by simp [Value.oneCell']) ?_) | fail)
  try dsimp only [Act.put]
  clear q1 q2 q3
  refine wp_two ?_
  intro w4 hb4 hs4 bh bf
  have L4 := Lib.hid (L3.out.trans (hb4.mono L3.out.size))
  have bx4 := hbx.below hb4 hbx.lt
  have HOh := fun (v : Nat) (h : (Value.slice oA opts.length oc).ownBlock = some v) => HO.out.lt h
  have HP4 : Hid (PF w v2.heap.size w3.heap.size (w3.heap.size + 1) g cap dl #[.int .u8 k0, .int .u32 k1, .int .u32 k2, .int .u16 k3, .int .u16 k4, .int .u8 f1, .int .u8 f2, .int .u8 f3, .int .u8 f4, .int .u32 f5, .int .u32 f6, .int .i64 f7, .int .i64 f8, .int .u8 z0, .int .u32 z1, .int .u32 z2, .int .u16 z3, .int .u16 z4, .int .u8 f9] ⟨tos, ident, df, mf, off, ttl, proto, src, dst, opts⟩ oA oc data w4) := Lib.hid ⟨L4.out, bh, bf, HO.out.below hb4 (Nat.le_refl _), HD.out.below hb4 (Nat.le_refl _), fun h => HNe.out g h rfl, fun h => absurd (HOh _ h).2 (by omega), by omega, by omega, by omega, by have := Hg0.out; omega, L3.out.size, hcp⟩
  have HGe := Lib.hid (show v2.heap.size ≤ w3.heap.size from by have := HD.out.lt (g := g) rfl; omega)
  have HJ0 : Hid (∃ h A oc d, FInv ⟨tos, ident, df, mf, off, ttl, proto, src, dst, opts⟩ data 9 h d 0 ∧ PF w v2.heap.size w3.heap.size (w3.heap.size + 1) g cap dl #[.int .u8 k0, .int .u32 k1, .int .u32 k2, .int .u16 k3, .int .u16 k4, .int .u8 f1, .int .u8 f2, .int .u8 f3, .int .u8 f4, .int .u32 f5, .int .u32 f6, .int .i64 f7, .int .i64 f8, .int .u8 z0, .int .u32 z1, .int .u32 z2, .int .u16 z3, .int .u16 z4, .int .u8 f9] h A oc d w4) := Lib.hid ⟨_, oA, oc, data, HFb.out.start HOr.out HDb.out, HP4.out⟩
  clear hb4 hs4 bh bf hbx L3 L2 L4 HNe HO HD Hg0 hg0 hg1 HP4 HOh
  go_wp2_with fail
  go_loopw [12, 13] (fun s12 s13 W => ∃ (k : Nat) (z r : Int), k ≤ 9 ∧ s12 = .int .u8 r ∧ s13 = .int .i64 z ∧ z = (k : Int) - 1 ∧ Hid (∃ h A oc d, FInv ⟨tos, ident, df, mf, off, ttl, proto, src, dst, opts⟩ data k h d r ∧ PF w v2.heap.size w3.heap.size (w3.heap.size + 1) g cap dl #[.int .u8 k0, .int .u32 k1, .int .u32 k2, .int .u16 k3, .int .u16 k4, .int .u8 f1, .int .u8 f2, .int .u8 f3, .int .u8 f4, .int .u32 f5, .int .u32 f6, .int .i64 f7, .int .i64 f8, .int .u8 z0, .int .u32 z1, .int .u32 z2, .int .u16 z3, .int .u16 z4, .int .u8 f9] h A oc d W)) (fun _ iv _ => (intOf iv + 1).toNat)
  case atStart => exact ⟨9, 8, 0, by omega, rfl, rfl, rfl, HJ0⟩
  case round =>
    obtain ⟨k, z, r, hk, rfl, rfl, hz, hJ⟩ := hrel
    rename World => wo
    clear HJ0
    rcases (show k = 0 ∨ k = 1 ∨ k = 2 ∨ k = 3 ∨ k = 4 ∨ k = 5 ∨ k = 6 ∨ k = 7 ∨ k = 8 ∨ k = 9 by omega) with rfl | rfl | rfl | rfl | rfl | rfl | rfl | rfl | rfl | rfl
    · obtain rfl : z = -1 := by omega
      clear hz
      obtain ⟨h, A, o2, d, hF, hP⟩ := hJ.out
      obtain ⟨hR, hpR, hpF⟩ := hF.read (by have := HDl.out; have := HD8.out; omega)
      have HW : Hid (Calls Tryd.prog 36 #[.agg #[.int .u8 h.tos, .int .u16 h.id, .bool h.df, .bool h.mf, .int .i64 h.off, .int .u8 h.ttl, .int .u8 h.proto, .int .u32 h.src, .int .u32 h.dst, .slice A h.opts.length o2], .slice (some ⟨g, 0, none⟩) dl cap] wo fun e w' => ∃ v, e = .returned (.tuple #[v, .int .i64 0]) ∧ Own w' wo.heap.size v (ipWriteL h d) ∧ Below wo.heap.size wo w') := Lib.hid (by
        have := ipWrite_any h A o2 (some ⟨g, 0, none⟩) cap d wo hF.ok hR hP.opts.rd hP.data.rd
        rw [hF.dl.trans HDl.out] at this
        exact this)
      have bh := hP.hdr
      have bf0 := hP.facts
      have L5 := Lib.hid hP.below
      have hln := ipWriteL_len h d
      obtain ⟨ol, hol⟩ : ∃ ol, h.opts.length = ol := ⟨_, rfl⟩
      have hdd := hF.dl.trans HDl.out
      obtain ⟨sz, hsz⟩ : ∃ sz, 20 + ol = sz := ⟨_, rfl⟩
      have HB0 := ip_back h d.length d hF.ok hR
      have HB : IpBack h d.length (ipWriteL h d) := HB0
      have hbb : Byt (ipWriteL h d) := ipWriteL_byt hF.ok hR.len hF.byt
      have H4 := Lib.hid (fun (x : Nat) (hx : x < sz) => raw4 HB (by rw [hln]; omega) (x := x) (by omega))
      have H5 := Lib.hid (fun (p : Nat) (hp : p = 10 ∨ p = 11) (v : Int) (v0 : 0 ≤ v) (v1 : v < 256) (hv : v ≠ (ipWriteL h d).getD p 0) => raw5 HB hbb (by rw [hln]; omega) hp v0 v1 hv)
      have H6 := Lib.hid (fun (v : Int) (v0 : 128 ≤ v) (v1 : v < 256) => raw6 HB hbb (by rw [hln]; omega) v0 v1 rfl)
      have HZr : Hid (r = 0 → pktF (ipWriteL h d) = ⟨⟨k0, k1, k2, k3, k4⟩, f1, f2, f3, f4, f5, f6, f7, f8, ⟨z0, z1, z2, z3, z4⟩, f9⟩) := Lib.hid (fun e => by
        obtain ⟨e1, e2⟩ := hF.zero e
        have := HBk.out.2
        rw [List.append_nil] at this
        rw [e1, e2]
        exact this)
      have HRb := Lib.hid hF.rb
      have hop := hF.ol.1
      have hsz2 : IntKind.i64.wrap (20 + (ol : Int)) = (sz : Int) := by rw [IntKind.wrap_i64]; omega
      have hsz3 : IntKind.u8.wrap (sz : Int) = (sz : Int) := by rw [IntKind.wrap_u8]; omega
      have hfg : w3.heap.size + 1 < wo.heap.size := hP.facts.lt
      rw [hol] at hln H6 bh HW
      rw [hsz] at hln H6
      have HN := Lib.hid (show 20 ≤ sz ∧ sz ≤ 60 ∧ 8 ≤ dl ∧ dl ≤ 1000 ∧ w3.heap.size + 1 < wo.heap.size ∧ w.heap.size ≤ wo.heap.size from ⟨by omega, by omega, by have := HD8.out; have := HDl.out; omega, by have := HD8.out; have := HDl.out; omega, hfg, hP.below.size⟩)
      clear hF hP hR hJ HB HB0 hop hfg
      rw [hdd] at hln
      generalize ipWriteL h d = bs at *
      obtain ⟨L, hL⟩ : ∃ L, bs.length = L := ⟨_, rfl⟩
      have HL := Lib.hid hL
      have HLs := Lib.hid (show L = sz + dl from by omega)
      have HBy := Lib.hid hbb
      have HpR := Lib.hid hpR
      have HpF := Lib.hid hpF
      clear hL hln hbb hpR hpF hdd hsz hol
      go_wp2_with (first | ((with_reducible refine look_load ?_); refine wpList_load_row rfl _ _ rfl _ rfl _ _ _ _ bh Tryd.underlying67 rfl (by kernel_rfl) ?_) | fail)
      refine HW.out.mono ?_
      rintro e w6 ⟨v, rfl, hown, l6⟩
      obtain ⟨g6, c6, rfl, hg0, _, hc6, _⟩ := hown.form (by have := HN.out; have := HL.out; have := HLs.out; omega)
      rw [HL.out] at hc6 hown ⊢
      have bh6 := bh.below l6 bh.lt
      have HP6 : Hid (PW w (w3.heap.size + 1) #[.int .u8 k0, .int .u32 k1, .int .u32 k2, .int .u16 k3, .int .u16 k4, .int .u8 f1, .int .u8 f2, .int .u8 f3, .int .u8 f4, .int .u32 f5, .int .u32 f6, .int .i64 f7, .int .i64 f8, .int .u8 z0, .int .u32 z1, .int .u32 z2, .int .u16 z3, .int .u16 z4, .int .u8 f9] wo.heap.size g6 c6 L bs w6) := Lib.hid ⟨L5.out.trans (l6.mono L5.out.size), bf0.below l6 bf0.lt, hown, by have := HN.out; omega, by have := HN.out; omega, hc6⟩
      have hcH := bh6.cell 9
      clear hown l6 bh bf0 L5 HW hg0
      go_upto_block 3 with fail
      try dsimp only [Act.put]
      go_cut [12, 14] (fun s12 s14 wx => ∃ (q : Option Addr × Nat) (n : Nat) (xs : List Int) (u : Int), s12 = .int .u8 u ∧ s14 = .slice q.1 n q.2 ∧ xs.length = n ∧ n ≤ 2000 ∧ Byt xs ∧ 0 ≤ u ∧ u < 256 ∧ pktR xs = u ∧ (u ≠ 0 → pktF xs = Facts.zero) ∧ (u = 0 → pktF xs = ⟨⟨k0, k1, k2, k3, k4⟩, f1, f2, f3, f4, f5, f6, f7, f8, ⟨z0, z1, z2, z3, z4⟩, f9⟩) ∧ Hid (PX w (w3.heap.size + 1) #[.int .u8 k0, .int .u32 k1, .int .u32 k2, .int .u16 k3, .int .u16 k4, .int .u8 f1, .int .u8 f2, .int .u8 f3, .int .u8 f4, .int .u32 f5, .int .u32 f6, .int .i64 f7, .int .i64 f8, .int .u8 z0, .int .u32 z1, .int .u32 z2, .int .u16 z3, .int .u16 z4, .int .u8 f9] q n xs wx))
      case first =>
        have hi2 := HIi.out
        have hcd := HP6.out.own.cell
        have hfd := HP6.out.own.free
        clear hcH bh6
        rcases (show i = 0 ∨ i = 1 ∨ i = 2 ∨ i = 3 ∨ i = 4 ∨ i = 5 ∨ i = 6 by omega) with rfl | rfl | rfl | rfl | rfl | rfl | rfl
        · clear hcd hfd
          go_wp2_with fail
          go_meet
          exact ⟨(some ⟨g6, 0, none⟩, c6), L, bs, r, rfl, rfl, HL.out, by have := HN.out; have := HLs.out; omega, HBy.out, by have := HRb.out; omega, by have := HRb.out; omega, HpR.out, HpF.out, HZr.out, Lib.hid HP6.out.px⟩
        · obtain ⟨m, hm1, hm2⟩ : ∃ m : Nat, n.tmod 20 = m ∧ m < 20 := ⟨(n % 20).toNat, by rw [Int.tmod_eq_emod_of_nonneg n0]; omega, by omega⟩
          have hmc : (m : Int) ≤ c6 := by have := HN.out; have := HLs.out; omega
          have HM := Lib.hid hm2
          clear hcd hfd hm2
          go_wp2_with fail
          go_meet
          exact ⟨(some ⟨g6, 0, none⟩, c6), m, bs.take m, 1, rfl, rfl, (by rw [List.length_take]; have := HN.out; have := HLs.out; have := HL.out; have := HM.out; omega), by have := HN.out; have := HM.out; omega, HBy.out.take _, by decide, by decide, (raw1 (b := bs) HM.out).1, fun _ => (raw1 (b := bs) HM.out).2, fun e => absurd e (by decide), Lib.hid (HP6.out.cut (by have := HN.out; have := HLs.out; have := HM.out; omega))⟩
        · obtain ⟨b0, hb0, hb2⟩ : ∃ v : Nat, bs.getD 0 0 = (v : Int) ∧ v < 256 := ⟨(bs.getD 0 0).toNat, by have := HBy.out.at_ 0; omega, by have := HBy.out.at_ 0; omega⟩
          have hc0 := hcd 0 (by have := HN.out; have := HLs.out; have := HL.out; omega)
          rw [hb0] at hc0
          have hf0 := hfd 0
          have hL0 : (0 : Int) < L := by have := HN.out; have := HLs.out; omega
          obtain ⟨j, hj1, hj2⟩ : ∃ j : Nat, n.tmod 4 = j ∧ j < 4 := ⟨(n % 4).toNat, by rw [Int.tmod_eq_emod_of_nonneg n0]; omega, by omega⟩
          obtain ⟨u, hu⟩ : ∃ u, bits .or .u8 (bits .and .u8 ((b0 : Nat) : Int) 15) ([0, 80, 96, 240].getD j 0) = u := ⟨_, rfl⟩
          have hv := ver2 ⟨b0, hb2⟩ ⟨j, hj2⟩
          dsimp only at hv
          rw [hu] at hv
          obtain ⟨K, hK, hK2⟩ : ∃ K : Int, (#[.int .u8 0, .int .u8 80, .int .u8 96, .int .u8 240] : Array Value)[j]? = some (.int .u8 K) ∧ [0, 80, 96, 240].getD j 0 = K := by
            rcases (show j = 0 ∨ j = 1 ∨ j = 2 ∨ j = 3 by omega) with rfl | rfl | rfl | rfl
            · exact ⟨0, rfl, rfl⟩
            · exact ⟨80, rfl, rfl⟩
            · exact ⟨96, rfl, rfl⟩
            · exact ⟨240, rfl, rfl⟩
          rw [hK2] at hu
          have hct := (Blk.new w6 5 #[.int .u8 0, .int .u8 80, .int .u8 96, .int .u8 240]).cell j
          rw [hK] at hct
          have HS := Lib.hid (HP6.out.down ((Below.refl w6.heap.size w6).alloc (Nat.le_refl _) (.cells #[.int .u8 0, .int .u8 80, .int .u8 96, .int .u8 240] 5)))
          have hcA := HS.out.own.cell 0 (by have := HN.out; have := HLs.out; have := HL.out; omega)
          rw [hb0] at hcA
          have hfA := HS.out.own.free 0
          have HQv := Lib.hid hv
          have hji : (j : Int) < 4 := by omega
          clear hcd hfd hb2 hb0 hv hK hK2
          go_wp2_with fail
          go_region
          go_wp2_with fail
          go_wp2_with fail
          go_meet
          exact ⟨(some ⟨g6, 0, none⟩, c6), L, bs.set 0 u, 2, rfl, rfl, (by rw [List.length_set]; exact HL.out), by have := HN.out; have := HLs.out; omega, HBy.out.set 0 HQv.out.2.1 HQv.out.2.2, by decide, by decide, (raw2 (b := bs) (by have := HN.out; have := HLs.out; have := HL.out; omega) HQv.out.1).1, fun _ => (raw2 (b := bs) (by have := HN.out; have := HLs.out; have := HL.out; omega) HQv.out.1).2, fun e => absurd e (by decide), Lib.hid ((HP6.out.set 0 u).down ((Below.refl _ _).alloc (Nat.le_refl _) _).drew).px⟩
        · obtain ⟨b0, hb0, hb2⟩ : ∃ v : Nat, bs.getD 0 0 = (v : Int) ∧ v < 256 := ⟨(bs.getD 0 0).toNat, by have := HBy.out.at_ 0; omega, by have := HBy.out.at_ 0; omega⟩
          have hc0 := hcd 0 (by have := HN.out; have := HLs.out; have := HL.out; omega)
          rw [hb0] at hc0
          have hf0 := hfd 0
          have hL0 : (0 : Int) < L := by have := HN.out; have := HLs.out; omega
          obtain ⟨j, hj1, hj2⟩ : ∃ j : Nat, n.tmod 5 = j ∧ j < 5 := ⟨(n % 5).toNat, by rw [Int.tmod_eq_emod_of_nonneg n0]; omega, by omega⟩
          have hor := or64 ⟨j, hj2⟩
          dsimp only at hor
          have HJ := Lib.hid hj2
          clear hcd hfd hb2 hb0 hj2
          go_wp2_with fail
          go_meet
          exact ⟨(some ⟨g6, 0, none⟩, c6), L, bs.set 0 (64 + (j : Int)), 3, rfl, rfl, (by rw [List.length_set]; exact HL.out), by have := HN.out; have := HLs.out; omega, HBy.out.set 0 (by omega) (by have := HJ.out; omega), by decide, by decide, (raw3 (b := bs) (by have := HN.out; have := HLs.out; have := HL.out; omega) HJ.out).1, fun _ => (raw3 (b := bs) (by have := HN.out; have := HLs.out; have := HL.out; omega) HJ.out).2, fun e => absurd e (by decide), Lib.hid (HP6.out.set 0 _).px⟩
        · obtain ⟨x, hx1, hx2⟩ : ∃ x : Nat, n.tmod (sz : Int) = x ∧ x < sz := ⟨(n % (sz : Int)).toNat, by rw [Int.tmod_eq_emod_of_nonneg n0]; have := Int.emod_nonneg n (show (sz : Int) ≠ 0 by have := HN.out; omega); omega, by have := Int.emod_nonneg n (show (sz : Int) ≠ 0 by have := HN.out; omega); have := Int.emod_lt_of_pos n (show 0 < (sz : Int) by have := HN.out; omega); omega⟩
          have hz0 : ((sz : Int) == 0) = false := by have := HN.out; simp; omega
          have hz1 : ¬ sz = 0 := by have := HN.out; omega
          have hc2 := hcd 2 (by have := HN.out; have := HLs.out; have := HL.out; omega)
          have hc3 := hcd 3 (by have := HN.out; have := HLs.out; have := HL.out; omega)
          have hf2 := hfd 2
          have hf3 := hfd 3
          have hL2 : (2 : Int) < L := by have := HN.out; have := HLs.out; omega
          have hL3 : (3 : Int) < L := by have := HN.out; have := HLs.out; omega
          have HS := Lib.hid (HP6.out.set 2 0)
          have hcB := HS.out.own.cell 3 (by rw [List.length_set]; have := HN.out; have := HLs.out; have := HL.out; omega)
          have hfB := HS.out.own.free 3
          have HX := Lib.hid hx2
          clear hcd hfd hx2
          go_wp2_with fail
          go_region
          go_wp2_with fail
          go_wp2_with fail
          go_meet
          exact ⟨(some ⟨g6, 0, none⟩, c6), L, (bs.set 2 0).set 3 (x : Int), 4, rfl, rfl, (by rw [List.length_set, List.length_set]; exact HL.out), by have := HN.out; have := HLs.out; omega, (HBy.out.set 2 (by omega) (by omega)).set 3 (by omega) (by have := HX.out; have := HN.out; omega), by decide, by decide, (H4.out x HX.out).1, fun _ => (H4.out x HX.out).2, fun e => absurd e (by decide), Lib.hid ((HS.out.set 3 _).down (Below.refl _ _).drew).px⟩
        · obtain ⟨l, hl1, hl2⟩ : ∃ l : Nat, n.tmod 2 = l ∧ l < 2 := ⟨(n % 2).toNat, by rw [Int.tmod_eq_emod_of_nonneg n0]; omega, by omega⟩
          obtain ⟨k, hk1, hk2⟩ : ∃ k : Nat, n.tmod 8 = k ∧ k < 8 := ⟨(n % 8).toNat, by rw [Int.tmod_eq_emod_of_nonneg n0]; omega, by omega⟩
          obtain ⟨p, hp⟩ : ∃ p : Nat, 10 + l = p := ⟨_, rfl⟩
          have hw1 : IntKind.u8.wrap (10 + (l : Int)) = (p : Int) := by rw [IntKind.wrap_u8]; omega
          have HP := Lib.hid (show p = 10 ∨ p = 11 from by omega)
          obtain ⟨b0, hb0, hb2⟩ : ∃ v : Nat, bs.getD p 0 = (v : Int) ∧ v < 256 := ⟨(bs.getD p 0).toNat, by have := HBy.out.at_ p; omega, by have := HBy.out.at_ p; omega⟩
          have hc0 := hcd p (by have := HP.out; have := HN.out; have := HLs.out; have := HL.out; omega)
          rw [hb0] at hc0
          have hf0 := hfd p
          have hL0 : (p : Int) < L := by have := HP.out; have := HN.out; have := HLs.out; omega
          obtain ⟨u, hu⟩ : ∃ u, bits .xor .u8 ((b0 : Nat) : Int) ((2 : Int) ^ k % 256) = u := ⟨_, rfl⟩
          have he2 : (2 : Int) ^ k % 256 = ((2 ^ k : Nat) : Int) := by rcases (show k = 0 ∨ k = 1 ∨ k = 2 ∨ k = 3 ∨ k = 4 ∨ k = 5 ∨ k = 6 ∨ k = 7 by omega) with rfl | rfl | rfl | rfl | rfl | rfl | rfl | rfl <;> rfl
          have hv := xor2 ⟨b0, hb2⟩ ⟨k, hk2⟩
          dsimp only at hv
          rw [← he2, hu, ← hb0] at hv
          clear he2
          have HQv := Lib.hid hv
          clear hcd hfd hb0 hv hp hl2
          go_wp2_with fail
          go_meet
          exact ⟨(some ⟨g6, 0, none⟩, c6), L, bs.set p u, 5, rfl, rfl, (by rw [List.length_set]; exact HL.out), by have := HN.out; have := HLs.out; omega, HBy.out.set p HQv.out.2.1 HQv.out.2.2, by decide, by decide, (H5.out p HP.out u HQv.out.2.1 HQv.out.2.2 HQv.out.1).1, fun _ => (H5.out p HP.out u HQv.out.2.1 HQv.out.2.2 HQv.out.1).2, fun e => absurd e (by decide), Lib.hid (HP6.out.set p u).px⟩
        · obtain ⟨b0, hb0, hb2⟩ : ∃ v : Nat, bs.getD 6 0 = (v : Int) ∧ v < 256 := ⟨(bs.getD 6 0).toNat, by have := HBy.out.at_ 6; omega, by have := HBy.out.at_ 6; omega⟩
          have hc0 := hcd 6 (by have := HN.out; have := HLs.out; have := HL.out; omega)
          rw [hb0] at hc0
          have hf0 := hfd 6
          have hL0 : (6 : Int) < L := by have := HN.out; have := HLs.out; omega
          obtain ⟨u, hu⟩ : ∃ u, bits .or .u8 ((b0 : Nat) : Int) 128 = u := ⟨_, rfl⟩
          have hv := or128 ⟨b0, hb2⟩
          dsimp only at hv
          rw [hu] at hv
          have HQv := Lib.hid hv
          have hPS := HP6.out.set 6 u
          clear hcd hfd hb0 hv hb2
          go_upto_region 49 with fail
          try dsimp only [Act.put]
          revert hPS
          generalize w6.setCell ⟨g6, 6, none⟩ (.int .u8 u) = w7
          intro hPS
          have HPS := Lib.hid hPS
          clear hPS hc0 hf0 hu
          have HFx : Hid (Calls Tryd.prog 37 #[.slice (some ⟨g6, 0, none⟩) sz c6, .int .i64 10] w7 fun e w' => ∃ v, e = .returned (.tuple #[v, .int .i64 0]) ∧ Own w' w7.heap.size v (fixL ((bs.set 6 u).take sz) 10) ∧ Below w7.heap.size w7 w') := Lib.hid (by
            have hl1 : ((bs.set 6 u).take sz).length = sz := by rw [List.length_take, List.length_set]; have := HN.out; have := HLs.out; have := HL.out; omega
            have := fix_any (some ⟨g6, 0, none⟩) c6 ((bs.set 6 u).take sz) 10 w7 ((HBy.out.set 6 (by have := HQv.out; omega) HQv.out.2).take _) (by rw [hl1]; have := HN.out; omega) (HPS.out.own.rd.take sz) (by decide) (by rw [hl1]; have := HN.out; omega)
            rw [hl1] at this
            exact this)
          obtain ⟨Hd, hHd⟩ : ∃ Hd, fixL ((bs.set 6 u).take sz) 10 = Hd := ⟨_, rfl⟩
          have HHl := Lib.hid (show Hd.length = sz from by rw [← hHd, fixL_len, List.length_take, List.length_set]; have := HN.out; have := HLs.out; have := HL.out; omega)
          have HR6 := Lib.hid (H6.out u HQv.out.1 HQv.out.2)
          rw [hHd] at HFx HR6
          have HTl := Lib.hid (show ((bs.set 6 u).drop sz).length = dl from by rw [List.length_drop, List.length_set]; have := HLs.out; have := HL.out; omega)
          clear hHd
          have hs1 : (sz : Int) ≤ c6 := by have := HN.out; have := HLs.out; omega
          have hs2 : (sz : Int) ≤ L := by have := HN.out; have := HLs.out; omega
          have hs3 : ¬ c6 = sz := by have := HN.out; have := HLs.out; omega
          have hs4 : L - sz = dl := by have := HLs.out; omega
          go_upto_region 50 with (first | (go_at_call 37; refine HFx.out.mono ?_; rintro e w8 ⟨v8, rfl, o8, l8⟩) | fail)
          try dsimp only [Act.put]
          have HP8 := Lib.hid (HPS.out.down l8)
          have HO8 := Lib.hid o8
          have HT8 := Lib.hid ((HP8.out.own.rd.drop sz (A' := some ⟨g6, sz, none⟩) (fun _ b off e => by injection e with e; injection e with e1 e2; subst e1; subst e2; rw [Nat.zero_add])))
          have HLt := Lib.hid (show w3.heap.size + 1 < w7.heap.size ∧ w.heap.size ≤ w7.heap.size ∧ w7.heap.size ≤ w8.heap.size from ⟨HPS.out.facts.lt, HPS.out.below.size, l8.size⟩)
          clear o8 l8 HFx HPS
          go_wp2_with (first | (at_builtin; refine app_own rfl _ _ rfl w7.heap.size _ Hd rfl HO8.out _ _ dl _ ((bs.set 6 u).drop sz) rfl HTl.out.symm HT8.out (by have := HN.out; rw [HHl.out, HTl.out]; omega) HLt.out.2.2 ?_; intro v9 w9 o9 l9 _ _; obtain ⟨g9, c9, hv9, _, _, hc9, _⟩ := own_formK (n := L) o9 (by rw [List.length_append, HHl.out, HTl.out]; exact HLs.out.symm) (by have := HLs.out; have := HN.out; omega); subst hv9; have HP9 : Hid (PX w (w3.heap.size + 1) #[.int .u8 k0, .int .u32 k1, .int .u32 k2, .int .u16 k3, .int .u16 k4, .int .u8 f1, .int .u8 f2, .int .u8 f3, .int .u8 f4, .int .u32 f5, .int .u32 f6, .int .i64 f7, .int .i64 f8, .int .u8 z0, .int .u32 z1, .int .u32 z2, .int .u16 z3, .int .u16 z4, .int .u8 f9] (some ⟨g9, 0, none⟩, c9) L (Hd ++ (bs.set 6 u).drop sz) w9) := Lib.hid ⟨HP8.out.below.trans (l9.mono HLt.out.2.1), HP8.out.facts.below l9 HLt.out.1, o9.rd, hc9⟩; clear o9 l9) | fail)
          go_meet
          exact ⟨(some ⟨g9, 0, none⟩, c9), L, Hd ++ (bs.set 6 u).drop sz, 6, rfl, rfl, HR6.out.2.1.trans HL.out, by have := HN.out; have := HLs.out; omega, HR6.out.1, by decide, by decide, HR6.out.2.2.1, fun _ => HR6.out.2.2.2, fun e => absurd e (by decide), HP9⟩
      case rest =>
        obtain ⟨q, n2, xs, u, rfl, rfl, hx1, hx2, hx3, hu0, hu1, hx4, hx5, hx6, hPX⟩ := hcut
        rename World => w7
        have HR7 := Lib.hid (pktRead_any q.1 q.2 n2 xs w7 hx1 (by omega) hPX.out.2.2.2 hx3 hPX.out.2.2.1 (Hs.out w7 hPX.out.1))
        have bF7 := hPX.out.2.1
        have L7 := Lib.hid hPX.out.1
        rw [hx4] at HR7
        by_cases hu : u = 0
        · subst hu
          rw [hx6 rfl] at HR7
          dsimp only [Facts.val, Facts.cells, Key.cells, List.cons_append, List.nil_append] at HR7
          clear hPX hx1 hx2 hx3 hx4 hx5 hx6 H4 H5 H6 HP6
          go_upto_region 52 with (first | (go_at_call 31; refine HR7.out.mono ?_; rintro e w8 ⟨rfl, l8⟩) | ((with_reducible refine look_store ?_); refine wpList_store_new rfl _ _ _ rfl _ _ rfl rfl _ _ rfl (by kernel_rfl) (by simp) (by simp [Value.oneCell']) ?_) | fail)
          try dsimp only [Act.put]
          refine wp_name1 ?_
          intro w9 hb9 hs9 bg
          have bF9 := (bF7.below l8 bF7.lt).below hb9 (bF7.below l8 bF7.lt).lt
          have L9 := Lib.hid ((L7.out.trans (l8.mono L7.out.size)).trans (hb9.mono (Nat.le_trans L7.out.size l8.size)))
          have hzz := run_eq_facts ⟨⟨k0, k1, k2, k3, k4⟩, f1, f2, f3, f4, f5, f6, f7, f8, ⟨z0, z1, z2, z3, z4⟩, f9⟩ ⟨⟨k0, k1, k2, k3, k4⟩, f1, f2, f3, f4, f5, f6, f7, f8, ⟨z0, z1, z2, z3, z4⟩, f9⟩ w9
          rw [facts_eqB_refl] at hzz
          dsimp only [Facts.val, Facts.cells, Key.cells, List.cons_append, List.nil_append] at hzz
          clear l8 hb9 hs9 L7 HR7 bF7
          go_wp2_with (first | ((with_reducible refine look_load ?_); refine wpList_load_g (by first | rfl | simp [Region.wanted, yielded]) _ _ rfl _ rfl _ _ _ _ bg Tryd.underlying27 rfl (by kernel_rfl) ?_) | ((with_reducible refine look_load ?_); refine wpList_load_g (by first | rfl | simp [Region.wanted, yielded]) _ _ rfl _ rfl _ _ _ _ bF9 Tryd.underlying27 rfl (by kernel_rfl) ?_) | fail)
          go_ret
          exact ⟨rfl, L9.out⟩
        · rw [hx5 hu] at HR7
          have hu2 : decide (0 < u) = true := by simp; omega
          dsimp only [Facts.val, Facts.cells, Key.cells, Facts.zero, Key.zero, List.cons_append, List.nil_append] at HR7
          clear hPX hx1 hx2 hx3 hx4 hx5 hx6 H4 H5 H6 HP6
          go_upto_region 52 with (first | (go_at_call 31; refine HR7.out.mono ?_; rintro e w8 ⟨rfl, l8⟩) | ((with_reducible refine look_store ?_); refine wpList_store_new rfl _ _ _ rfl _ _ rfl rfl _ _ rfl (by kernel_rfl) (by simp) (by simp [Value.oneCell']) ?_) | fail)
          try dsimp only [Act.put]
          refine wp_name1 ?_
          intro w9 hb9 hs9 bg
          have L9 := Lib.hid ((L7.out.trans (l8.mono L7.out.size)).trans (hb9.mono (Nat.le_trans L7.out.size l8.size)))
          have hzz := run_eq_facts Facts.zero Facts.zero w9
          rw [facts_eqB_refl] at hzz
          dsimp only [Facts.val, Facts.cells, Key.cells, Facts.zero, Key.zero, List.cons_append, List.nil_append] at hzz
          clear l8 hb9 hs9 L7 HR7 bF7 hu
          go_wp2_with (first | ((with_reducible refine look_load ?_); refine wpList_load_g (by first | rfl | simp [Region.wanted, yielded]) _ _ rfl _ rfl _ _ _ _ bg Tryd.underlying27 rfl (by kernel_rfl) ?_) | fail)
          go_ret
          exact ⟨rfl, L9.out⟩
    · obtain rfl : z = 0 := by omega
      clear hz
      cases hb : (bits .and .u16 defs 1 == 0)
      · obtain ⟨h, A, o2, d, hF, hP⟩ := hJ.out
        have HF := Lib.hid hF
        have HP := Lib.hid hP
        have hwn : IntKind.i64.wrap (8 * (1 + n)) = 8 * (1 + n) := by rw [IntKind.wrap_i64]; omega
        have hcH := hP.hdr.cell
        have hfH := hP.hdr.frozen
        clear hF hP
        go_wp2_with fail
        go_roundw
        case rel => exact ⟨0, -1, 8, by omega, rfl, rfl, by omega, Lib.hid ⟨_, _, _, _, HF.out.at0 (o := 8 * (1 + n)) (by omega) (by omega) (by omega), (HP.out.setH { h with off := 8 * (1 + n) } 4 (.int .i64 (8 * (1 + n))) rfl rfl)⟩⟩
        case measure => simp [intOf]
      · go_wp2_with fail
        go_roundw
        case rel => exact ⟨0, -1, r, by omega, rfl, rfl, by omega, Lib.hid (by obtain ⟨h, A, o2, d, f, p⟩ := hJ.out; exact ⟨h, A, o2, d, f.skip, p⟩)⟩
        case measure => simp [intOf]
    · obtain rfl : z = 1 := by omega
      clear hz
      cases hb : (bits .and .u16 (defs / 2) 1 == 0)
      · obtain ⟨h, A, o2, d, hF, hP⟩ := hJ.out
        have HF := Lib.hid hF
        have HP := Lib.hid hP
        have HB := Lib.hid (Below.refl wo.heap.size wo)
        have HN := Lib.hid (show g < wo.heap.size ∧ w3.heap.size < wo.heap.size from ⟨(hP.data.lt rfl).2, hP.hdr.lt⟩)
        have HO1 := Lib.hid ((own_zero wo wo.heap.size wo.heap.size rfl (Nat.le_refl _)).alloc (.cells #[.int .u8 131, .int .u8 3, .int .u8 4, .int .u8 1] 5))
        have HR1 := Lib.hid (own_four (wo.alloc (.cells #[] 5)) wo.heap.size (wo.heap.size + 1) (by simp) 131 3 4 1 (by simp)).rd
        clear hF hP
        go_wp2_with (first | (at_builtin; refine app_own rfl _ _ rfl wo.heap.size _ [] rfl HO1.out _ _ 4 4 [131, 3, 4, 1] rfl rfl HR1.out (by simp) (by simp; omega) ?_; intro v5 w5 o5 l5 _ _; have HO5 := Lib.hid (o5.alloc (.cells #[.int .u8 7, .int .u8 2, .int .u8 0, .int .u8 0] 5)); have HR5 := Lib.hid (own_four w5 w5.heap.size w5.heap.size rfl 7 2 0 0 (Nat.le_refl _)).rd; have HL5 := Lib.hid (((HB.out.alloc (Nat.le_refl _) _).alloc (by simp) _).trans l5); clear o5 l5) | (at_builtin; refine app_own rfl _ _ rfl wo.heap.size _ ([] ++ [131, 3, 4, 1]) rfl HO5.out _ _ 4 4 [7, 2, 0, 0] rfl rfl HR5.out (by simp) (by have := HL5.out.size; simp <;> omega) ?_; intro v6 w6 o6 l6 _ _; obtain ⟨g6, c6, hv6, hg6, _, hc6, hm6⟩ := own_formK (n := 8) o6 rfl (by omega); subst hv6; have HO6 := Lib.hid o6; have HD6 := Lib.hid (HP.out.down ((HL5.out.alloc HL5.out.size _).trans l6)); have HG6 := Lib.hid hg6; have hcH := HD6.out.hdr.cell 9; have hfH := HD6.out.hdr.frozen 9; clear o6 l6 hg6) | fail)
        go_roundw
        case rel => exact ⟨1, 0, 9, by omega, rfl, rfl, by omega, Lib.hid ⟨_, _, _, _, HF.out.at1 (o := [131, 3, 4, 1, 7, 2, 0, 0]) (.cons (by omega) (by omega) (.cons (by omega) (by omega) (.cons (by omega) (by omega) (.cons (by omega) (by omega) (.cons (by omega) (by omega) (.cons (by omega) (by omega) (.cons (by omega) (by omega) (.cons (by omega) (by omega) .nil)))))))) ⟨by decide, by decide⟩ opts9, (HD6.out.setO (o := [131, 3, 4, 1, 7, 2, 0, 0]) (n := 8) rfl (Own.base_le HO6.out (by have := HGe.out; have := HN.out.2; omega)) (by have := HN.out.1; have := HG6.out; omega) (by have := HN.out.2; have := HG6.out; omega))⟩⟩
        case measure => simp [intOf]
      · go_wp2_with fail
        go_roundw
        case rel => exact ⟨1, 0, r, by omega, rfl, rfl, by omega, Lib.hid (by obtain ⟨h, A, o2, d, f, p⟩ := hJ.out; exact ⟨h, A, o2, d, f.skip, p⟩)⟩
        case measure => simp [intOf]
    · obtain rfl : z = 2 := by omega
      clear hz
      cases hb : (bits .and .u16 (defs / 4) 1 == 0)
      · obtain ⟨h, A, o2, d, hF, hP⟩ := hJ.out
        have HF := Lib.hid hF
        have HP := Lib.hid hP
        obtain ⟨l, hl1, hl2⟩ : ∃ l : Nat, n.tmod 2 = l ∧ l < 2 := ⟨(n % 2).toNat, by rw [Int.tmod_eq_emod_of_nonneg n0]; omega, by omega⟩
        obtain ⟨K, hK, hK2⟩ : ∃ K : Int, (#[.int .u8 131, .int .u8 137] : Array Value)[l]? = some (.int .u8 K) ∧ (K = 131 ∨ K = 137) := by
          rcases (show l = 0 ∨ l = 1 by omega) with rfl | rfl
          · exact ⟨131, rfl, .inl rfl⟩
          · exact ⟨137, rfl, .inr rfl⟩
        have hct := (Blk.new wo 5 #[.int .u8 131, .int .u8 137]).cell l
        rw [hK] at hct
        have HS1 := Lib.hid (hP.down ((Below.refl wo.heap.size wo).alloc (Nat.le_refl _) (.cells #[.int .u8 131, .int .u8 137] 5)))
        have HS2 := Lib.hid (HS1.out.down ((Below.refl _ (wo.alloc (.cells #[.int .u8 131, .int .u8 137] 5))).alloc (Nat.le_refl _) (.cells #[.int .u8 K, .int .u8 3, .int .u8 4, .int .u8 0] 5)))
        have HO2 := Lib.hid (own_four (wo.alloc (.cells #[.int .u8 131, .int .u8 137] 5)) v2.heap.size (wo.heap.size + 1) (by simp) K 3 4 0 (by have := HGe.out; have := hP.hdr.lt; simp; omega))
        have HN := Lib.hid (show g < wo.heap.size ∧ w3.heap.size < wo.heap.size from ⟨(hP.data.lt rfl).2, hP.hdr.lt⟩)
        have hcH := HS2.out.hdr.cell 9
        have hfH := HS2.out.hdr.frozen 9
        have HKb := Lib.hid hK2
        clear hF hP hK hK2
        go_wp2_with fail
        go_roundw
        case rel => exact ⟨2, 1, 10, by omega, rfl, rfl, by omega, Lib.hid ⟨_, _, _, _, HF.out.at2 (o := [K, 3, 4, 0]) (.cons (by have := HKb.out; omega) (by have := HKb.out; omega) (.cons (by omega) (by omega) (.cons (by omega) (by omega) (.cons (by omega) (by omega) .nil)))) ⟨by show 4 ≤ 40; omega, by show 4 % 4 = 0; rfl⟩ (opts10 K HKb.out).1 (opts10 K HKb.out).2, (HS2.out.setO (o := [K, 3, 4, 0]) (n := 4) rfl HO2.out (by have := HN.out.1; omega) (by have := HN.out.2; omega))⟩⟩
        case measure => simp [intOf]
      · go_wp2_with fail
        go_roundw
        case rel => exact ⟨2, 1, r, by omega, rfl, rfl, by omega, Lib.hid (by obtain ⟨h, A, o2, d, f, p⟩ := hJ.out; exact ⟨h, A, o2, d, f.skip, p⟩)⟩
        case measure => simp [intOf]
    · obtain rfl : z = 3 := by omega
      clear hz
      cases hb : (bits .and .u16 (defs / 8) 1 == 0)
      · obtain ⟨h, A, o2, d, hF, hP⟩ := hJ.out
        have HF := Lib.hid hF
        have HP := Lib.hid hP
        have hcH := hP.hdr.cell
        have hfH := hP.hdr.frozen
        clear hF hP
        go_wp2_with fail
        go_roundw
        case rel => exact ⟨3, 2, 11, by omega, rfl, rfl, by omega, Lib.hid ⟨_, _, _, _, HF.out.at3 HFb.out, (HP.out.setH { h with ttl := 0 } 5 (.int .u8 0) rfl rfl)⟩⟩
        case measure => simp [intOf]
      · go_wp2_with fail
        go_roundw
        case rel => exact ⟨3, 2, r, by omega, rfl, rfl, by omega, Lib.hid (by obtain ⟨h, A, o2, d, f, p⟩ := hJ.out; exact ⟨h, A, o2, d, f.skip, p⟩)⟩
        case measure => simp [intOf]
    · obtain rfl : z = 4 := by omega
      clear hz
      cases hb : (bits .and .u16 (defs / 16) 1 == 0)
      · obtain ⟨h, A, o2, d, hF, hP⟩ := hJ.out
        have HF := Lib.hid hF
        have HP := Lib.hid hP
        obtain ⟨l, hl1, hl2⟩ : ∃ l : Nat, n.tmod 2 = l ∧ (l = 0 ∨ l = 1) := ⟨(n % 2).toNat, by rw [Int.tmod_eq_emod_of_nonneg n0]; omega, by omega⟩
        obtain ⟨m, hm, hm2⟩ : ∃ m : Nat, n = (m : Int) ∧ m < 256 := ⟨n.toNat, by omega, by omega⟩
        have hor : bits .or .u32 3758096384 n = 3758096384 + n := by rw [hm]; exact orE0 ⟨m, hm2⟩
        clear hm hm2
        have HS := Lib.hid (HP.out.setH { h with dst := h.src } 8 (.int .u32 h.src) rfl rfl)
        have hcS := HS.out.hdr.cell
        have hfS := HS.out.hdr.frozen
        have HSb := Lib.hid (show 0 ≤ h.src ∧ h.src < 4294967296 from ⟨hF.ok.src0, hF.ok.src1⟩)
        have hcH := hP.hdr.cell
        have hfH := hP.hdr.frozen
        clear hF hP
        rcases hl2 with rfl | rfl
        · go_wp2_with fail
          go_roundw
          case rel => exact ⟨4, 3, 12, by omega, rfl, rfl, by omega, Lib.hid ⟨_, _, _, _, HF.out.at4 HFb.out (a := h.src) HSb.out.1 HSb.out.2 (.inl rfl), HS.out⟩⟩
          case measure => simp [intOf]
        · go_wp2_with fail
          go_roundw
          case rel => exact ⟨4, 3, 12, by omega, rfl, rfl, by omega, Lib.hid ⟨_, _, _, _, HF.out.at4 HFb.out (a := 3758096384 + n) (by omega) (by omega) (.inr (by omega)), (HS.out.setH { h with dst := 3758096384 + n } 8 (.int .u32 (3758096384 + n)) rfl rfl)⟩⟩
          case measure => simp [intOf]
      · go_wp2_with fail
        go_roundw
        case rel => exact ⟨4, 3, r, by omega, rfl, rfl, by omega, Lib.hid (by obtain ⟨h, A, o2, d, f, p⟩ := hJ.out; exact ⟨h, A, o2, d, f.skip, p⟩)⟩
        case measure => simp [intOf]
    · obtain rfl : z = 5 := by omega
      clear hz
      cases hb : (bits .and .u16 (defs / 32) 1 == 0)
      · obtain ⟨h, A, o2, d, hF, hP⟩ := hJ.out
        have HF := Lib.hid hF
        have HP := Lib.hid hP
        obtain ⟨Pq, hPb, hPq⟩ := or18_bits n n0 n1
        have HPq := Lib.hid hPq
        clear hPq
        have hcH := hP.hdr.cell
        have hfH := hP.hdr.frozen
        clear hF hP
        go_wp2_with fail
        go_roundw
        case rel => exact ⟨5, 4, 13, by omega, rfl, rfl, by omega, Lib.hid ⟨_, _, _, _, HF.out.at5 HFb.out (p := Pq) HPq.out.2.2.2.1 HPq.out.2.2.2.2 HPq.out.1 HPq.out.2.1 HPq.out.2.2.1, (HP.out.setH { h with proto := Pq } 6 (.int .u8 Pq) rfl rfl)⟩⟩
        case measure => simp [intOf]
      · go_wp2_with fail
        go_roundw
        case rel => exact ⟨5, 4, r, by omega, rfl, rfl, by omega, Lib.hid (by obtain ⟨h, A, o2, d, f, p⟩ := hJ.out; exact ⟨h, A, o2, d, f.skip, p⟩)⟩
        case measure => simp [intOf]
    · obtain rfl : z = 6 := by omega
      clear hz
      cases hb : (bits .and .u16 (defs / 64) 1 == 0)
      · obtain ⟨h, A, o2, d, hF, hP⟩ := hJ.out
        have HF := Lib.hid hF
        have HP := Lib.hid hP
        obtain ⟨v, hv, hv2, hv3⟩ : ∃ v : Nat, d.getD 12 0 = (v : Int) ∧ v < 256 ∧ v % 16 = 0 := ⟨(d.getD 12 0).toNat, by have := hF.byt.at_ 12; omega, by have := hF.byt.at_ 12; omega, by have := hF.byt.at_ 12; have h3 := HFb.out.tcp_.2.2; rw [← hF.d12 (by omega)] at h3; omega⟩
        obtain ⟨q, hq1, hq2⟩ : ∃ q : Nat, n.tmod 5 = q ∧ q < 5 := ⟨(n % 5).toNat, by rw [Int.tmod_eq_emod_of_nonneg n0]; omega, by omega⟩
        have hd20 := HFb.out.tcp_.1
        have hd4 : (12 : Int) < dl := by have := HDl.out; omega
        have hcA := hP.data.cell 12 (by have := hF.dl; have := HDl.out; omega)
        rw [hv] at hcA
        have hfA := hP.data.free 12
        have hbv := and15 ⟨v, hv2⟩ hv3
        dsimp only at hbv
        have hwq : IntKind.u8.wrap ((q : Int) * 16) = 16 * (q : Int) := by rw [IntKind.wrap_u8]; omega
        have hor := or16 ⟨q, hq2⟩
        dsimp only at hor
        clear hd20 hv hv2 hv3 hF hP
        go_wp2_with fail
        go_roundw
        case rel => exact ⟨6, 5, 14, by omega, rfl, rfl, by omega, Lib.hid ⟨_, _, _, _, HF.out.at6 HFb.out (q := (q : Int)) (by omega) (by omega), (HP.out.setD 12 (16 * (q : Int)))⟩⟩
        case measure => simp [intOf]
      · go_wp2_with fail
        go_roundw
        case rel => exact ⟨6, 5, r, by omega, rfl, rfl, by omega, Lib.hid (by obtain ⟨h, A, o2, d, f, p⟩ := hJ.out; exact ⟨h, A, o2, d, f.skip, p⟩)⟩
        case measure => simp [intOf]
    · obtain rfl : z = 7 := by omega
      clear hz
      cases hb : (bits .and .u16 (defs / 128) 1 == 0)
      · obtain ⟨h, A, o2, d, hF, hP⟩ := hJ.out
        have HF := Lib.hid hF
        have HP := Lib.hid hP
        obtain ⟨v, hv, hv2⟩ : ∃ v : Nat, d.getD 13 0 = (v : Int) ∧ v < 256 := ⟨(d.getD 13 0).toNat, by have := hF.byt.at_ 13; omega, by have := hF.byt.at_ 13; omega⟩
        have hdl : d.length = dl := hF.dl.trans HDl.out
        have hd20 := HFb.out.tcp_.1
        have hd4 : (13 : Int) < dl := by have := HDl.out; omega
        have hcA := hP.data.cell 13 (by have := HDl.out; omega)
        rw [hv] at hcA
        have hfA := hP.data.free 13
        have hbv := andNot22 ⟨v, hv2⟩
        dsimp only at hbv
        have HQ2 := Lib.hid (show v &&& 233 < 256 ∧ saneB (v &&& 233) = false from ⟨by have := Nat.and_le_right (n := v) (m := 233); omega, sane22 ⟨v, hv2⟩⟩)
        clear hdl hd20 hv hv2 hF hP
        go_wp2_with fail
        go_roundw
        case rel => exact ⟨7, 6, 15, by omega, rfl, rfl, by omega, Lib.hid ⟨_, _, _, _, HF.out.at7 HFb.out (q := ((v &&& 233 : Nat) : Int)) (by omega) (by have := HQ2.out.1; omega) (by rw [Int.toNat_natCast]; exact HQ2.out.2), (HP.out.setD 13 ((v &&& 233 : Nat) : Int))⟩⟩
        case measure => simp [intOf]
      · go_wp2_with fail
        go_roundw
        case rel => exact ⟨7, 6, r, by omega, rfl, rfl, by omega, Lib.hid (by obtain ⟨h, A, o2, d, f, p⟩ := hJ.out; exact ⟨h, A, o2, d, f.skip, p⟩)⟩
        case measure => simp [intOf]
    · obtain rfl : z = 8 := by omega
      clear hz
      cases hb : (bits .and .u16 (defs / 256) 1 == 0)
      · obtain ⟨h, A, o2, d, hF, hP⟩ := hJ.out
        have HF := Lib.hid hF
        have HP := Lib.hid hP
        obtain ⟨l, hl1, hl2⟩ : ∃ l : Nat, n.tmod 2 = l ∧ (l = 0 ∨ l = 1) := ⟨(n % 2).toNat, by rw [Int.tmod_eq_emod_of_nonneg n0]; omega, by omega⟩
        obtain ⟨e, he⟩ : ∃ e : Nat, 2 * l = e := ⟨_, rfl⟩
        have hw1 : IntKind.u8.wrap (2 * (l : Int)) = (e : Int) := by rw [IntKind.wrap_u8]; omega
        have hw2 : IntKind.u8.wrap ((e : Int) + 1) = ((e + 1 : Nat) : Int) := by rw [IntKind.wrap_u8]; omega
        have he4 : e = 0 ∨ e = 2 := by omega
        have HK := Lib.hid he4
        have hdl : d.length = dl := hF.dl.trans HDl.out
        have hd8 : (8 : Int) ≤ dl := by have := HD8.out; omega
        have hcA := hP.data.cell e (by omega)
        have hfA := hP.data.free e
        have HS := Lib.hid (hP.setD e 0)
        have hcB := HS.out.data.cell (e + 1) (by rw [List.length_set]; omega)
        have hfB := HS.out.data.free (e + 1)
        have hcC := hP.data.cell (e + 1) (by omega)
        have hd4 : (e : Int) < dl := by omega
        have hd5 : ((e + 1 : Nat) : Int) < dl := by omega
        clear he4 he hl2 hdl hF hP
        go_wp2_with fail
        go_roundw
        case rel => exact ⟨8, 7, 16, by omega, rfl, rfl, by omega, Lib.hid ⟨_, _, _, _, HF.out.at8 HFb.out HK.out, (HS.out.setD (e + 1) 0)⟩⟩
        case measure => simp [intOf]
      · go_wp2_with fail
        go_roundw
        case rel => exact ⟨8, 7, r, by omega, rfl, rfl, by omega, Lib.hid (by obtain ⟨h, A, o2, d, f, p⟩ := hJ.out; exact ⟨h, A, o2, d, f.skip, p⟩)⟩
        case measure => simp [intOf]
end Go.Proofs.YtebeekjcepjcnaaDoor
