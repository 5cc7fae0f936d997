/-
  What bafflelaw11.Made returns is a packet that is read; an append onto a slice without room.
-/
import Derived.Lib.MinMax
import Derived.WalkKit
import Derived.WalkSpells
import Derived.WalkLawsBesides
import Derived.WalkSmall
import Derived.Lib.Hide
import Derived.Deep.AppendLies
import Derived.Maps.AppendAt
import Derived.Laws.AppendOwnNone
import Derived.Laws.CopyOwn
import Derived.OneCell
import Derived.Test.YtebeekjcepjcnaaDoorProg
import Derived.Lib.SliceRun
import Derived.RangeFuncNested
import Derived.RangeFuncBound
import Derived.RangeFuncCalls
import Derived.RangeFuncLeaves
import Derived.Shelf.Abstract
import Derived.OwnWalkIn
import Derived.TacticsInMore
import Derived.LoopNIn
import Derived.LoopIn
import Derived.Lib.AppendZeros
import Derived.BigRegion
import Derived.ChangeAlike
import Derived.Deep.RegionLaw
import Derived.Deep.DeepCutAuto
import Derived.Orders
import Derived.RegionTactic
import Derived.Still
import Derived.Deep.MidRow
import Derived.Deep.RegionHeld3
import Derived.MapKept
import Derived.RegionIn
import Derived.Laws.StructEq
import Derived.Laws.BitsAllLaws
import Derived.Deep.CutBlock
import Derived.Test.YtebeekjcepjcnaaDoorEBase
import Derived.Test.YtebeekjcepjcnaaDoorEBits
import Derived.Test.YtebeekjcepjcnaaDoorECsum
import Derived.Test.YtebeekjcepjcnaaDoorESum
import Derived.Test.YtebeekjcepjcnaaDoorEConcat
import Derived.Test.YtebeekjcepjcnaaDoorEFix
import Derived.Test.YtebeekjcepjcnaaDoorEFacts
import Derived.Test.YtebeekjcepjcnaaDoorEPkt
import Derived.Test.YtebeekjcepjcnaaDoorERegion
import Derived.Test.YtebeekjcepjcnaaDoorEWalk
import Derived.Test.YtebeekjcepjcnaaDoorEStep
import Derived.Test.YtebeekjcepjcnaaDoorETcpw
import Derived.Test.YtebeekjcepjcnaaDoorEUdpw
import Derived.Test.YtebeekjcepjcnaaDoorEData
import Derived.Test.YtebeekjcepjcnaaDoorEIprd
import Derived.Test.YtebeekjcepjcnaaDoorEFold
import Derived.Test.YtebeekjcepjcnaaDoorEFresh
import Derived.Test.YtebeekjcepjcnaaDoorEIpre
import Derived.Test.YtebeekjcepjcnaaDoorEIpread
import Derived.Test.YtebeekjcepjcnaaDoorEOptsa
import Derived.Test.YtebeekjcepjcnaaDoorEOptsb
import Derived.Test.YtebeekjcepjcnaaDoorEOptsc
import Derived.Test.YtebeekjcepjcnaaDoorEOptsd
import Derived.Test.YtebeekjcepjcnaaDoorETcprd
import Derived.Test.YtebeekjcepjcnaaDoorEEq
import Derived.Test.YtebeekjcepjcnaaDoorEMade8
import Derived.Test.YtebeekjcepjcnaaDoorEIpback
import Derived.Test.YtebeekjcepjcnaaDoorEMade6p
import Derived.Test.YtebeekjcepjcnaaDoorEOptw
import Derived.Test.YtebeekjcepjcnaaDoorEMade10
import Derived.Test.YtebeekjcepjcnaaDoorEMade9
import Derived.Test.YtebeekjcepjcnaaDoorEPright
import Derived.Test.YtebeekjcepjcnaaDoorEPktlen
import Derived.Test.YtebeekjcepjcnaaDoorESm
import Derived.Test.YtebeekjcepjcnaaDoorEUdprd
import Derived.Test.YtebeekjcepjcnaaDoorEIcmprd
import Derived.Test.YtebeekjcepjcnaaDoorEContt
import Derived.Test.YtebeekjcepjcnaaDoorEMade11p
namespace Go.Proofs.YtebeekjcepjcnaaDoor
open Go.RowKit
structure M11Law (x : Sm) (os : List OE) (data : List Int) (f : Facts) : Prop where
  ok : (m11H x f.key.proto os).Ok
  right : (m11H x f.key.proto os).Right data.length
  reason : (m11H x f.key.proto os).reason = 0
  optl : (m11H x f.key.proto os).opts.length ≤ 40
  proto : f.key.proto = 6 ∨ f.key.proto = 17 ∨ f.key.proto = 1
  byt : Byt (ipWriteL (m11H x f.key.proto os) data)
  len : (ipWriteL (m11H x f.key.proto os) data).length ≤ 460
  back : ∀ behind, pktR (ipWriteL (m11H x f.key.proto os) data ++ behind) = 0 ∧ pktF (ipWriteL (m11H x f.key.proto os) data ++ behind) = m11F x f
  fok : (m11F x f).Ok
  fright : (m11F x f).right = true
theorem m11_law {x : Sm} (hx : x.Ok) {os : List OE} (hos : OsOk os) {k : Nat} {data : List Int} {f : Facts} (hC : Cont k data f) (hk : k < 4) : M11Law x os data f := by
  have hol := hos.len
  have hob := oeB_byt hos
  have hsb := hostI_bd x.src
  have hdb := dstI_ne x.src x.dst hx.dst.1 hx.dst.2
  have hzl : (List.replicate ((4 - (oeB os).length % 4) % 4) (0 : Int)).length = (4 - (oeB os).length % 4) % 4 := List.length_replicate
  have holl : (m11H x f.key.proto os).opts.length = (oeB os).length + (4 - (oeB os).length % 4) % 4 := by
    show (oeB os ++ List.replicate _ _).length = _
    rw [List.length_append, hzl]
  have hpr : f.key.proto = 6 ∨ f.key.proto = 17 ∨ f.key.proto = 1 := by
    rw [hC.proto]
    rcases (show k = 0 ∨ k = 1 ∨ k = 2 ∨ k = 3 by omega) with rfl | rfl | rfl | rfl <;> simp
  have hlen := hC.len
  have hOk : (m11H x f.key.proto os).Ok := ⟨hx.tos.1, hx.tos.2, hx.id.1, hx.id.2, (by show 0 ≤ max x.ttl 1; omega), (by have := hx.ttl.2; show max x.ttl 1 < 256; omega), (by show 0 ≤ f.key.proto; omega), (by show f.key.proto < 256; omega), (by show 0 ≤ hostI x.src; omega), (by show hostI x.src < _; omega), (by show 0 ≤ dstI x.src x.dst; omega), (by show dstI x.src x.dst < _; omega), hob.append (Byt.zeros _)⟩
  have hR : (m11H x f.key.proto os).Right data.length := ⟨show (0 : Int) ≤ 0 by decide, show (0 : Int) ≤ 65528 by decide, rfl, by rw [holl]; omega, by rw [holl]; omega, by rw [holl]; omega, by show (0 : Int) + data.length ≤ 65515; omega, fun h => by simp [m11H] at h⟩
  have hrs : (m11H x f.key.proto os).reason = 0 := by
    obtain ⟨r1, r2⟩ := optRead_os hos ((4 - (oeB os).length % 4) % 4) (by omega)
    unfold IpH.reason
    have e1 : (m11H x f.key.proto os).opts = oeB os ++ List.replicate ((4 - (oeB os).length % 4) % 4) 0 := rfl
    have s1 : strangeB (hostI x.src) = false := by unfold strangeB; simp; omega
    have s2 : strangeB (dstI x.src x.dst) = false := by unfold strangeB; simp; omega
    have s3 : (hostI x.src == dstI x.src x.dst) = false := by
      have := hdb.1
      simp only [beq_eq_false_iff_ne, ne_eq]
      exact fun h => this h.symm
    rw [if_neg (by simp [m11H]), e1, r1]
    rw [if_neg (by simp), if_neg (by rw [r2]; decide), if_neg (by show ¬ max x.ttl 1 = 0; omega), if_neg]
    show ¬ (strangeB (hostI x.src) || strangeB (dstI x.src x.dst) || hostI x.src == dstI x.src x.dst) = true
    rw [s1, s2, s3]
    decide
  have hby : Byt (ipWriteL (m11H x f.key.proto os) data) := ipWriteL_byt hOk hR.len hC.byt
  have hll : (ipWriteL (m11H x f.key.proto os) data).length ≤ 460 := by rw [ipWriteL_len, holl]; omega
  have hbk : ∀ behind, pktR (ipWriteL (m11H x f.key.proto os) data ++ behind) = 0 ∧ pktF (ipWriteL (m11H x f.key.proto os) data ++ behind) = m11F x f := fun behind => by
    obtain ⟨p1, p2⟩ := pkt_back (m11H x f.key.proto os) data behind hOk hR
    have hp : (m11H x f.key.proto os).proto = f.key.proto := rfl
    rw [hrs, if_neg (by simp), hp, if_neg (by omega), hC.data] at p1
    have h0 : reasonOf 0 = 0 := by decide
    rw [h0] at p1
    refine ⟨p1, (p2 p1).trans ?_⟩
    rw [hp, hC.facts _ hp]
    rfl
  have hb0 := hbk []
  rw [List.append_nil] at hb0
  refine ⟨hOk, hR, hrs, hR.len, hpr, hby, hll, hbk, ?_, ?_⟩
  · rw [← hb0.2]; exact pktF_ok hby (by omega)
  · rw [← hb0.2]; exact pkt_right hby hb0.1
/-- A slice that can be read: an old one, or a row of the call's own. -/
def RdL (B : Nat) (p : Option Addr × Nat) (k : Nat) (xs : List Int) (W : World) : Prop := (Rd W B p.1 .u8 xs ∧ k ≤ p.2) ∨ Own W B (.slice p.1 k p.2) xs
theorem RdL.rd {B k : Nat} {p : Option Addr × Nat} {xs : List Int} {W : World} (h : RdL B p k xs W) (hB : B ≤ W.heap.size) : Rd W W.heap.size p.1 .u8 xs ∧ k ≤ p.2 := by
  rcases h with h | h
  · exact ⟨h.1.more hB, h.2⟩
  · obtain ⟨A, c, e, h1, h2, _⟩ := h.open_
    simp only [Value.slice.injEq] at e
    obtain ⟨e1, e2, e3⟩ := e
    exact ⟨by rw [e1]; exact h1, by rw [e2, e3]; exact h2⟩
theorem Own.late {B b : Nat} {v : Value} {xs : List Int} {z n : Array Value} {W W' : World} (h : Own W b v xs) (hG : Late B 27 z n W W') : Own W' b v xs := by
  refine ⟨h.1, ?_⟩
  rcases h.2 with h2 | ⟨g, cap, cur, e, hb, hg, r⟩
  · exact .inl h2
  · exact .inr ⟨g, cap, cur, e, hb, hG.keep g _ hg (by intro h; injection h with _ h2; exact absurd h2 (by decide)), r⟩
theorem RdL.keep {B k : Nat} {p : Option Addr × Nat} {xs : List Int} {z n : Array Value} {W W' : World} (h : RdL B p k xs W) (hG : Late B 27 z n W W') : RdL B p k xs W' := by
  rcases h with h | h
  · exact .inl ⟨h.1.below hG.below (Nat.le_refl _), h.2⟩
  · exact .inr (h.late hG)
theorem RdL.below {B C k : Nat} {p : Option Addr × Nat} {xs : List Int} {W W' : World} (h : RdL B p k xs W) (hb : Below C W W') (hB : B ≤ C) (hC : W.heap.size ≤ C) : RdL B p k xs W' := by
  rcases h with h | h
  · exact .inl ⟨h.1.below hb hB, h.2⟩
  · exact .inr (h.below hb hC)
theorem run_app_full (w : World) (ty : TypeId) (g off n : Nat) (xs : List Int) (hn : xs.length = n) (B : Nat) (hrx : Rd w B (some ⟨g, off, none⟩) .u8 xs) (B2 : Nat) (A : Option Addr) (c : Nat) (ys : List Int) (hr : Rd w B2 A .u8 ys) (hB : B ≤ w.heap.size)
    (hb : n + ys.length ≤ 140737488355328) :
    ∃ p : Option Addr × Nat, ∃ w', (Builtin.append_ #[34, 34] ty #[.slice (some ⟨g, off, none⟩) n n, .slice A ys.length c]).run Tryd.prog w = .ok (.slice p.1 (n + ys.length) p.2) w' ∧ RdL B p (n + ys.length) (xs ++ ys) w' ∧ Below w.heap.size w w' := by
  obtain ⟨i, hi, hz, hs, hby⟩ := info_parts u8info
  rcases Nat.eq_zero_or_pos ys.length with h0 | h0
  · have hy : ys = [] := List.eq_nil_of_length_eq_zero h0
    subst hy
    refine ⟨(some ⟨g, off, none⟩, n), w, ?_, .inl ⟨by rw [List.append_nil]; exact hrx, by simp⟩, Below.refl _ _⟩
    rcases A with _ | ad <;> simp [Builtin.append_, run_underlying Tryd.underlying34, sizeOf, typeInfo, hi, Builtin.lenOf, Builtin.firstCells, storeCells, loadCells, loadCellsFrom]
  · subst hn
    obtain ⟨b, o2, rfl, _, _⟩ := hr.at0 h0
    have hsmall : xs.length + ys.length ≤ maxLen := by simp only [maxLen]; omega
    have hrun := run_append_grow (P := Tryd.prog) w 34 ty 5 i (.int .u8 0) Tryd.underlying34 hi hz ⟨g, off, none⟩ xs.length xs.length (U8 xs) (by simp [U8, hs]) hrx.cells ⟨b, o2, none⟩ ys.length c (U8 ys) (by simp [U8, hs]) hr.cells (by omega) (by simp only [maxLen] at hsmall; omega) (growslice_fits (by omega) (by rw [hby]; omega))
    have hge := grownCap_ge w (xs.length + ys.length) xs.length 5
    have hcm := grownCap_le_maxLen w (xs.length + ys.length) xs.length 5 hsmall
    generalize grownCap w (xs.length + ys.length) xs.length 5 = G at *
    refine ⟨(some ⟨w.heap.size, 0, none⟩, _), _, hrun, .inr (Own.mk' (n := xs.length + ys.length) (l := U8 xs ++ U8 ys) ⟨by simp [U8], .inr ⟨w.heap.size, _, _, rfl, hB, heap_alloc_new w.drew _, hge, hcm, ?_, ?_⟩⟩ (by simp) (U8_append _ _).symm), (Below.refl w.heap.size w).drew.alloc (by simp) _⟩
    · simp only [Array.size_append, List.size_toArray, size_zeroCells, U8_length]
      simp only [Value.cells]
      show xs.length + ys.length + (G - (xs.length + ys.length)) * 1 = G * 1
      omega
    · simp only [Array.toList_append, List.append_assoc]
      rw [← List.append_assoc]
      rw [show (xs.length + ys.length) * 1 = (U8 xs ++ U8 ys).length by simp [U8]]
      exact List.take_left
theorem app_full {w : World} {ops : Array Oper} {rest : List Oper} {o : Oper} {a : Act} {Q : Exit → Act → World → Prop} (hgd : o.guard = none) (s x : Operand)
    (ho : o.op = .call { callee := .builtin .append, args := #[s, x], argTypes := #[34, 34] })
    (g off n : Nat) (xs : List Int) (hs : a.eval s = .slice (some ⟨g, off, none⟩) n n) (hn : xs.length = n) (B : Nat) (hrx : Rd w B (some ⟨g, off, none⟩) .u8 xs) (hB : B ≤ w.heap.size) (B2 : Nat) (A : Option Addr) (m c : Nat) (ys : List Int)
    (hx : a.eval x = .slice A m c) (hm : m = ys.length) (hr : Rd w B2 A .u8 ys) (hb : n + ys.length ≤ 140737488355328)
    (h : ∀ (p : Option Addr × Nat) w', RdL B p (n + m) (xs ++ ys) w' → Below w.heap.size w w' → wpList Tryd.prog ops Q rest (a.put o.dst (.slice p.1 (n + m) p.2)) w') :
    wpList Tryd.prog ops Q (o :: rest) a w := by
  subst hm
  refine wpList_plain hgd fun K hK => ?_
  obtain ⟨p, w', hrun, h2, h3⟩ := run_app_full w o.type g off n xs hn B hrx B2 A c ys hr hB hb
  unfold Oper.wp execOp
  simp only [ho, resolve, invoke, builtin, Sem.run_bind, Sem.run_pure, Result.andThen_ok, List.map_toArray, List.map_cons, List.map_nil, hs, hx, hrun]
  exact hK _ _ (h p w' h2 h3)
section
variable {P : Program} {ops : Array Oper} {Q : Exit → Act → World → Prop} {E : Nat → World → Prop} {S : List Nat} {G : World → World → Prop} {fr : List Nat} {FF : Nat → Value → World → Prop}
end
/-- Two blocks just made, and both stored. -/
theorem two_blocks (w : World) (tH tF : TypeId) (HZ FZ RH RF : Array Value) :
    Blk ((w.alloc (.cells HZ tH)).alloc (.cells FZ tF)) w.heap.size tH HZ ∧ Blk (((w.alloc (.cells HZ tH)).alloc (.cells FZ tF)).setRow w.heap.size RH) (w.heap.size + 1) tF FZ ∧
    ∀ W4, W4 = (((w.alloc (.cells HZ tH)).alloc (.cells FZ tF)).setRow w.heap.size RH).setRow (w.heap.size + 1) RF → Below w.heap.size w W4 ∧ W4.heap.size = w.heap.size + 2 ∧ Blk W4 w.heap.size tH RH ∧ Blk W4 (w.heap.size + 1) tF RF := by
  obtain ⟨h1, h2, h3, h4⟩ := blocks2 (w := w) (A := HZ) (t := tH) (A1 := FZ) (t1 := tF)
  refine ⟨h3, (setRow_other _ _ _ _ (by omega)).trans h4, ?_⟩
  rintro W4 rfl
  refine ⟨below_setRow (below_setRow h1 (Nat.le_refl _) _) (by omega) _, by simp, (setRow_other _ _ _ _ (by omega)).trans (setRow_heap _ _ _ _ _ _ h3), setRow_heap _ _ _ _ _ _ ((setRow_other _ _ _ _ (by omega)).trans h4)⟩
theorem wp_two {P : Program} {c : Code} {Q : Exit → Act → World → Prop} {a : Act} {w : World} {tH tF : TypeId} {HZ FZ RH RF : Array Value}
    (h : ∀ w1, Below w.heap.size w w1 → w1.heap.size = w.heap.size + 2 → Blk w1 w.heap.size tH RH → Blk w1 (w.heap.size + 1) tF RF → c.wp P Q a w1) :
    c.wp P Q a ((((w.alloc (.cells HZ tH)).alloc (.cells FZ tF)).setRow w.heap.size RH).setRow (w.heap.size + 1) RF) := by
  obtain ⟨_, _, h3⟩ := two_blocks w tH tF HZ FZ RH RF
  obtain ⟨a1, a2, a3, a4⟩ := h3 _ rfl
  exact h _ a1 a2 a3 a4
end Go.Proofs.YtebeekjcepjcnaaDoor
