/-
  Facts as an argument: opened to data, and shut again; the table of package icmp, read off the heap as it was laid.
  A packet in small numbers as an argument, opened to data; the tables of bafflelaw10 read off the heap as they were laid.
  The reference of ip: Right, Read.
  The reference of package opts: routes, pointer, excludes, excluded, Routed.
  The reference of package opts: Read.
  The tables of packages icmp and pkt, read off the heap as they were laid; bytes as an argument: opened to a list.
  The tables of the statements about made packets, read off the heap as they were laid.
-/
import Derived.Test.YtebeekjcepjcnaaGreatDoorRows
import Derived.ProofKit
import Derived.LaidMore
import Derived.OpenShut
import Derived.Lay
import Derived.Deep.Strs
import Derived.Deep.Slices
import Derived.Test.YtebeekjcepjcnaaGreatDoorRAwake
import Derived.Test.YtebeekjcepjcnaaGreatDoorRPktr
namespace Go.Proofs.YtebeekjcepjcnaaGreatDoor
open Go.ChangeShapes Go.WideShapes Go.ChangeAt Go.RowKit

section
variable {H : Type} {enc : TypeId × Value → H} {w : World} {base : Nat} {spare : Nat → Bool} {held : Bool}
theorem wf_u8 {n : Int} : (Lit.int .u8 n).wf = true ↔ 0 ≤ n ∧ n < 256 := by simp [Lit.wf, IntKind.min, IntKind.max, IntKind.signed, IntKind.bits]; omega
theorem wf_u16 {n : Int} : (Lit.int .u16 n).wf = true ↔ 0 ≤ n ∧ n < 65536 := by simp [Lit.wf, IntKind.min, IntKind.max, IntKind.signed, IntKind.bits]; omega
theorem wf_u32 {n : Int} : (Lit.int .u32 n).wf = true ↔ 0 ≤ n ∧ n < 4294967296 := by simp [Lit.wf, IntKind.min, IntKind.max, IntKind.signed, IntKind.bits]; omega
theorem cOne8 : Tryz.prog.cellsOf 5 = 1 := by kernel_rfl
theorem cOne16 : Tryz.prog.cellsOf 22 = 1 := by kernel_rfl
theorem cOne32 : Tryz.prog.cellsOf 23 = 1 := by kernel_rfl
/-- One number among the cells. -/
theorem one_int {t : TypeId} {k : IntKind} {n off : Nat} {cs : List Value} {c : Value} {y : DataW H × List MemPlace} (ht : Tryz.prog.underlying t = some (.int k)) (hc : Tryz.prog.cellsOf t = 1) (h1 : (cs.drop off).take 1 = [c])
    (h : DataW.trod enc Tryz.prog w base spare held n t ((cs.drop off).take (Tryz.prog.cellsOf t)) = some y) : ∃ x, c = .int k x ∧ y = (.lit (.int k x), []) ∧ (Lit.int k x).wf = true := by
  rw [hc, h1] at h
  obtain ⟨x, e1, e2, e3⟩ := DataW.trod_int ht h
  simp only [List.cons.injEq, and_true] at e1
  exact ⟨x, e1, e2, e3⟩
end

theorem gSorts : Tryz.prog.globalNamed "baffle/icmp.sorts" = some 0 := by kernel_rfl
theorem tSorts : (Tryz.prog.globals[0]?).map (·.type) = some 123 := by kernel_rfl
theorem cSort : Tryz.prog.cellsOf 122 = 3 := by kernel_rfl
theorem nth_of_take {l : List Value} {a : Nat} {c : Value} (h : (l.drop a).take 1 = [c]) : l[a]? = some c := by
  have h2 : ((l.drop a).take 1)[0]? = some c := by rw [h]; rfl
  rwa [List.getElem?_take_of_lt (by omega), List.getElem?_drop, Nat.add_zero] at h2
theorem sorts_dat {H : Type} (k : Nat) (hk : k < 19) : ∃ l : List (DataW H), Rows.laid_baffle_icmp_sorts = .agg l ∧ l[k]? = some (.agg [.lit (.int .u8 (kindN k)), .lit (.int .u8 (codesN k)), .lit (.int .u8 (replyN k))]) := by
  refine ⟨_, rfl, ?_⟩
  rcases (show k = 0 ∨ k = 1 ∨ k = 2 ∨ k = 3 ∨ k = 4 ∨ k = 5 ∨ k = 6 ∨ k = 7 ∨ k = 8 ∨ k = 9 ∨ k = 10 ∨ k = 11 ∨ k = 12 ∨ k = 13 ∨ k = 14 ∨ k = 15 ∨ k = 16 ∨ k = 17 ∨ k = 18 by omega) with rfl | rfl | rfl | rfl | rfl | rfl | rfl | rfl | rfl | rfl | rfl | rfl | rfl | rfl | rfl | rfl | rfl | rfl | rfl <;> rfl
end Go.Proofs.YtebeekjcepjcnaaGreatDoor
namespace Go.Proofs.YtebeekjcepjcnaaGreatDoor
open Go.ChangeShapes Go.WideShapes Go.ChangeAt Go.RowKit
section
variable {H : Type} {enc : TypeId × Value → H} {w : World}
theorem cSlB : Tryz.prog.cellsOf 26 = 1 := by kernel_rfl
theorem cBool : Tryz.prog.cellsOf 4 = 1 := by kernel_rfl
theorem cS6 : Tryz.prog.cellsOf 62 = 4 := by kernel_rfl
theorem cS8 : Tryz.prog.cellsOf 28 = 22 := by kernel_rfl
theorem cS9 : Tryz.prog.cellsOf 30 = 6 := by kernel_rfl
theorem cS10 : Tryz.prog.cellsOf 32 = 5 := by kernel_rfl
theorem cS11 : Tryz.prog.cellsOf 34 = 41 := by kernel_rfl
theorem cHd : Tryz.prog.cellsOf 25 = 16 := by kernel_rfl
theorem cSlS : Tryz.prog.cellsOf 24 = 1 := by kernel_rfl
set_option maxRecDepth 100000 in
theorem bytes_cell {fuel : Nat} {c : Value} {x : DataW H × List MemPlace} (h : DataW.trod enc Tryz.prog w 0 (fun _ => true) true fuel 26 [c] = some x) :
    ∃ (A : Option Addr) (n cap : Nat) (xs : List Int), c = .slice A n cap ∧ xs.length = n ∧ n ≤ cap ∧ Byt xs ∧ Rd w w.heap.size A .u8 xs := by
  rcases open_ints Tryz.underlying26 Tryz.underlying5 cOne8 h with ⟨hcs, hx⟩ | ⟨a, len', cap', zs, hcs, _, hl, hm, hz, hx, hcell, hwz⟩
  · simp only [List.cons.injEq, and_true] at hcs
    exact ⟨none, 0, 0, [], hcs, rfl, Nat.le_refl _, Byt.nil, Rd.nil⟩
  · simp only [List.cons.injEq, and_true] at hcs
    simp only [if_true] at hz
    refine ⟨some a, len', cap', zs.take len', hcs, by rw [List.length_take]; omega, hl, fun x hx2 => ?_, fun j hj => ?_⟩
    · exact wf_u8.1 (hwz x (List.mem_of_mem_take hx2))
    · rw [List.length_take] at hj
      have hc := hcell j (by omega)
      have hsp : a.spot = none := by simpa [Addr.add] using World.cell?_spot (hcell 0 (by omega))
      obtain ⟨ab, ao, asp⟩ := a
      subst hsp
      have hc2 : w.cell? ⟨ab, ao + j, none⟩ = some (.int .u8 (zs.getD j 0)) := by rwa [Addr.add_mid] at hc
      refine ⟨ab, ao, rfl, World.lt_of_cell hc2, ?_⟩
      rw [hc2, List.getD_eq_getElem?_getD, List.getD_eq_getElem?_getD, List.getElem?_take_of_lt (by omega)]
set_option maxRecDepth 100000 in
theorem one_bool {off : Nat} {cs : List Value} {c : Value} {n : Nat} {y : DataW H × List MemPlace} (h1 : (cs.drop off).take 1 = [c])
    (h : DataW.trod enc Tryz.prog w 0 (fun _ => true) true n 4 ((cs.drop off).take (Tryz.prog.cellsOf 4)) = some y) : ∃ b, c = .bool b := by
  rw [cBool, h1] at h
  obtain ⟨x, e1, e2⟩ := DataW.trod_bool Tryz.underlying4 h
  simp only [List.cons.injEq, and_true] at e1
  exact ⟨x, e1⟩
set_option maxRecDepth 100000 in
theorem one_bytes {off : Nat} {cs : List Value} {c : Value} {n : Nat} {y : DataW H × List MemPlace} (h1 : (cs.drop off).take 1 = [c])
    (h : DataW.trod enc Tryz.prog w 0 (fun _ => true) true n 26 ((cs.drop off).take (Tryz.prog.cellsOf 26)) = some y) :
    ∃ (A : Option Addr) (n cap : Nat) (xs : List Int), c = .slice A n cap ∧ xs.length = n ∧ n ≤ cap ∧ Byt xs ∧ Rd w w.heap.size A .u8 xs := by
  rw [cSlB, h1] at h
  exact bytes_cell h
set_option maxRecDepth 100000 in
theorem sub_trod {n k off : Nat} {t : TypeId} {cs l : List Value} {y : DataW H × List MemPlace} (hc : Tryz.prog.cellsOf t = k) (hl : (cs.drop off).take k = l)
    (h : DataW.trod enc Tryz.prog w 0 (fun _ => true) true n t ((cs.drop off).take (Tryz.prog.cellsOf t)) = some y) : DataW.trod enc Tryz.prog w 0 (fun _ => true) true n t l = some y := by
  rw [hc, hl] at h
  exact h
set_option maxRecDepth 100000 in
theorem open_s6 {n : Nat} {cs : List Value} {y : DataW H × List MemPlace} (h : DataW.trod enc Tryz.prog w 0 (fun _ => true) true n 62 cs = some y) :
    ∃ x : OSm, x.Ok ∧ cs = x.cells ∧ Rd w w.heap.size x.A .u8 x.bytes := by
  obtain ⟨xs, m, _, hx, hcl, hlen, hg⟩ := DataW.trod_struct Tryz.underlying62 h
  rw [cS6] at hcl
  match cs, hcl, xs, hlen with
  | [c0, c1, c2, c3], _, [y0, y1, y2, y3], _ =>
    obtain ⟨a, rfl, _, wa⟩ := one_int Tryz.underlying5 cOne8 rfl (hg 0 _ rfl)
    obtain ⟨b, rfl, _, wb⟩ := one_int Tryz.underlying5 cOne8 rfl (hg 1 _ rfl)
    obtain ⟨c, rfl, _, wc⟩ := one_int Tryz.underlying5 cOne8 rfl (hg 2 _ rfl)
    obtain ⟨A, len, cap, zs, rfl, d1, d2, d3, d4⟩ := one_bytes rfl (hg 3 _ rfl)
    rw [wf_u8] at wa wb wc
    exact ⟨⟨a, b, c, A, len, cap, zs⟩, ⟨wa.1, wa.2, wb.1, wb.2, wc.1, wc.2, d1, d2, d3⟩, rfl, d4⟩
set_option maxRecDepth 100000 in
theorem open_s6s {fuel : Nat} {c : Value} {x : DataW H × List MemPlace} (h : DataW.trod enc Tryz.prog w 0 (fun _ => true) true fuel 24 [c] = some x) :
    ∃ (A : Option Addr) (n cap : Nat) (os : List OSm), c = .slice A n cap ∧ os.length = n ∧ n ≤ cap ∧ OSmAt w w.heap.size A os := by
  rcases Go.Deep.open_slice Tryz.underlying24 h with ⟨hcs, hx⟩ | ⟨a, len, cap, m, n, D, Pl, hcs, _, hl, hm, hmm, hx, hel⟩
  · simp only [List.cons.injEq, and_true] at hcs
    exact ⟨none, 0, 0, [], hcs, rfl, Nat.le_refl _, fun j y hy => by simp at hy⟩
  · simp only [List.cons.injEq, and_true] at hcs
    simp only [if_true] at hmm
    rw [cS6] at hel
    obtain ⟨f, hf⟩ := @Go.Deep.choose_lt OSm ⟨⟨0, 0, 0, none, 0, 0, []⟩⟩ len (fun i y => y.Ok ∧ w.cells? 0 (a.add (i * 4)) 4 = some y.cells ∧ Rd w w.heap.size y.A .u8 y.bytes) (fun i hi => by
      obtain ⟨cs', e1, e2⟩ := hel i (by omega)
      obtain ⟨y, h1, h2, h3⟩ := open_s6 e2
      subst h2
      exact ⟨y, h1, e1, h3⟩)
    refine ⟨some a, len, cap, (List.range len).map f, hcs, by simp, hl, fun j y hy => ?_⟩
    have hj : j < len := by
      have := (List.getElem?_eq_some_iff.1 hy).1
      simpa using this
    have hy2 : f j = y := by simpa [hj] using hy
    subst hy2
    obtain ⟨h1, h2, h3⟩ := hf j hj
    obtain ⟨_, hcl, hci⟩ := World.cells?_some h2
    have hsp : a.spot = none := by
      obtain ⟨_, k2, _⟩ := hf 0 (by omega)
      obtain ⟨_, _, k5⟩ := World.cells?_some k2
      have h9 : w.cell? (a.add (0 + 0)) = some (.int .u8 (f 0).kind) := by
        have := k5 0 (by omega)
        rw [Go.Deep.add_add] at this
        exact this
      simpa [Addr.add] using World.cell?_spot h9
    obtain ⟨ab, ao, asp⟩ := a
    subst hsp
    have hall : ∀ i u, (f j).cells[i]? = some u → w.cell? ⟨ab, ao + j * 4 + i, none⟩ = some u := fun i u hu => by
      have hi : i < 4 := (List.getElem?_eq_some_iff.1 hu).1
      have := hci i hi
      rw [Go.Deep.add_add, Addr.add_mid, hu] at this
      rw [Nat.add_assoc]
      exact this
    exact ⟨h1, ab, ao, rfl, World.lt_of_cell (hall 0 _ rfl), hall, h3⟩
set_option maxRecDepth 100000 in
theorem open_hd {n : Nat} {cs : List Value} {y : DataW H × List MemPlace} (h : DataW.trod enc Tryz.prog w 0 (fun _ => true) true n 25 cs = some y) :
    ∃ l : List Int, l.length = 16 ∧ cs = l.map (Value.int .u8) ∧ Byt l := by
  obtain ⟨xs, m, _, hx, hcl, hlen, hel⟩ := DataW.trod_array Tryz.underlying25 h
  rw [cHd] at hcl
  obtain ⟨f, hf⟩ := @Go.Deep.choose_lt Int ⟨0⟩ 16 (fun i y => cs[i]? = some (.int .u8 y) ∧ 0 ≤ y ∧ y < 256) (fun i hi => by
    have h1 := hel i hi
    have hil : i < xs.length := by omega
    rw [cOne8, List.getElem?_eq_getElem hil, Nat.mul_one] at h1
    obtain ⟨z, e1, _, e3⟩ := DataW.trod_int Tryz.underlying5 h1
    exact ⟨z, nth_of_take e1, wf_u8.1 e3⟩)
  refine ⟨(List.range 16).map f, by simp, ?_, fun b hb => ?_⟩
  · apply List.ext_getElem?
    intro i
    by_cases hi : i < 16
    · rw [(hf i hi).1]; simp [hi]
    · rw [List.getElem?_eq_none (by omega), List.getElem?_eq_none (by simp; omega)]
  · obtain ⟨i, hi, rfl⟩ := List.mem_map.1 hb
    exact (hf i (by simpa using hi)).2

set_option maxRecDepth 100000 in
set_option maxHeartbeats 4000000 in
theorem open_small_cells {fuel : Nat} {cs : List Value} {y : DataW H × List MemPlace} (h : DataW.trod enc Tryz.prog w 0 (fun _ => true) true fuel 34 cs = some y) :
    ∃ x : Sm, x.Ok ∧ cs = x.cells ∧ SmAt w w.heap.size x := by
  obtain ⟨xs, m, _, hx, hcl, hlen, hg⟩ := DataW.trod_struct Tryz.underlying34 h
  rw [cS11] at hcl
  match cs, hcl, xs, hlen with
  | c0 :: c1 :: c2 :: c3 :: c4 :: c5 :: c6 :: c7 :: c8 :: c9 :: c10 :: c11 :: c12 :: c13 :: c14 :: c15 :: c16 :: c17 :: c18 :: c19 :: c20 :: cs2, hcl, [y0, y1, y2, y3, y4, y5, y6, y7, y8, y9, y10], _ =>
  match cs2, (show cs2.length = 20 by simpa using hcl) with
  | [c21, c22, c23, c24, c25, c26, c27, c28, c29, c30, c31, c32, c33, c34, c35, c36, c37, c38, c39, c40], _ =>
    obtain ⟨kind, rfl, _, w0⟩ := one_int Tryz.underlying5 cOne8 rfl (hg 0 _ rfl)
    obtain ⟨tos, rfl, _, w1⟩ := one_int Tryz.underlying5 cOne8 rfl (hg 1 _ rfl)
    obtain ⟨ttl, rfl, _, w2⟩ := one_int Tryz.underlying5 cOne8 rfl (hg 2 _ rfl)
    obtain ⟨ident, rfl, _, w3⟩ := one_int Tryz.underlying22 cOne16 rfl (hg 3 _ rfl)
    obtain ⟨df, rfl⟩ := one_bool rfl (hg 4 _ rfl)
    obtain ⟨src, rfl, _, w5⟩ := one_int Tryz.underlying23 cOne32 rfl (hg 5 _ rfl)
    obtain ⟨dst, rfl, _, w6⟩ := one_int Tryz.underlying23 cOne32 rfl (hg 6 _ rfl)
    have h7 := sub_trod cSlS (l := [c7]) rfl (hg 7 _ rfl)
    have h8 := sub_trod cS8 (l := [c8, c9, c10, c11, c12, c13, c14, c15, c16, c17, c18, c19, c20, c21, c22, c23, c24, c25, c26, c27, c28, c29]) rfl (hg 8 _ rfl)
    have h9 := sub_trod cS9 (l := [c30, c31, c32, c33, c34, c35]) rfl (hg 9 _ rfl)
    have h10 := sub_trod cS10 (l := [c36, c37, c38, c39, c40]) rfl (hg 10 _ rfl)
    obtain ⟨oA, on, oc, os, e7, o1, o2, o3⟩ := open_s6s h7
    subst e7
    obtain ⟨xt, mt, _, _, _, htl, ht⟩ := DataW.trod_struct Tryz.underlying28 h8
    obtain ⟨xu, mu, _, _, _, hul, hu⟩ := DataW.trod_struct Tryz.underlying30 h9
    obtain ⟨xi, mi, _, _, _, hil, hi⟩ := DataW.trod_struct Tryz.underlying32 h10
    match xt, htl, xu, hul, xi, hil with
    | [t0, t1, t2, t3, t4, t5, t6], _, [u0, u1, u2, u3, u4, u5], _, [i0, i1, i2, i3, i4], _ =>
      have th := sub_trod cHd (l := [c8, c9, c10, c11, c12, c13, c14, c15, c16, c17, c18, c19, c20, c21, c22, c23]) rfl (ht 0 _ rfl)
      obtain ⟨hd, hdl, hde, hdb⟩ := open_hd th
      match hd, hdl with
      | [g0, g1, g2, g3, g4, g5, g6, g7, g8, g9, g10, g11, g12, g13, g14, g15], _ =>
        simp only [List.map_cons, List.map_nil, List.cons.injEq, and_true] at hde
        obtain ⟨rfl, rfl, rfl, rfl, rfl, rfl, rfl, rfl, rfl, rfl, rfl, rfl, rfl, rfl, rfl, rfl⟩ := hde
        obtain ⟨tf, rfl, _, w8⟩ := one_int Tryz.underlying5 cOne8 rfl (ht 1 _ rfl)
        obtain ⟨tm, rfl, _, w9⟩ := one_int Tryz.underlying5 cOne8 rfl (ht 2 _ rfl)
        obtain ⟨tw, rfl, _, w10⟩ := one_int Tryz.underlying5 cOne8 rfl (ht 3 _ rfl)
        obtain ⟨ts, rfl, _, w11⟩ := one_int Tryz.underlying23 cOne32 rfl (ht 4 _ rfl)
        obtain ⟨td, rfl, _, w12⟩ := one_int Tryz.underlying23 cOne32 rfl (ht 5 _ rfl)
        obtain ⟨tA, tn, tc, tb, rfl, t1, t2, t3, t4⟩ := one_bytes rfl (ht 6 _ rfl)
        obtain ⟨ufr, rfl, _, w13⟩ := one_int Tryz.underlying22 cOne16 rfl (hu 0 _ rfl)
        obtain ⟨uto, rfl, _, w14⟩ := one_int Tryz.underlying22 cOne16 rfl (hu 1 _ rfl)
        obtain ⟨uck, rfl⟩ := one_bool rfl (hu 2 _ rfl)
        obtain ⟨us, rfl, _, w15⟩ := one_int Tryz.underlying23 cOne32 rfl (hu 3 _ rfl)
        obtain ⟨ud, rfl, _, w16⟩ := one_int Tryz.underlying23 cOne32 rfl (hu 4 _ rfl)
        obtain ⟨uA, un, uc, ub, rfl, u1, u2, u3, u4⟩ := one_bytes rfl (hu 5 _ rfl)
        obtain ⟨ity, rfl, _, w17⟩ := one_int Tryz.underlying5 cOne8 rfl (hi 0 _ rfl)
        obtain ⟨ico, rfl, _, w18⟩ := one_int Tryz.underlying5 cOne8 rfl (hi 1 _ rfl)
        obtain ⟨iid, rfl, _, w19⟩ := one_int Tryz.underlying22 cOne16 rfl (hi 2 _ rfl)
        obtain ⟨isq, rfl, _, w20⟩ := one_int Tryz.underlying22 cOne16 rfl (hi 3 _ rfl)
        obtain ⟨iA, inn, ic, ib, rfl, i1, i2, i3, i4⟩ := one_bytes rfl (hi 4 _ rfl)
        rw [wf_u8] at w0 w1 w2 w8 w9 w10 w17 w18
        rw [wf_u16] at w3 w13 w14 w19 w20
        rw [wf_u32] at w5 w6
        exact ⟨⟨kind, tos, ttl, ident, df, src, dst, oA, on, oc, os, g0, g1, g2, g3, g4, g5, g6, g7, g8, g9, g10, g11, g12, g13, g14, g15, tf, tm, tw, ts, td, tA, tn, tc, tb, ufr, uto, uck, us, ud, uA, un, uc, ub, ity, ico, iid, isq, iA, inn, ic, ib⟩, ⟨w0, w1, w2, w3, w5, w6, ⟨o1, o2⟩, hdb, w8, w9, w10, ⟨t1, t2, t3⟩, w13, w14, ⟨u1, u2, u3⟩, w17, w18, w19, w20, ⟨i1, i2, i3⟩⟩, rfl, ⟨o3, t4, u4, i4⟩⟩

set_option maxRecDepth 100000 in
/-- A packet in small numbers as an argument. -/
theorem open_small {base : Nat} {v : Value} {d : DataW H} {p : List MemPlace} (hv : Value.okWide Tryz.prog w .any base 34 v) (h : DataW.Trod enc Tryz.prog w 0 (fun _ => true) true 34 v d p) :
    ∃ x : Sm, v = x.val ∧ x.Ok ∧ SmAt w w.heap.size x := by
  obtain ⟨cs, rfl, hsz⟩ := okWide_struct Tryz.underlying34 hv
  obtain ⟨l⟩ := cs
  obtain ⟨fuel, hf⟩ := h
  obtain ⟨x, h1, h2, h3⟩ := open_small_cells hf
  have h2' : l = x.cells := h2
  exact ⟨x, by rw [h2']; rfl, h1, h3⟩
end
def Sm.zero : Sm := ⟨0, 0, 0, 0, false, 0, 0, none, 0, 0, [], 0, 0, 0, 0, 0, 0, 0, 0, 0, 0, 0, 0, 0, 0, 0, 0, 0, 0, 0, 0, 0, none, 0, 0, [], 0, 0, false, 0, 0, none, 0, 0, [], 0, 0, 0, 0, none, 0, 0, []⟩

theorem g_queries : Tryz.prog.globalNamed "baffle/bafflelaw10.queries" = some 1 := by kernel_rfl
theorem t_queries : (Tryz.prog.globals[1]?).map (·.type) = some 159 := by kernel_rfl
theorem d_queries {H : Type} (k : Nat) (hk : k < 3) : ∃ l : List (DataW H), Rows.laid_baffle_bafflelaw10_queries = .agg l ∧ l[k]? = some (.lit (.int .u8 (queL.getD k 0))) := by
  refine ⟨_, rfl, ?_⟩
  rcases (show k = 0 ∨ k = 1 ∨ k = 2 by omega) with rfl | rfl | rfl <;> rfl
set_option maxRecDepth 100000 in
theorem queries_of_vars {W : World} {r : List (String × DataW Unit)} {ps : List MemPlace} (h : DataW.LaidVars Tryz.prog W (("baffle/bafflelaw10.queries", Rows.laid_baffle_bafflelaw10_queries) :: r) ps) : TabAt W 1 queL := by
  obtain ⟨g0, t0, cs0, f0, p0, q0, hg0, ht0, hv0, hd0, _⟩ := h
  obtain rfl := Option.some.inj (g_queries.symm.trans hg0)
  obtain rfl := Option.some.inj (t_queries.symm.trans ht0)
  obtain ⟨xs, m, _, hx, _, hlen, hel⟩ := DataW.trod_array Tryz.underlying159 hd0
  intro k hk
  have hk3 : k < 3 := hk
  have h1 := hel k hk3
  rw [cOne8, Nat.mul_one] at h1
  obtain ⟨l, e1, e2⟩ := d_queries k hk3
  simp only [Prod.mk.injEq] at hx
  rw [e1] at hx
  have hl : l = xs.map (·.1) := by simpa using hx.1
  rw [hl, List.getElem?_map] at e2
  obtain ⟨x, hxk, hx1⟩ := Option.map_eq_some_iff.1 e2
  rw [hxk] at h1
  obtain ⟨z, hz, hy, _⟩ := DataW.trod_int Tryz.underlying5 h1
  rw [hy] at hx1
  simp only [DataW.lit.injEq, Lit.int.injEq, true_and] at hx1
  subst hx1
  have := nth_of_take hz
  exact (World.var?_cell hg0 hv0 k).trans (by simpa using this)

theorem g_replies : Tryz.prog.globalNamed "baffle/bafflelaw10.replies" = some 2 := by kernel_rfl
theorem t_replies : (Tryz.prog.globals[2]?).map (·.type) = some 159 := by kernel_rfl
theorem d_replies {H : Type} (k : Nat) (hk : k < 3) : ∃ l : List (DataW H), Rows.laid_baffle_bafflelaw10_replies = .agg l ∧ l[k]? = some (.lit (.int .u8 (repL.getD k 0))) := by
  refine ⟨_, rfl, ?_⟩
  rcases (show k = 0 ∨ k = 1 ∨ k = 2 by omega) with rfl | rfl | rfl <;> rfl
set_option maxRecDepth 100000 in
theorem replies_of_vars {W : World} {r : List (String × DataW Unit)} {ps : List MemPlace} (h : DataW.LaidVars Tryz.prog W (("baffle/bafflelaw10.replies", Rows.laid_baffle_bafflelaw10_replies) :: r) ps) : TabAt W 2 repL := by
  obtain ⟨g0, t0, cs0, f0, p0, q0, hg0, ht0, hv0, hd0, _⟩ := h
  obtain rfl := Option.some.inj (g_replies.symm.trans hg0)
  obtain rfl := Option.some.inj (t_replies.symm.trans ht0)
  obtain ⟨xs, m, _, hx, _, hlen, hel⟩ := DataW.trod_array Tryz.underlying159 hd0
  intro k hk
  have hk3 : k < 3 := hk
  have h1 := hel k hk3
  rw [cOne8, Nat.mul_one] at h1
  obtain ⟨l, e1, e2⟩ := d_replies k hk3
  simp only [Prod.mk.injEq] at hx
  rw [e1] at hx
  have hl : l = xs.map (·.1) := by simpa using hx.1
  rw [hl, List.getElem?_map] at e2
  obtain ⟨x, hxk, hx1⟩ := Option.map_eq_some_iff.1 e2
  rw [hxk] at h1
  obtain ⟨z, hz, hy, _⟩ := DataW.trod_int Tryz.underlying5 h1
  rw [hy] at hx1
  simp only [DataW.lit.injEq, Lit.int.injEq, true_and] at hx1
  subst hx1
  have := nth_of_take hz
  exact (World.var?_cell hg0 hv0 k).trans (by simpa using this)

theorem g_errs : Tryz.prog.globalNamed "baffle/bafflelaw10.errs" = some 3 := by kernel_rfl
theorem t_errs : (Tryz.prog.globals[3]?).map (·.type) = some 45 := by kernel_rfl
theorem c_two : Tryz.prog.cellsOf 44 = 2 := by kernel_rfl
theorem d_errs {H : Type} (k : Nat) (hk : k < 5) : ∃ l : List (DataW H), Rows.laid_baffle_bafflelaw10_errs = .agg l ∧ l[k]? = some (.agg [.lit (.int .u8 (errL.getD (k * 2) 0)), .lit (.int .u8 (errL.getD (k * 2 + 1) 0))]) := by
  refine ⟨_, rfl, ?_⟩
  rcases (show k = 0 ∨ k = 1 ∨ k = 2 ∨ k = 3 ∨ k = 4 by omega) with rfl | rfl | rfl | rfl | rfl <;> rfl
set_option maxRecDepth 100000 in
theorem errs_of_vars {W : World} {r : List (String × DataW Unit)} {ps : List MemPlace} (h : DataW.LaidVars Tryz.prog W (("baffle/bafflelaw10.errs", Rows.laid_baffle_bafflelaw10_errs) :: r) ps) : TabAt W 3 errL := by
  obtain ⟨g0, t0, cs0, f0, p0, q0, hg0, ht0, hv0, hd0, _⟩ := h
  obtain rfl := Option.some.inj (g_errs.symm.trans hg0)
  obtain rfl := Option.some.inj (t_errs.symm.trans ht0)
  obtain ⟨xs, m, _, hx, _, hlen, hel⟩ := DataW.trod_array Tryz.underlying45 hd0
  have key : ∀ k, k < 5 → cs0[k * 2]? = some (.int .u8 (errL.getD (k * 2) 0)) ∧ cs0[k * 2 + 1]? = some (.int .u8 (errL.getD (k * 2 + 1) 0)) := fun k hk => by
    have h1 := hel k hk
    rw [c_two] at h1
    obtain ⟨l, e1, e2⟩ := d_errs k hk
    simp only [Prod.mk.injEq] at hx
    rw [e1] at hx
    have hl : l = xs.map (·.1) := by simpa using hx.1
    rw [hl, List.getElem?_map] at e2
    obtain ⟨x, hxk, hx1⟩ := Option.map_eq_some_iff.1 e2
    rw [hxk] at h1
    obtain ⟨ys, n, _, hy, hcl, hyl, hye⟩ := DataW.trod_array Tryz.underlying44 h1
    rw [c_two] at hcl
    match hcs : (cs0.toList.drop (k * 2)).take 2, hcl, ys, hyl with
    | [c0, c1], _, [y0, y1], _ =>
      rw [hcs] at hye
      have h0 := hye 0 (by omega)
      have h1' := hye 1 (by omega)
      rw [cOne8] at h0 h1'
      obtain ⟨a, ea, ha, _⟩ := DataW.trod_int Tryz.underlying5 h0
      obtain ⟨b, eb, hb, _⟩ := DataW.trod_int Tryz.underlying5 h1'
      simp only [Nat.zero_mul, Nat.one_mul, List.drop_zero, List.drop_succ_cons, List.take_succ_cons, List.take_zero, List.cons.injEq, and_true] at ea eb
      subst ea
      subst eb
      rw [hy] at hx1
      simp only [List.map_cons, List.map_nil, ha, hb, DataW.agg.injEq, List.cons.injEq, DataW.lit.injEq, Lit.int.injEq, true_and, and_true] at hx1
      obtain ⟨q1, q2⟩ := hx1
      have hat : ∀ j, j < 2 → cs0[k * 2 + j]? = ((cs0.toList.drop (k * 2)).take 2)[j]? := fun j hj => by
        rw [List.getElem?_take_of_lt hj, List.getElem?_drop]
        simp
      rw [hcs, q1, q2] at hat
      exact ⟨hat 0 (by omega), hat 1 (by omega)⟩
  intro k hk
  have hk10 : k < 10 := hk
  have := key (k / 2) (by omega)
  refine (World.var?_cell hg0 hv0 k).trans ?_
  rcases Nat.mod_two_eq_zero_or_one k with h | h
  · rw [show k / 2 * 2 = k by omega] at this
    exact this.1
  · rw [show k / 2 * 2 + 1 = k by omega] at this
    exact this.2
end Go.Proofs.YtebeekjcepjcnaaGreatDoor
namespace Go.Proofs.YtebeekjcepjcnaaGreatDoor
open Go.RowKit
def hst (a0 a1 a2 a3 a4 a5 a6 a7 a8 : Value) : Nat → Array Value
  | 0 => #[.int .u8 0, .int .u16 0, .bool false, .bool false, .int .i64 0, .int .u8 0, .int .u8 0, .int .u32 0, .int .u32 0, .slice none 0 0]
  | 1 => #[a0, .int .u16 0, .bool false, .bool false, .int .i64 0, .int .u8 0, .int .u8 0, .int .u32 0, .int .u32 0, .slice none 0 0]
  | 2 => #[a0, a1, .bool false, .bool false, .int .i64 0, .int .u8 0, .int .u8 0, .int .u32 0, .int .u32 0, .slice none 0 0]
  | 3 => #[a0, a1, a2, .bool false, .int .i64 0, .int .u8 0, .int .u8 0, .int .u32 0, .int .u32 0, .slice none 0 0]
  | 4 => #[a0, a1, a2, a3, .int .i64 0, .int .u8 0, .int .u8 0, .int .u32 0, .int .u32 0, .slice none 0 0]
  | 5 => #[a0, a1, a2, a3, a4, .int .u8 0, .int .u8 0, .int .u32 0, .int .u32 0, .slice none 0 0]
  | 6 => #[a0, a1, a2, a3, a4, a5, .int .u8 0, .int .u32 0, .int .u32 0, .slice none 0 0]
  | 7 => #[a0, a1, a2, a3, a4, a5, a6, .int .u32 0, .int .u32 0, .slice none 0 0]
  | 8 => #[a0, a1, a2, a3, a4, a5, a6, a7, .int .u32 0, .slice none 0 0]
  | _ => #[a0, a1, a2, a3, a4, a5, a6, a7, a8, .slice none 0 0]
end Go.Proofs.YtebeekjcepjcnaaGreatDoor
namespace Go.Proofs.YtebeekjcepjcnaaGreatDoor
open Go.RowKit
section
variable {W : World} {B : Nat} {A : Option Addr} {ks : List Int}
theorem OptsAt.at_ (h : OptsAt W B A ks) (k : Nat) (hk : k < ks.length) : ∃ b off, A = some ⟨b, off, none⟩ ∧ b < B ∧ W.cell? ⟨b, off + k * 2, none⟩ = some (.int .u8 (ks.getD k 0)) := by
  obtain ⟨b, off, v, e, hb, _, hc, _⟩ := h k hk
  exact ⟨b, off, e, hb, hc⟩
end
end Go.Proofs.YtebeekjcepjcnaaGreatDoor
namespace Go.Proofs.YtebeekjcepjcnaaGreatDoor
open Go.RowKit
theorem OptsAt.more {W : World} {B C : Nat} {A : Option Addr} {ks : List Int} (h : OptsAt W B A ks) (hC : B ≤ C) : OptsAt W C A ks := fun j hj => by
  obtain ⟨b, off, v, e, hB, h1, h2, h3⟩ := h j hj
  exact ⟨b, off, v, e, by omega, h1, h2, h3⟩
end Go.Proofs.YtebeekjcepjcnaaGreatDoor
namespace Go.Proofs.YtebeekjcepjcnaaGreatDoor
open Go.ChangeShapes Go.WideShapes Go.ChangeAt Go.RowKit
set_option maxRecDepth 100000 in
theorem sorts_of_vars {W : World} {r : List (String × DataW Unit)} {ps : List MemPlace} (h : DataW.LaidVars Tryz.prog W (("baffle/icmp.sorts", Rows.laid_baffle_icmp_sorts) :: r) ps) : SortsAt W := by
  obtain ⟨g0, t0, cs0, f0, p0, q0, hg0, ht0, hv0, hd0, _⟩ := h
  obtain rfl := Option.some.inj (gSorts.symm.trans hg0)
  obtain rfl := Option.some.inj (tSorts.symm.trans ht0)
  obtain ⟨xs, m, _, hx, _, hlen, hel⟩ := DataW.trod_array Tryz.underlying123 hd0
  intro k hk
  have h1 := hel k hk
  rw [cSort] at h1
  obtain ⟨l, e1, e2⟩ := sorts_dat k hk
  simp only [Prod.mk.injEq] at hx
  rw [e1] at hx
  have hl : l = xs.map (·.1) := by simpa using hx.1
  rw [hl, List.getElem?_map] at e2
  obtain ⟨x, hxk, hx1⟩ := Option.map_eq_some_iff.1 e2
  rw [hxk] at h1
  obtain ⟨y0, y1, y2, n, hy, hcl, t0, t1, t2⟩ := Go.Deep.trod_struct3 Tryz.underlying122 h1
  rw [cSort] at hcl
  match hcs : (cs0.toList.drop (k * 3)).take 3, hcl with
  | [c0, c1, c2], _ =>
    rw [hcs] at t0 t1 t2
    obtain ⟨a, rfl, rfl, _⟩ := one_int Tryz.underlying5 cOne8 rfl t0
    obtain ⟨b, rfl, rfl, _⟩ := one_int Tryz.underlying5 cOne8 rfl t1
    obtain ⟨c, rfl, rfl, _⟩ := one_int Tryz.underlying5 cOne8 rfl t2
    rw [hy] at hx1
    simp only [DataW.agg.injEq, List.cons.injEq, DataW.lit.injEq, Lit.int.injEq, true_and, and_true] at hx1
    obtain ⟨rfl, rfl, rfl⟩ := hx1
    have hat : ∀ j, j < 3 → cs0[k * 3 + j]? = ((cs0.toList.drop (k * 3)).take 3)[j]? := fun j hj => by
      rw [List.getElem?_take_of_lt hj, List.getElem?_drop]
      simp
    refine ⟨?_, ?_, ?_⟩
    · have := hat 0 (by omega)
      rw [hcs] at this
      exact (World.var?_cell hg0 hv0 (k * 3)).trans this
    · have := hat 1 (by omega)
      rw [hcs] at this
      exact (World.var?_cell hg0 hv0 (k * 3 + 1)).trans this
    · have := hat 2 (by omega)
      rw [hcs] at this
      exact (World.var?_cell hg0 hv0 (k * 3 + 2)).trans this
set_option maxRecDepth 100000 in
theorem laidOut : laidOutB Tryz.prog = true := by kernel_rfl
end Go.Proofs.YtebeekjcepjcnaaGreatDoor
namespace Go.Proofs.YtebeekjcepjcnaaGreatDoor
open Go.ChangeShapes Go.WideShapes Go.ChangeAt Go.RowKit
set_option maxRecDepth 100000 in
theorem tabs_of_vars {W : World} {r : List (String × DataW Unit)} {ps : List MemPlace} (h : DataW.LaidVars Tryz.prog W (("baffle/icmp.sorts", Rows.laid_baffle_icmp_sorts) :: ("baffle/bafflelaw10.queries", Rows.laid_baffle_bafflelaw10_queries) :: ("baffle/bafflelaw10.replies", Rows.laid_baffle_bafflelaw10_replies) :: ("baffle/bafflelaw10.errs", Rows.laid_baffle_bafflelaw10_errs) :: r) ps) :
    SortsAt W ∧ Tabs W ∧ ∃ qs, DataW.LaidVars Tryz.prog W r qs := by
  have h1 := sorts_of_vars h
  obtain ⟨_, _, _, _, _, q1, _, _, _, _, k1, _⟩ := h
  have h2 := queries_of_vars k1
  obtain ⟨_, _, _, _, _, q2, _, _, _, _, k2, _⟩ := k1
  have h3 := replies_of_vars k2
  obtain ⟨_, _, _, _, _, q3, _, _, _, _, k3, _⟩ := k2
  have h4 := errs_of_vars k3
  obtain ⟨_, _, _, _, _, q4, _, _, _, _, k4, _⟩ := k3
  exact ⟨h1, ⟨h2, h3, h4⟩, q4, k4⟩
set_option maxRecDepth 100000 in
theorem tabs_of_laid {W : World} (h : laidMetH Tryz.prog [("baffle/icmp.sorts", Rows.laid_baffle_icmp_sorts), ("baffle/bafflelaw10.queries", Rows.laid_baffle_bafflelaw10_queries), ("baffle/bafflelaw10.replies", Rows.laid_baffle_bafflelaw10_replies), ("baffle/bafflelaw10.errs", Rows.laid_baffle_bafflelaw10_errs)] W) : SortsAt W ∧ Tabs W := by
  rw [MakeChecks.laidMetH_plain _ _ _ (by kernel_rfl)] at h
  obtain ⟨ps, h1, _⟩ := h
  exact ⟨(tabs_of_vars h1).1, (tabs_of_vars h1).2.1⟩
end Go.Proofs.YtebeekjcepjcnaaGreatDoor
