/-
  What bafflelaw11.Made returns is a packet that is read; an append onto a slice without room.
  What content of the fourth kind is: an error with a quote that is read.
-/
import Derived.Lib.MinMax
import Derived.WalkKit
import Derived.WalkSpells
import Derived.WalkLawsBesides
import Derived.WalkSmall
import Derived.Lib.Hide
import Derived.Deep.AppendLies
import Derived.Maps.AppendAt
import Derived.Laws.AppendOwnNone
import Derived.Laws.CopyOwn
import Derived.OneCell
import Derived.Test.YtebeekjcepjcnaaDoorProg
import Derived.Lib.SliceRun
import Derived.RangeFuncNested
import Derived.RangeFuncBound
import Derived.RangeFuncCalls
import Derived.RangeFuncLeaves
import Derived.Shelf.Abstract
import Derived.OwnWalkIn
import Derived.TacticsInMore
import Derived.LoopNIn
import Derived.LoopIn
import Derived.Lib.AppendZeros
import Derived.BigRegion
import Derived.ChangeAlike
import Derived.Deep.RegionLaw
import Derived.Deep.DeepCutAuto
import Derived.Orders
import Derived.RegionTactic
import Derived.Still
import Derived.Deep.MidRow
import Derived.Deep.RegionHeld3
import Derived.MapKept
import Derived.RegionIn
import Derived.Laws.StructEq
import Derived.Laws.BitsAllLaws
import Derived.Deep.CutBlock
import Derived.Test.YtebeekjcepjcnaaDoorFBase
import Derived.Test.YtebeekjcepjcnaaDoorFBits
import Derived.Test.YtebeekjcepjcnaaDoorFCsum
import Derived.Test.YtebeekjcepjcnaaDoorFSum
import Derived.Test.YtebeekjcepjcnaaDoorFConcat
import Derived.Test.YtebeekjcepjcnaaDoorFFix
import Derived.Test.YtebeekjcepjcnaaDoorFFacts
import Derived.Test.YtebeekjcepjcnaaDoorFPkt
import Derived.Test.YtebeekjcepjcnaaDoorFRegion
import Derived.Test.YtebeekjcepjcnaaDoorFWalk
import Derived.Test.YtebeekjcepjcnaaDoorFStep
import Derived.Test.YtebeekjcepjcnaaDoorFTcpw
import Derived.Test.YtebeekjcepjcnaaDoorFUdpw
import Derived.Test.YtebeekjcepjcnaaDoorFData
import Derived.Test.YtebeekjcepjcnaaDoorFIprd
import Derived.Test.YtebeekjcepjcnaaDoorFFold
import Derived.Test.YtebeekjcepjcnaaDoorFIpre
import Derived.Test.YtebeekjcepjcnaaDoorFIpread
import Derived.Test.YtebeekjcepjcnaaDoorFOptsa
import Derived.Test.YtebeekjcepjcnaaDoorFOptsb
import Derived.Test.YtebeekjcepjcnaaDoorFOptsc
import Derived.Test.YtebeekjcepjcnaaDoorFOptsd
import Derived.Test.YtebeekjcepjcnaaDoorFTcprd
import Derived.Test.YtebeekjcepjcnaaDoorFEq
import Derived.Test.YtebeekjcepjcnaaDoorFMade8
import Derived.Test.YtebeekjcepjcnaaDoorFIpback
import Derived.Test.YtebeekjcepjcnaaDoorFMade6p
import Derived.Test.YtebeekjcepjcnaaDoorFOptw
import Derived.Test.YtebeekjcepjcnaaDoorFMade10
import Derived.Test.YtebeekjcepjcnaaDoorFMade9
import Derived.Test.YtebeekjcepjcnaaDoorFPright
import Derived.Test.YtebeekjcepjcnaaDoorFPktlen
import Derived.Test.YtebeekjcepjcnaaDoorFSm
import Derived.Test.YtebeekjcepjcnaaDoorFUdprd
import Derived.Test.YtebeekjcepjcnaaDoorFIcmprd
import Derived.Test.YtebeekjcepjcnaaDoorFContt
import Derived.Test.YtebeekjcepjcnaaDoorFMade11p
namespace Go.Proofs.YtebeekjcepjcnaaDoor
open Go.RowKit
structure M11Law (x : Sm) (os : List OE) (data : List Int) (f : Facts) : Prop where
  ok : (m11H x f.key.proto os).Ok
  right : (m11H x f.key.proto os).Right data.length
  reason : (m11H x f.key.proto os).reason = 0
  optl : (m11H x f.key.proto os).opts.length ≤ 40
  proto : f.key.proto = 6 ∨ f.key.proto = 17 ∨ f.key.proto = 1
  byt : Byt (ipWriteL (m11H x f.key.proto os) data)
  len : (ipWriteL (m11H x f.key.proto os) data).length ≤ 460
  back : ∀ behind, pktR (ipWriteL (m11H x f.key.proto os) data ++ behind) = 0 ∧ pktF (ipWriteL (m11H x f.key.proto os) data ++ behind) = m11F x f
  fok : (m11F x f).Ok
  fright : (m11F x f).right = true
theorem m11_law {x : Sm} (hx : x.Ok) {os : List OE} (hos : OsOk os) {k : Nat} {data : List Int} {f : Facts} (hC : Cont k data f) (hk : k < 4) : M11Law x os data f := by
  have hol := hos.len
  have hob := oeB_byt hos
  have hsb := hostI_bd x.src
  have hdb := dstI_ne x.src x.dst hx.dst.1 hx.dst.2
  have hzl : (List.replicate ((4 - (oeB os).length % 4) % 4) (0 : Int)).length = (4 - (oeB os).length % 4) % 4 := List.length_replicate
  have holl : (m11H x f.key.proto os).opts.length = (oeB os).length + (4 - (oeB os).length % 4) % 4 := by
    show (oeB os ++ List.replicate _ _).length = _
    rw [List.length_append, hzl]
  have hpr : f.key.proto = 6 ∨ f.key.proto = 17 ∨ f.key.proto = 1 := by
    rw [hC.proto]
    rcases (show k = 0 ∨ k = 1 ∨ k = 2 ∨ k = 3 by omega) with rfl | rfl | rfl | rfl <;> simp
  have hlen := hC.len
  have hOk : (m11H x f.key.proto os).Ok := ⟨hx.tos.1, hx.tos.2, hx.id.1, hx.id.2, (by show 0 ≤ max x.ttl 1; omega), (by have := hx.ttl.2; show max x.ttl 1 < 256; omega), (by show 0 ≤ f.key.proto; omega), (by show f.key.proto < 256; omega), (by show 0 ≤ hostI x.src; omega), (by show hostI x.src < _; omega), (by show 0 ≤ dstI x.src x.dst; omega), (by show dstI x.src x.dst < _; omega), hob.append (Byt.zeros _)⟩
  have hR : (m11H x f.key.proto os).Right data.length := ⟨show (0 : Int) ≤ 0 by decide, show (0 : Int) ≤ 65528 by decide, rfl, by rw [holl]; omega, by rw [holl]; omega, by rw [holl]; omega, by show (0 : Int) + data.length ≤ 65515; omega, fun h => by simp [m11H] at h⟩
  have hrs : (m11H x f.key.proto os).reason = 0 := by
    obtain ⟨r1, r2⟩ := optRead_os hos ((4 - (oeB os).length % 4) % 4) (by omega)
    unfold IpH.reason
    have e1 : (m11H x f.key.proto os).opts = oeB os ++ List.replicate ((4 - (oeB os).length % 4) % 4) 0 := rfl
    have s1 : strangeB (hostI x.src) = false := by unfold strangeB; simp; omega
    have s2 : strangeB (dstI x.src x.dst) = false := by unfold strangeB; simp; omega
    have s3 : (hostI x.src == dstI x.src x.dst) = false := by
      have := hdb.1
      simp only [beq_eq_false_iff_ne, ne_eq]
      exact fun h => this h.symm
    rw [if_neg (by simp [m11H]), e1, r1]
    rw [if_neg (by simp), if_neg (by rw [r2]; decide), if_neg (by show ¬ max x.ttl 1 = 0; omega), if_neg]
    show ¬ (strangeB (hostI x.src) || strangeB (dstI x.src x.dst) || hostI x.src == dstI x.src x.dst) = true
    rw [s1, s2, s3]
    decide
  have hby : Byt (ipWriteL (m11H x f.key.proto os) data) := ipWriteL_byt hOk hR.len hC.byt
  have hll : (ipWriteL (m11H x f.key.proto os) data).length ≤ 460 := by rw [ipWriteL_len, holl]; omega
  have hbk : ∀ behind, pktR (ipWriteL (m11H x f.key.proto os) data ++ behind) = 0 ∧ pktF (ipWriteL (m11H x f.key.proto os) data ++ behind) = m11F x f := fun behind => by
    obtain ⟨p1, p2⟩ := pkt_back (m11H x f.key.proto os) data behind hOk hR
    have hp : (m11H x f.key.proto os).proto = f.key.proto := rfl
    rw [hrs, if_neg (by simp), hp, if_neg (by omega), hC.data] at p1
    have h0 : reasonOf 0 = 0 := by decide
    rw [h0] at p1
    refine ⟨p1, (p2 p1).trans ?_⟩
    rw [hp, hC.facts _ hp]
    rfl
  have hb0 := hbk []
  rw [List.append_nil] at hb0
  refine ⟨hOk, hR, hrs, hR.len, hpr, hby, hll, hbk, ?_, ?_⟩
  · rw [← hb0.2]; exact pktF_ok hby (by omega)
  · rw [← hb0.2]; exact pkt_right hby hb0.1
/-- A slice that can be read: an old one, or a row of the call's own. -/
def RdL (B : Nat) (p : Option Addr × Nat) (k : Nat) (xs : List Int) (W : World) : Prop := (Rd W B p.1 .u8 xs ∧ k ≤ p.2) ∨ Own W B (.slice p.1 k p.2) xs
theorem RdL.rd {B k : Nat} {p : Option Addr × Nat} {xs : List Int} {W : World} (h : RdL B p k xs W) (hB : B ≤ W.heap.size) : Rd W W.heap.size p.1 .u8 xs ∧ k ≤ p.2 := by
  rcases h with h | h
  · exact ⟨h.1.more hB, h.2⟩
  · obtain ⟨A, c, e, h1, h2, _⟩ := h.open_
    simp only [Value.slice.injEq] at e
    obtain ⟨e1, e2, e3⟩ := e
    exact ⟨by rw [e1]; exact h1, by rw [e2, e3]; exact h2⟩
theorem Own.late {B b : Nat} {v : Value} {xs : List Int} {z n : Array Value} {W W' : World} (h : Own W b v xs) (hG : Late B 27 z n W W') : Own W' b v xs := by
  refine ⟨h.1, ?_⟩
  rcases h.2 with h2 | ⟨g, cap, cur, e, hb, hg, r⟩
  · exact .inl h2
  · exact .inr ⟨g, cap, cur, e, hb, hG.keep g _ hg (by intro h; injection h with _ h2; exact absurd h2 (by decide)), r⟩
theorem RdL.keep {B k : Nat} {p : Option Addr × Nat} {xs : List Int} {z n : Array Value} {W W' : World} (h : RdL B p k xs W) (hG : Late B 27 z n W W') : RdL B p k xs W' := by
  rcases h with h | h
  · exact .inl ⟨h.1.below hG.below (Nat.le_refl _), h.2⟩
  · exact .inr (h.late hG)
theorem RdL.below {B C k : Nat} {p : Option Addr × Nat} {xs : List Int} {W W' : World} (h : RdL B p k xs W) (hb : Below C W W') (hB : B ≤ C) (hC : W.heap.size ≤ C) : RdL B p k xs W' := by
  rcases h with h | h
  · exact .inl ⟨h.1.below hb hB, h.2⟩
  · exact .inr (h.below hb hC)
theorem run_app_full (w : World) (ty : TypeId) (g off n : Nat) (xs : List Int) (hn : xs.length = n) (B : Nat) (hrx : Rd w B (some ⟨g, off, none⟩) .u8 xs) (B2 : Nat) (A : Option Addr) (c : Nat) (ys : List Int) (hr : Rd w B2 A .u8 ys) (hB : B ≤ w.heap.size)
    (hb : n + ys.length ≤ 140737488355328) :
    ∃ p : Option Addr × Nat, ∃ w', (Builtin.append_ #[34, 34] ty #[.slice (some ⟨g, off, none⟩) n n, .slice A ys.length c]).run Tryd.prog w = .ok (.slice p.1 (n + ys.length) p.2) w' ∧ RdL B p (n + ys.length) (xs ++ ys) w' ∧ Below w.heap.size w w' := by
  obtain ⟨i, hi, hz, hs, hby⟩ := info_parts u8info
  rcases Nat.eq_zero_or_pos ys.length with h0 | h0
  · have hy : ys = [] := List.eq_nil_of_length_eq_zero h0
    subst hy
    refine ⟨(some ⟨g, off, none⟩, n), w, ?_, .inl ⟨by rw [List.append_nil]; exact hrx, by simp⟩, Below.refl _ _⟩
    rcases A with _ | ad <;> simp [Builtin.append_, run_underlying Tryd.underlying34, sizeOf, typeInfo, hi, Builtin.lenOf, Builtin.firstCells, storeCells, loadCells, loadCellsFrom]
  · subst hn
    obtain ⟨b, o2, rfl, _, _⟩ := hr.at0 h0
    have hsmall : xs.length + ys.length ≤ maxLen := by simp only [maxLen]; omega
    have hrun := run_append_grow (P := Tryd.prog) w 34 ty 5 i (.int .u8 0) Tryd.underlying34 hi hz ⟨g, off, none⟩ xs.length xs.length (U8 xs) (by simp [U8, hs]) hrx.cells ⟨b, o2, none⟩ ys.length c (U8 ys) (by simp [U8, hs]) hr.cells (by omega) (by simp only [maxLen] at hsmall; omega) (growslice_fits (by omega) (by rw [hby]; omega))
    have hge := grownCap_ge w (xs.length + ys.length) xs.length 5
    have hcm := grownCap_le_maxLen w (xs.length + ys.length) xs.length 5 hsmall
    generalize grownCap w (xs.length + ys.length) xs.length 5 = G at *
    refine ⟨(some ⟨w.heap.size, 0, none⟩, _), _, hrun, .inr (Own.mk' (n := xs.length + ys.length) (l := U8 xs ++ U8 ys) ⟨by simp [U8], .inr ⟨w.heap.size, _, _, rfl, hB, heap_alloc_new w.drew _, hge, hcm, ?_, ?_⟩⟩ (by simp) (U8_append _ _).symm), (Below.refl w.heap.size w).drew.alloc (by simp) _⟩
    · simp only [Array.size_append, List.size_toArray, size_zeroCells, U8_length]
      simp only [Value.cells]
      show xs.length + ys.length + (G - (xs.length + ys.length)) * 1 = G * 1
      omega
    · simp only [Array.toList_append, List.append_assoc]
      rw [← List.append_assoc]
      rw [show (xs.length + ys.length) * 1 = (U8 xs ++ U8 ys).length by simp [U8]]
      exact List.take_left
theorem app_full {w : World} {ops : Array Oper} {rest : List Oper} {o : Oper} {a : Act} {Q : Exit → Act → World → Prop} (hgd : o.guard = none) (s x : Operand)
    (ho : o.op = .call { callee := .builtin .append, args := #[s, x], argTypes := #[34, 34] })
    (g off n : Nat) (xs : List Int) (hs : a.eval s = .slice (some ⟨g, off, none⟩) n n) (hn : xs.length = n) (B : Nat) (hrx : Rd w B (some ⟨g, off, none⟩) .u8 xs) (hB : B ≤ w.heap.size) (B2 : Nat) (A : Option Addr) (m c : Nat) (ys : List Int)
    (hx : a.eval x = .slice A m c) (hm : m = ys.length) (hr : Rd w B2 A .u8 ys) (hb : n + ys.length ≤ 140737488355328)
    (h : ∀ (p : Option Addr × Nat) w', RdL B p (n + m) (xs ++ ys) w' → Below w.heap.size w w' → wpList Tryd.prog ops Q rest (a.put o.dst (.slice p.1 (n + m) p.2)) w') :
    wpList Tryd.prog ops Q (o :: rest) a w := by
  subst hm
  refine wpList_plain hgd fun K hK => ?_
  obtain ⟨p, w', hrun, h2, h3⟩ := run_app_full w o.type g off n xs hn B hrx B2 A c ys hr hB hb
  unfold Oper.wp execOp
  simp only [ho, resolve, invoke, builtin, Sem.run_bind, Sem.run_pure, Result.andThen_ok, List.map_toArray, List.map_cons, List.map_nil, hs, hx, hrun]
  exact hK _ _ (h p w' h2 h3)
section
variable {P : Program} {ops : Array Oper} {Q : Exit → Act → World → Prop} {E : Nat → World → Prop} {S : List Nat} {G : World → World → Prop} {fr : List Nat} {FF : Nat → Value → World → Prop}
/-- For each free operation among these: all others behind it wait for it. -/
def freeRest (ops : Array Oper) (fr : List Nat) : List Nat → Bool
  | [] => true
  | k :: rest => (if fr.contains k then waitAll ops fr [k] rest else true) && (ops[k]?).isSome && freeRest ops fr rest
theorem Walk.vacF (hk : ∀ k u W W', FF k u W → G W W' → FF k u W') : ∀ (l : List Nat) (Fs : List (World → Prop)) (a : Act), (∀ W, ¬ Facts' Fs W) → freeRest ops fr l = true → Walk P ops Q E S G fr FF Fs l a
  | [], _, _, h, _ => fun W _ hF => (h W hF).elim
  | k :: l, Fs, a, h, hl => by
    simp only [freeRest, Bool.and_eq_true] at hl
    obtain ⟨⟨h1, h2⟩, h3⟩ := hl
    obtain ⟨o, ho⟩ := Option.isSome_iff_exists.1 h2
    by_cases hf : fr.contains k = true
    · rw [if_pos hf] at h1
      exact ⟨o, ho, .inr ⟨FF k, fun _ => rfl, hk k, h1, fun c W _ _ hF => (h W hF).elim, fun u => Walk.vacF hk l _ _ (fun W hF => h W hF.tail) h3⟩⟩
    · exact ⟨o, ho, .inl ⟨undef, by simpa using hf, fun c W _ _ hF => (h W hF).elim, Walk.vacF hk l _ _ h h3⟩⟩
/-- An operation whose value has this form; what is behind it may be free. -/
theorem Walk.anyOfF {Fs : List (World → Prop)} {k : Nat} {o : Oper} {rest : List Nat} {a : Act} {α : Type} (form : α → Value) (hinj : ∀ x y, form x = form y → x = y) (F : α → World → Prop) (hF : ∀ x W W', F x W → G W W' → F x W') (hk : ∀ k u W W', FF k u W → G W W' → FF k u W') (ho : ops.toList[k]? = some o) (hs : S.contains k = false) (hf : fr.contains k = false) (hw : waitAll ops fr [k] rest = true) (hp : freeRest ops fr rest = true)
    (hrun : ∀ c W, E c W → Facts' Fs W → wpList P ops (Exit.then (AnyOf a o.dst form F fun W' => G W W' ∧ E c W') NoQ) [o] a W) (hrest : ∀ x, Walk P ops Q E S G fr FF (F x :: Fs) rest (a.put o.dst (form x))) : Walk P ops Q E S G fr FF Fs (k :: rest) a := by
  refine Walk.any (fun u W => ∃ x, u = form x ∧ F x W) (fun u W W' ⟨x, e, h⟩ hG => ⟨x, e, hF x W W' h hG⟩) (ops_at ho) hs hf hw (fun c W hE hFs => ?_) (fun u => ?_)
  · refine wpList_mono_then ?_ (hrun c W hE hFs)
    rintro a' W' ⟨x, e, h, hH⟩
    exact ⟨form x, e, ⟨x, rfl, h⟩, hH⟩
  · by_cases hu : ∃ x, u = form x
    · obtain ⟨x, rfl⟩ := hu
      refine Walk.weaken rest _ _ _ (fun W hF f hf => ?_) (hrest x)
      rcases List.mem_cons.1 hf with rfl | hf
      · obtain ⟨y, e, h⟩ := hF.head
        rw [hinj x y e]; exact h
      · exact hF.tail f hf
    · exact Walk.vacF hk rest _ _ (fun W hF => by obtain ⟨x, e, _⟩ := hF.head; exact hu ⟨x, e⟩) hp
end
/-- Two blocks just made, and both stored. -/
theorem two_blocks (w : World) (tH tF : TypeId) (HZ FZ RH RF : Array Value) :
    Blk ((w.alloc (.cells HZ tH)).alloc (.cells FZ tF)) w.heap.size tH HZ ∧ Blk (((w.alloc (.cells HZ tH)).alloc (.cells FZ tF)).setRow w.heap.size RH) (w.heap.size + 1) tF FZ ∧
    ∀ W4, W4 = (((w.alloc (.cells HZ tH)).alloc (.cells FZ tF)).setRow w.heap.size RH).setRow (w.heap.size + 1) RF → Below w.heap.size w W4 ∧ W4.heap.size = w.heap.size + 2 ∧ Blk W4 w.heap.size tH RH ∧ Blk W4 (w.heap.size + 1) tF RF := by
  obtain ⟨h1, h2, h3, h4⟩ := blocks2 (w := w) (A := HZ) (t := tH) (A1 := FZ) (t1 := tF)
  refine ⟨h3, (setRow_other _ _ _ _ (by omega)).trans h4, ?_⟩
  rintro W4 rfl
  refine ⟨below_setRow (below_setRow h1 (Nat.le_refl _) _) (by omega) _, by simp, (setRow_other _ _ _ _ (by omega)).trans (setRow_heap _ _ _ _ _ _ h3), setRow_heap _ _ _ _ _ _ ((setRow_other _ _ _ _ (by omega)).trans h4)⟩
theorem wp_two {P : Program} {c : Code} {Q : Exit → Act → World → Prop} {a : Act} {w : World} {tH tF : TypeId} {HZ FZ RH RF : Array Value}
    (h : ∀ w1, Below w.heap.size w w1 → w1.heap.size = w.heap.size + 2 → Blk w1 w.heap.size tH RH → Blk w1 (w.heap.size + 1) tF RF → c.wp P Q a w1) :
    c.wp P Q a ((((w.alloc (.cells HZ tH)).alloc (.cells FZ tF)).setRow w.heap.size RH).setRow (w.heap.size + 1) RF) := by
  obtain ⟨_, _, h3⟩ := two_blocks w tH tF HZ FZ RH RF
  obtain ⟨a1, a2, a3, a4⟩ := h3 _ rfl
  exact h _ a1 a2 a3 a4
end Go.Proofs.YtebeekjcepjcnaaDoor
namespace Go.Proofs.YtebeekjcepjcnaaDoor
open Go.RowKit
theorem cont_quote {k : Nat} {b rest : List Int} {f : Facts} {h : IpH} {t c : Nat} {i s : Int} (hC : Cont k b f) (hk3 : k < 3) (ho : h.Ok) (hR : h.Right b.length) (hoff : h.off = 0) (hp : h.proto = f.key.proto) (h8 : 8 ≤ rest.length) (hrl : rest.length ≤ b.length) (hrb : Byt rest) (hpre : ∀ i, i < 8 → rest.getD i 0 = b.getD i 0)
    (ht : t < 256) (hc : c < 256) (i0 : 0 ≤ i) (i1 : i < 65536) (s0 : 0 ≤ s) (s1 : s < 65536) (hkk : kind2 t c = 0) (h5 : kind1 t c = 5) :
    Cont 3 (icmpL t c i s (headL h b.length ++ rest)) { Facts.zero with key := ⟨1, 0, 0, 0, 0⟩, kind := 5, type := t, code := c, length := (headL h b.length ++ rest).length, quoted := { f.key with src := h.src, dst := h.dst }, qkind := f.kind } := by
  have hfk : f.kind ≠ 5 := by
    obtain ⟨k0, k1, k2, _⟩ := hC.kind
    rcases (show k = 0 ∨ k = 1 ∨ k = 2 by omega) with rfl | rfl | rfl
    · rw [k0 rfl]; decide
    · rw [k1 rfl]; decide
    · rcases k2 rfl with h | h <;> rw [h] <;> decide
  have hpr : h.proto = 6 ∨ h.proto = 17 ∨ h.proto = 1 := by
    rw [hp, hC.proto]
    rcases (show k = 0 ∨ k = 1 ∨ k = 2 by omega) with rfl | rfl | rfl <;> simp
  have hF := hC.facts h hp
  have hlen := hC.len
  obtain ⟨q1, q2, q3⟩ := quo_back h b.length rest b ho hR hoff hlen.1 h8 hpre hpr (by rw [hp]; exact hC.data) (by rw [hp, hF]; exact hfk)
  rw [hp, hF] at q2 q3
  have hraw : (headL h b.length ++ rest).length = 20 + h.opts.length + rest.length := by rw [List.length_append, headL_len]
  have hrawb : Byt (headL h b.length ++ rest) := (headL_byt ho hR.len _).append hrb
  have hol := hR.len
  have hl2 := hlen.2.2 (by omega)
  generalize headL h b.length ++ rest = raw at *
  obtain ⟨x, y, e⟩ := icmpL_eq t c i s raw
  obtain ⟨a1, a2, a3, a4, a5, a6, a7⟩ := icmp_back t c x y i s raw hkk _ e
  rw [h5] at a2
  refine ⟨icmpW_byt (by omega) (by omega) (by omega) (by omega) i0 i1 s0 s1 hrawb, by omega, rfl, rfl, rfl, ?_, fun h' hp' => ?_, (fun h => absurd h (by decide)), (fun h => absurd h (by decide)), (fun h => absurd h (by decide)), fun _ => rfl⟩
  · show icmpE2 _ = 0
    unfold icmpE2
    rw [if_neg (by omega), if_neg (by omega), a3]
    exact q1
  · show icmpF (baseF h') _ = _
    unfold icmpF
    rw [if_neg (by omega), a2, a3, a5, a6, a7, q2, q3]
    have hp2 : h'.proto = 1 := hp'
    have h3 : (((8 + raw.length : Nat)) : Int) - 8 = raw.length := by omega
    rw [h3]
    simp [baseF, Facts.zero, hp2]
end Go.Proofs.YtebeekjcepjcnaaDoor
