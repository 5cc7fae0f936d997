/-
  What bafflelaw11.Made returns is a packet that is read; an append onto a slice without room.
  What content of the fourth kind is: an error with a quote that is read.
-/
import Derived.Lib.MinMax
import Derived.WalkKit
import Derived.WalkSpells
import Derived.WalkLawsBesides
import Derived.WalkSmall
import Derived.Lib.Hide
import Derived.Deep.AppendLies
import Derived.Maps.AppendAt
import Derived.Laws.AppendOwnNone
import Derived.Laws.CopyOwn
import Derived.OneCell
import Derived.Test.YtebeekjcepjcnaaDoorProg
import Derived.Lib.SliceRun
import Derived.RangeFuncNested
import Derived.RangeFuncBound
import Derived.RangeFuncCalls
import Derived.RangeFuncLeaves
import Derived.Shelf.Abstract
import Derived.OwnWalkIn
import Derived.TacticsInMore
import Derived.LoopNIn
import Derived.LoopIn
import Derived.Lib.AppendZeros
import Derived.BigRegion
import Derived.ChangeAlike
import Derived.Deep.RegionLaw
import Derived.Deep.DeepCutAuto
import Derived.Orders
import Derived.RegionTactic
import Derived.Still
import Derived.Deep.MidRow
import Derived.Deep.RegionHeld3
import Derived.MapKept
import Derived.RegionIn
import Derived.Laws.StructEq
import Derived.Laws.BitsAllLaws
import Derived.Deep.CutBlock
import Derived.Test.YtebeekjcepjcnaaDoorWBase
import Derived.Test.YtebeekjcepjcnaaDoorWBits
import Derived.Test.YtebeekjcepjcnaaDoorWCsum
import Derived.Test.YtebeekjcepjcnaaDoorWSum
import Derived.Test.YtebeekjcepjcnaaDoorWConcat
import Derived.Test.YtebeekjcepjcnaaDoorWFix
import Derived.Test.YtebeekjcepjcnaaDoorWFacts
import Derived.Test.YtebeekjcepjcnaaDoorWIpw
import Derived.Test.YtebeekjcepjcnaaDoorWPkt
import Derived.Test.YtebeekjcepjcnaaDoorWRegion
import Derived.Test.YtebeekjcepjcnaaDoorWWalk
import Derived.Test.YtebeekjcepjcnaaDoorWStep
import Derived.Test.YtebeekjcepjcnaaDoorWTcpw
import Derived.Test.YtebeekjcepjcnaaDoorWUdpw
import Derived.Test.YtebeekjcepjcnaaDoorWData
import Derived.Test.YtebeekjcepjcnaaDoorWMaps
import Derived.Test.YtebeekjcepjcnaaDoorWQuoted
import Derived.Test.YtebeekjcepjcnaaDoorWBuilda
import Derived.Test.YtebeekjcepjcnaaDoorWRerr
import Derived.Test.YtebeekjcepjcnaaDoorWIcmpr
import Derived.Test.YtebeekjcepjcnaaDoorWIprd
import Derived.Test.YtebeekjcepjcnaaDoorWFresh
import Derived.Test.YtebeekjcepjcnaaDoorWIpre
import Derived.Test.YtebeekjcepjcnaaDoorWOptsa
import Derived.Test.YtebeekjcepjcnaaDoorWOptsb
import Derived.Test.YtebeekjcepjcnaaDoorWRight
import Derived.Test.YtebeekjcepjcnaaDoorWAnswer
import Derived.Test.YtebeekjcepjcnaaDoorWMade8
import Derived.Test.YtebeekjcepjcnaaDoorWIpback
import Derived.Test.YtebeekjcepjcnaaDoorWMade6p
import Derived.Test.YtebeekjcepjcnaaDoorWOptw
import Derived.Test.YtebeekjcepjcnaaDoorWMade10
import Derived.Test.YtebeekjcepjcnaaDoorWMade9
import Derived.Test.YtebeekjcepjcnaaDoorWLookp
import Derived.Test.YtebeekjcepjcnaaDoorWFailure
import Derived.Test.YtebeekjcepjcnaaDoorWBuildb
import Derived.Test.YtebeekjcepjcnaaDoorWPright
import Derived.Test.YtebeekjcepjcnaaDoorWBuilt
import Derived.Test.YtebeekjcepjcnaaDoorWContu
import Derived.Test.YtebeekjcepjcnaaDoorWContt
import Derived.Test.YtebeekjcepjcnaaDoorWMade11p
namespace Go.Proofs.YtebeekjcepjcnaaDoor
open Go.RowKit
structure M11Law (x : Sm) (os : List OE) (data : List Int) (f : Facts) : Prop where
  ok : (m11H x f.key.proto os).Ok
  right : (m11H x f.key.proto os).Right data.length
  reason : (m11H x f.key.proto os).reason = 0
  optl : (m11H x f.key.proto os).opts.length ≤ 40
  proto : f.key.proto = 6 ∨ f.key.proto = 17 ∨ f.key.proto = 1
  byt : Byt (ipWriteL (m11H x f.key.proto os) data)
  len : (ipWriteL (m11H x f.key.proto os) data).length ≤ 460
  back : ∀ behind, pktR (ipWriteL (m11H x f.key.proto os) data ++ behind) = 0 ∧ pktF (ipWriteL (m11H x f.key.proto os) data ++ behind) = m11F x f
  fok : (m11F x f).Ok
  fright : (m11F x f).right = true
theorem m11_law {x : Sm} (hx : x.Ok) {os : List OE} (hos : OsOk os) {k : Nat} {data : List Int} {f : Facts} (hC : Cont k data f) (hk : k < 4) : M11Law x os data f := by
  have hol := hos.len
  have hob := oeB_byt hos
  have hsb := hostI_bd x.src
  have hdb := dstI_ne x.src x.dst hx.dst.1 hx.dst.2
  have hzl : (List.replicate ((4 - (oeB os).length % 4) % 4) (0 : Int)).length = (4 - (oeB os).length % 4) % 4 := List.length_replicate
  have holl : (m11H x f.key.proto os).opts.length = (oeB os).length + (4 - (oeB os).length % 4) % 4 := by
    show (oeB os ++ List.replicate _ _).length = _
    rw [List.length_append, hzl]
  have hpr : f.key.proto = 6 ∨ f.key.proto = 17 ∨ f.key.proto = 1 := by
    rw [hC.proto]
    rcases (show k = 0 ∨ k = 1 ∨ k = 2 ∨ k = 3 by omega) with rfl | rfl | rfl | rfl <;> simp
  have hlen := hC.len
  have hOk : (m11H x f.key.proto os).Ok := ⟨hx.tos.1, hx.tos.2, hx.id.1, hx.id.2, (by show 0 ≤ max x.ttl 1; omega), (by have := hx.ttl.2; show max x.ttl 1 < 256; omega), (by show 0 ≤ f.key.proto; omega), (by show f.key.proto < 256; omega), (by show 0 ≤ hostI x.src; omega), (by show hostI x.src < _; omega), (by show 0 ≤ dstI x.src x.dst; omega), (by show dstI x.src x.dst < _; omega), hob.append (Byt.zeros _)⟩
  have hR : (m11H x f.key.proto os).Right data.length := ⟨show (0 : Int) ≤ 0 by decide, show (0 : Int) ≤ 65528 by decide, rfl, by rw [holl]; omega, by rw [holl]; omega, by rw [holl]; omega, by show (0 : Int) + data.length ≤ 65515; omega, fun h => by simp [m11H] at h⟩
  have hrs : (m11H x f.key.proto os).reason = 0 := by
    obtain ⟨r1, r2⟩ := optRead_os hos ((4 - (oeB os).length % 4) % 4) (by omega)
    unfold IpH.reason
    have e1 : (m11H x f.key.proto os).opts = oeB os ++ List.replicate ((4 - (oeB os).length % 4) % 4) 0 := rfl
    have s1 : strangeB (hostI x.src) = false := by unfold strangeB; simp; omega
    have s2 : strangeB (dstI x.src x.dst) = false := by unfold strangeB; simp; omega
    have s3 : (hostI x.src == dstI x.src x.dst) = false := by
      have := hdb.1
      simp only [beq_eq_false_iff_ne, ne_eq]
      exact fun h => this h.symm
    rw [if_neg (by simp [m11H]), e1, r1]
    rw [if_neg (by simp), if_neg (by rw [r2]; decide), if_neg (by show ¬ max x.ttl 1 = 0; omega), if_neg]
    show ¬ (strangeB (hostI x.src) || strangeB (dstI x.src x.dst) || hostI x.src == dstI x.src x.dst) = true
    rw [s1, s2, s3]
    decide
  have hby : Byt (ipWriteL (m11H x f.key.proto os) data) := ipWriteL_byt hOk hR.len hC.byt
  have hll : (ipWriteL (m11H x f.key.proto os) data).length ≤ 460 := by rw [ipWriteL_len, holl]; omega
  have hbk : ∀ behind, pktR (ipWriteL (m11H x f.key.proto os) data ++ behind) = 0 ∧ pktF (ipWriteL (m11H x f.key.proto os) data ++ behind) = m11F x f := fun behind => by
    obtain ⟨p1, p2⟩ := pkt_back (m11H x f.key.proto os) data behind hOk hR
    have hp : (m11H x f.key.proto os).proto = f.key.proto := rfl
    rw [hrs, if_neg (by simp), hp, if_neg (by omega), hC.data] at p1
    have h0 : reasonOf 0 = 0 := by decide
    rw [h0] at p1
    refine ⟨p1, (p2 p1).trans ?_⟩
    rw [hp, hC.facts _ hp]
    rfl
  have hb0 := hbk []
  rw [List.append_nil] at hb0
  refine ⟨hOk, hR, hrs, hR.len, hpr, hby, hll, hbk, ?_, ?_⟩
  · rw [← hb0.2]; exact pktF_ok hby (by omega)
  · rw [← hb0.2]; exact pkt_right hby hb0.1
/-- A slice that can be read: an old one, or a row of the call's own. -/
def RdL (B : Nat) (p : Option Addr × Nat) (k : Nat) (xs : List Int) (W : World) : Prop := (Rd W B p.1 .u8 xs ∧ k ≤ p.2) ∨ Own W B (.slice p.1 k p.2) xs
theorem RdL.rd {B k : Nat} {p : Option Addr × Nat} {xs : List Int} {W : World} (h : RdL B p k xs W) (hB : B ≤ W.heap.size) : Rd W W.heap.size p.1 .u8 xs ∧ k ≤ p.2 := by
  rcases h with h | h
  · exact ⟨h.1.more hB, h.2⟩
  · obtain ⟨A, c, e, h1, h2, _⟩ := h.open_
    simp only [Value.slice.injEq] at e
    obtain ⟨e1, e2, e3⟩ := e
    exact ⟨by rw [e1]; exact h1, by rw [e2, e3]; exact h2⟩
theorem Own.late {B b : Nat} {v : Value} {xs : List Int} {z n : Array Value} {W W' : World} (h : Own W b v xs) (hG : Late B 27 z n W W') : Own W' b v xs := by
  refine ⟨h.1, ?_⟩
  rcases h.2 with h2 | ⟨g, cap, cur, e, hb, hg, r⟩
  · exact .inl h2
  · exact .inr ⟨g, cap, cur, e, hb, hG.keep g _ hg (by intro h; injection h with _ h2; exact absurd h2 (by decide)), r⟩
theorem RdL.keep {B k : Nat} {p : Option Addr × Nat} {xs : List Int} {z n : Array Value} {W W' : World} (h : RdL B p k xs W) (hG : Late B 27 z n W W') : RdL B p k xs W' := by
  rcases h with h | h
  · exact .inl ⟨h.1.below hG.below (Nat.le_refl _), h.2⟩
  · exact .inr (h.late hG)
theorem RdL.below {B C k : Nat} {p : Option Addr × Nat} {xs : List Int} {W W' : World} (h : RdL B p k xs W) (hb : Below C W W') (hB : B ≤ C) (hC : W.heap.size ≤ C) : RdL B p k xs W' := by
  rcases h with h | h
  · exact .inl ⟨h.1.below hb hB, h.2⟩
  · exact .inr (h.below hb hC)
section
variable {P : Program} {ops : Array Oper} {Q : Exit → Act → World → Prop} {E : Nat → World → Prop} {S : List Nat} {G : World → World → Prop} {fr : List Nat} {FF : Nat → Value → World → Prop}
/-- For each free operation among these: all others behind it wait for it. -/
def freeRest (ops : Array Oper) (fr : List Nat) : List Nat → Bool
  | [] => true
  | k :: rest => (if fr.contains k then waitAll ops fr [k] rest else true) && (ops[k]?).isSome && freeRest ops fr rest
theorem Walk.vacF (hk : ∀ k u W W', FF k u W → G W W' → FF k u W') : ∀ (l : List Nat) (Fs : List (World → Prop)) (a : Act), (∀ W, ¬ Facts' Fs W) → freeRest ops fr l = true → Walk P ops Q E S G fr FF Fs l a
  | [], _, _, h, _ => fun W _ hF => (h W hF).elim
  | k :: l, Fs, a, h, hl => by
    simp only [freeRest, Bool.and_eq_true] at hl
    obtain ⟨⟨h1, h2⟩, h3⟩ := hl
    obtain ⟨o, ho⟩ := Option.isSome_iff_exists.1 h2
    by_cases hf : fr.contains k = true
    · rw [if_pos hf] at h1
      exact ⟨o, ho, .inr ⟨FF k, fun _ => rfl, hk k, h1, fun c W _ _ hF => (h W hF).elim, fun u => Walk.vacF hk l _ _ (fun W hF => h W hF.tail) h3⟩⟩
    · exact ⟨o, ho, .inl ⟨undef, by simpa using hf, fun c W _ _ hF => (h W hF).elim, Walk.vacF hk l _ _ h h3⟩⟩
/-- An operation whose value has this form; what is behind it may be free. -/
theorem Walk.anyOfF {Fs : List (World → Prop)} {k : Nat} {o : Oper} {rest : List Nat} {a : Act} {α : Type} (form : α → Value) (hinj : ∀ x y, form x = form y → x = y) (F : α → World → Prop) (hF : ∀ x W W', F x W → G W W' → F x W') (hk : ∀ k u W W', FF k u W → G W W' → FF k u W') (ho : ops.toList[k]? = some o) (hs : S.contains k = false) (hf : fr.contains k = false) (hw : waitAll ops fr [k] rest = true) (hp : freeRest ops fr rest = true)
    (hrun : ∀ c W, E c W → Facts' Fs W → wpList P ops (Exit.then (AnyOf a o.dst form F fun W' => G W W' ∧ E c W') NoQ) [o] a W) (hrest : ∀ x, Walk P ops Q E S G fr FF (F x :: Fs) rest (a.put o.dst (form x))) : Walk P ops Q E S G fr FF Fs (k :: rest) a := by
  refine Walk.any (fun u W => ∃ x, u = form x ∧ F x W) (fun u W W' ⟨x, e, h⟩ hG => ⟨x, e, hF x W W' h hG⟩) (ops_at ho) hs hf hw (fun c W hE hFs => ?_) (fun u => ?_)
  · refine wpList_mono_then ?_ (hrun c W hE hFs)
    rintro a' W' ⟨x, e, h, hH⟩
    exact ⟨form x, e, ⟨x, rfl, h⟩, hH⟩
  · by_cases hu : ∃ x, u = form x
    · obtain ⟨x, rfl⟩ := hu
      refine Walk.weaken rest _ _ _ (fun W hF f hf => ?_) (hrest x)
      rcases List.mem_cons.1 hf with rfl | hf
      · obtain ⟨y, e, h⟩ := hF.head
        rw [hinj x y e]; exact h
      · exact hF.tail f hf
    · exact Walk.vacF hk rest _ _ (fun W hF => by obtain ⟨x, e, _⟩ := hF.head; exact hu ⟨x, e⟩) hp
end
/-- Two blocks just made, and both stored. -/
theorem two_blocks (w : World) (tH tF : TypeId) (HZ FZ RH RF : Array Value) :
    Blk ((w.alloc (.cells HZ tH)).alloc (.cells FZ tF)) w.heap.size tH HZ ∧ Blk (((w.alloc (.cells HZ tH)).alloc (.cells FZ tF)).setRow w.heap.size RH) (w.heap.size + 1) tF FZ ∧
    ∀ W4, W4 = (((w.alloc (.cells HZ tH)).alloc (.cells FZ tF)).setRow w.heap.size RH).setRow (w.heap.size + 1) RF → Below w.heap.size w W4 ∧ W4.heap.size = w.heap.size + 2 ∧ Blk W4 w.heap.size tH RH ∧ Blk W4 (w.heap.size + 1) tF RF := by
  obtain ⟨h1, h2, h3, h4⟩ := blocks2 (w := w) (A := HZ) (t := tH) (A1 := FZ) (t1 := tF)
  refine ⟨h3, (setRow_other _ _ _ _ (by omega)).trans h4, ?_⟩
  rintro W4 rfl
  refine ⟨below_setRow (below_setRow h1 (Nat.le_refl _) _) (by omega) _, by simp, (setRow_other _ _ _ _ (by omega)).trans (setRow_heap _ _ _ _ _ _ h3), setRow_heap _ _ _ _ _ _ ((setRow_other _ _ _ _ (by omega)).trans h4)⟩
theorem wp_two {P : Program} {c : Code} {Q : Exit → Act → World → Prop} {a : Act} {w : World} {tH tF : TypeId} {HZ FZ RH RF : Array Value}
    (h : ∀ w1, Below w.heap.size w w1 → w1.heap.size = w.heap.size + 2 → Blk w1 w.heap.size tH RH → Blk w1 (w.heap.size + 1) tF RF → c.wp P Q a w1) :
    c.wp P Q a ((((w.alloc (.cells HZ tH)).alloc (.cells FZ tF)).setRow w.heap.size RH).setRow (w.heap.size + 1) RF) := by
  obtain ⟨_, _, h3⟩ := two_blocks w tH tF HZ FZ RH RF
  obtain ⟨a1, a2, a3, a4⟩ := h3 _ rfl
  exact h _ a1 a2 a3 a4
end Go.Proofs.YtebeekjcepjcnaaDoor
namespace Go.Proofs.YtebeekjcepjcnaaDoor
open Go.RowKit
theorem cont_quote {k : Nat} {b rest : List Int} {f : Facts} {h : IpH} {t c : Nat} {i s : Int} (hC : Cont k b f) (hk3 : k < 3) (ho : h.Ok) (hR : h.Right b.length) (hoff : h.off = 0) (hp : h.proto = f.key.proto) (h8 : 8 ≤ rest.length) (hrl : rest.length ≤ b.length) (hrb : Byt rest) (hpre : ∀ i, i < 8 → rest.getD i 0 = b.getD i 0)
    (ht : t < 256) (hc : c < 256) (i0 : 0 ≤ i) (i1 : i < 65536) (s0 : 0 ≤ s) (s1 : s < 65536) (hkk : kind2 t c = 0) (h5 : kind1 t c = 5) :
    Cont 3 (icmpL t c i s (headL h b.length ++ rest)) { Facts.zero with key := ⟨1, 0, 0, 0, 0⟩, kind := 5, type := t, code := c, length := (headL h b.length ++ rest).length, quoted := { f.key with src := h.src, dst := h.dst }, qkind := f.kind } := by
  have hfk : f.kind ≠ 5 := by
    obtain ⟨k0, k1, k2, _⟩ := hC.kind
    rcases (show k = 0 ∨ k = 1 ∨ k = 2 by omega) with rfl | rfl | rfl
    · rw [k0 rfl]; decide
    · rw [k1 rfl]; decide
    · rcases k2 rfl with h | h <;> rw [h] <;> decide
  have hpr : h.proto = 6 ∨ h.proto = 17 ∨ h.proto = 1 := by
    rw [hp, hC.proto]
    rcases (show k = 0 ∨ k = 1 ∨ k = 2 by omega) with rfl | rfl | rfl <;> simp
  have hF := hC.facts h hp
  have hlen := hC.len
  obtain ⟨q1, q2, q3⟩ := quo_back h b.length rest b ho hR hoff hlen.1 h8 hpre hpr (by rw [hp]; exact hC.data) (by rw [hp, hF]; exact hfk)
  rw [hp, hF] at q2 q3
  have hraw : (headL h b.length ++ rest).length = 20 + h.opts.length + rest.length := by rw [List.length_append, headL_len]
  have hrawb : Byt (headL h b.length ++ rest) := (headL_byt ho hR.len _).append hrb
  have hol := hR.len
  have hl2 := hlen.2.2 (by omega)
  generalize headL h b.length ++ rest = raw at *
  obtain ⟨x, y, e⟩ := icmpL_eq t c i s raw
  obtain ⟨a1, a2, a3, a4, a5, a6, a7⟩ := icmp_back t c x y i s raw hkk _ e
  rw [h5] at a2
  refine ⟨icmpW_byt (by omega) (by omega) (by omega) (by omega) i0 i1 s0 s1 hrawb, by omega, rfl, rfl, rfl, ?_, fun h' hp' => ?_, (fun h => absurd h (by decide)), (fun h => absurd h (by decide)), (fun h => absurd h (by decide)), fun _ => rfl⟩
  · show icmpE2 _ = 0
    unfold icmpE2
    rw [if_neg (by omega), if_neg (by omega), a3]
    exact q1
  · show icmpF (baseF h') _ = _
    unfold icmpF
    rw [if_neg (by omega), a2, a3, a5, a6, a7, q2, q3]
    have hp2 : h'.proto = 1 := hp'
    have h3 : (((8 + raw.length : Nat)) : Int) - 8 = raw.length := by omega
    rw [h3]
    simp [baseF, Facts.zero, hp2]
end Go.Proofs.YtebeekjcepjcnaaDoor
