/-
  What package pkt reads in a packet: plain functions on lists of bytes. No program in sight.
  A region that draws its order, by an invariant: whatever order its edges allow, each operation takes the invariant on.
-/
import Derived.Test.YtebeekjcepjcnaaDoorProg
import Derived.WalkKit
import Derived.WalkSpells
import Derived.WalkLawsBesides
import Derived.WalkSmall
import Derived.Lib.Hide
import Derived.Deep.AppendLies
import Derived.Maps.AppendAt
import Derived.Laws.AppendOwnNone
import Derived.Laws.CopyOwn
import Derived.OneCell
import Derived.Lib.SliceRun
import Derived.RangeFuncNested
import Derived.RangeFuncBound
import Derived.RangeFuncCalls
import Derived.RangeFuncLeaves
import Derived.Shelf.Abstract
import Derived.OwnWalkIn
import Derived.TacticsInMore
import Derived.LoopNIn
import Derived.LoopIn
import Derived.Lib.AppendZeros
import Derived.BigRegion
import Derived.ChangeAlike
import Derived.Deep.RegionLaw
import Derived.Deep.DeepCutAuto
import Derived.Orders
import Derived.RegionTactic
import Derived.Test.YtebeekjcepjcnaaDoorGBase
import Derived.Test.YtebeekjcepjcnaaDoorGBits
import Derived.Test.YtebeekjcepjcnaaDoorGCsum
import Derived.Test.YtebeekjcepjcnaaDoorGSum
import Derived.Test.YtebeekjcepjcnaaDoorGFix
import Derived.Test.YtebeekjcepjcnaaDoorGFacts
namespace Go.Proofs.YtebeekjcepjcnaaDoor
open Go.RowKit

def w16At (b : List Int) (i : Nat) : Int := 256 * b.getD i 0 + b.getD (i + 1) 0
def l32At (b : List Int) (i : Nat) : Int := 65536 * w16At b i + w16At b (i + 2)
theorem w16At_bd {b : List Int} (h : Byt b) (i : Nat) : 0 ≤ w16At b i ∧ w16At b i < 65536 := by
  have h1 := h.at_ i
  have h2 := h.at_ (i + 1)
  unfold w16At; omega
theorem l32At_bd {b : List Int} (h : Byt b) (i : Nat) : 0 ≤ l32At b i ∧ l32At b i < 4294967296 := by
  have h1 := w16At_bd h i
  have h2 := w16At_bd h (i + 2)
  unfold l32At; omega
theorem w16At_drop (b : List Int) (k i : Nat) : w16At (b.drop k) i = w16At b (k + i) := by
  simp [w16At, List.getD_eq_getElem?_getD, Nat.add_assoc]
theorem l32At_drop (b : List Int) (k i : Nat) : l32At (b.drop k) i = l32At b (k + i) := by
  unfold l32At; rw [w16At_drop, w16At_drop, Nat.add_assoc]

/-! ### The header of a packet -/

def ipSize (b : List Int) : Nat := 4 * ((b.getD 0 0).toNat % 16)
def ipTotal (b : List Int) : Nat := (w16At b 2).toNat
def ipHdr (b : List Int) : IpH :=
  { tos := b.getD 1 0, id := w16At b 4, df := w16At b 6 / 16384 % 2 == 1, mf := w16At b 6 / 8192 % 2 == 1, off := 8 * (w16At b 6 % 8192), ttl := b.getD 8 0, proto := b.getD 9 0, src := l32At b 12, dst := l32At b 16, opts := (b.take (ipSize b)).drop 20 }
def IpH.rightB (h : IpH) (n : Nat) : Bool := decide (h.off + n ≤ 65515) && (!h.mf || (decide (0 < n) && n % 8 == 0))
/-- Does the test with this number fail? -/
def ipT (b : List Int) : Nat → Bool
  | 0 => decide (b.length < 20)
  | 1 => b.getD 0 0 / 16 != 4
  | 2 => decide (ipSize b < 20) || decide (b.length < ipSize b)
  | 3 => decide (ipTotal b < ipSize b) || decide (b.length < ipTotal b)
  | 4 => !(ofB (b.take (ipSize b)) == 0)
  | 5 => decide (32768 ≤ w16At b 6)
  | 6 => !(ipHdr b).rightB (ipTotal b - ipSize b)
  | _ => false
def firstB (t : Nat → Bool) : Nat → Nat → Nat
  | _, 0 => 0
  | k, n + 1 => if t k then 0 else firstB t (k + 1) n + 1
/-- The first test that fails (7: none). -/
def ipN (b : List Int) : Nat := firstB (ipT b) 0 7
def ipE (b : List Int) : Int := if ipN b < 7 then 50 + ipN b else 0

theorem firstB_le (t : Nat → Bool) : ∀ n k, firstB t k n ≤ n
  | 0, _ => Nat.le_refl _
  | n + 1, k => by
    unfold firstB
    split
    · omega
    · have := firstB_le t n (k + 1); omega
theorem firstB_before (t : Nat → Bool) : ∀ n k j, j < firstB t k n → t (k + j) = false
  | 0, _, _, h => by simp [firstB] at h
  | n + 1, k, j, h => by
    unfold firstB at h
    split at h
    · omega
    · rename_i hk
      rcases j with _ | j
      · simpa using hk
      · have := firstB_before t n (k + 1) j (by omega)
        rw [← this]; congr 1; omega
theorem firstB_at (t : Nat → Bool) : ∀ n k, firstB t k n < n → t (k + firstB t k n) = true
  | 0, _, h => by omega
  | n + 1, k, h => by
    unfold firstB at h ⊢
    split
    · rename_i hk; simpa using hk
    · rename_i hk
      rw [if_neg hk] at h
      have := firstB_at t n (k + 1) (by omega)
      rw [← this]; congr 1; omega
theorem firstB_eq {t : Nat → Bool} {n j : Nat} (hj : j < n) (hb : ∀ i, i < j → t i = false) (ha : t j = true) : firstB t 0 n = j := by
  rcases Nat.lt_trichotomy (firstB t 0 n) j with h | h | h
  · have := firstB_at t n 0 (by omega)
    rw [Nat.zero_add, hb _ h] at this; cases this
  · exact h
  · have := firstB_before t n 0 j h
    rw [Nat.zero_add, ha] at this; cases this
theorem firstB_all {t : Nat → Bool} {n : Nat} (hb : ∀ i, i < n → t i = false) : firstB t 0 n = n := by
  rcases Nat.lt_or_ge (firstB t 0 n) n with h | h
  · have := firstB_at t n 0 h
    rw [Nat.zero_add, hb _ h] at this; cases this
  · have := firstB_le t n 0; omega

/-! ### Options -/

def optGroup (k : Int) : Nat := if k = 7 then 1 else if k = 68 then 2 else if k = 131 then 3 else if k = 137 then 3 else 0
def addrB (d : List Int) : Bool := d.length % 4 == 1 && decide (4 ≤ d.getD 0 0) && d.getD 0 0 % 4 == 0 && decide (d.getD 0 0 ≤ d.length + 3)
def stampS (x : Int) : Int := if x = 0 then 4 else if x = 1 then 8 else if x = 2 then 0 else 8
def stampB (d : List Int) : Bool :=
  if d.length < 2 then false
  else if 3 < d.getD 1 0 % 16 ∨ d.getD 1 0 % 16 = 2 then false
  else ((d.length : Int) - 2) % stampS (d.getD 1 0 % 16) == 0 && decide (0 ≤ d.getD 0 0 - 5) && (d.getD 0 0 - 5) % stampS (d.getD 1 0 % 16) == 0 && decide (d.getD 0 0 - 5 ≤ d.length - 2)
def shapeB (k : Int) (d : List Int) : Bool := if k = 7 ∨ k = 131 ∨ k = 137 then addrB d else if k = 148 then d.length == 2 else if k = 68 then stampB d else true
def optRight (k : Int) (d : List Int) : Bool := if k = 0 ∨ k = 1 then k == 1 && d.length == 0 else shapeB k d && decide (d.length ≤ 38)
/-- What the options of some bytes are, one by one: the kind and an error. -/
def optsY : Nat → List Int → List (Int × Int)
  | 0, _ => []
  | n + 1, b =>
    if b.length = 0 then []
    else if b.getD 0 0 = 0 then (if b.any (fun x => decide (0 < x)) then [(0, 62)] else [])
    else if b.getD 0 0 = 1 then (1, 0) :: optsY n (b.drop 1)
    else if b.length < 2 then [(0, 60)]
    else if b.getD 1 0 < 2 then [(0, 61)]
    else if (b.length : Int) < b.getD 1 0 then [(0, 60)]
    else if optRight (b.getD 0 0) ((b.take (b.getD 1 0).toNat).drop 2) then (b.getD 0 0, 0) :: optsY n (b.drop (b.getD 1 0).toNat)
    else [(b.getD 0 0, 61)]
/-- The kinds, and the first error. -/
def optsR : List (Int × Int) → List Int → List Int × Int
  | [], acc => (acc, 0)
  | (k, e) :: l, acc => if e ≠ 0 then ([], e) else if 0 < optGroup k ∧ acc.any (fun x => optGroup x == optGroup k) then ([], 63) else optsR l (acc ++ [k])
def optRead (b : List Int) : List Int × Int := if 40 < b.length then ([], 3) else optsR (optsY b.length b) []
def routedB (ks : List Int) : Bool := ks.any fun k => optGroup k == 3

/-! ### The reason of a header -/

def strangeB (a : Int) : Bool := a == 0 || decide (3758096384 ≤ a)
def IpH.reason (h : IpH) : Int :=
  if h.off ≠ 0 ∨ h.mf = true then 8
  else if (optRead h.opts).2 ≠ 0 then 9
  else if routedB (optRead h.opts).1 then 10
  else if h.ttl = 0 then 11
  else if strangeB h.src || strangeB h.dst || h.src == h.dst then 12
  else 0

/-! ### Segments, datagrams, messages -/

def tcpSize (d : List Int) : Int := 4 * (d.getD 12 0 / 16)
def tcpE (d : List Int) : Int :=
  if d.length < 20 then 80
  else if tcpSize d < 20 ∨ (d.length : Int) < tcpSize d then 81
  else if d.getD 12 0 % 16 ≠ 0 ∨ saneB (d.getD 13 0).toNat = false then 82
  else if w16At d 0 = 0 ∨ w16At d 2 = 0 then 83
  else 0
def udpE (d : List Int) : Int :=
  if d.length < 8 then 90
  else if w16At d 4 < 8 ∨ (d.length : Int) < w16At d 4 then 91
  else if w16At d 2 = 0 then 92
  else 0
def icmpE (d : List Int) : Int := if d.length < 8 then 100 else kind2 (d.getD 0 0).toNat (d.getD 1 0).toNat
def icmpK (d : List Int) : Int := kind1 (d.getD 0 0).toNat (d.getD 1 0).toNat

/-- The quote of an error: does the test with this number fail? -/
def quoT (b : List Int) : Nat → Bool
  | 0 => decide (b.length < 20) || b.getD 0 0 / 16 != 4
  | 1 => decide (ipSize b < 20) || decide (b.length < ipSize b + 8)
  | 2 => !(ofB (b.take (ipSize b)) == 0) || decide (w16At b 2 < ipSize b + 8)
  | 3 => !(decide (w16At b 6 < 32768) && w16At b 6 % 8192 == 0)
  | _ => false
def quoN (b : List Int) : Nat := firstB (quoT b) 0 4
def quoKey (b : List Int) : Key :=
  let r := b.drop (ipSize b)
  if b.getD 9 0 = 6 ∨ b.getD 9 0 = 17 then ⟨b.getD 9 0, l32At b 12, l32At b 16, w16At r 0, w16At r 2⟩
  else if b.getD 9 0 = 1 then ⟨b.getD 9 0, l32At b 12, l32At b 16, w16At r 4, w16At r 4⟩
  else ⟨b.getD 9 0, l32At b 12, l32At b 16, 0, 0⟩
def quoKind (b : List Int) : Int :=
  let r := b.drop (ipSize b)
  if b.getD 9 0 = 6 ∨ b.getD 9 0 = 17 then (if w16At r 0 = 0 ∨ w16At r 2 = 0 then 0 else if b.getD 9 0 = 6 then 1 else 2)
  else if b.getD 9 0 = 1 then kind1 (r.getD 0 0).toNat (r.getD 1 0).toNat
  else 0
def quoE (b : List Int) : Int := if quoN b < 4 then 103 else if quoKind b = 0 then 103 else if quoKind b = 5 then 104 else 0

/-! ### The packet -/

def reasonOf (e : Int) : Int :=
  if 50 ≤ e ∧ e ≤ 56 then e - 49 else if e = 80 ∨ e = 81 ∨ e = 90 ∨ e = 91 ∨ e = 100 then 14 else if e = 82 then 15 else if e = 83 ∨ e = 92 then 16
  else if e = 101 ∨ e = 102 then 17 else if e = 103 then 18 else if e = 104 then 19 else 0
def baseF (h : IpH) : Facts := { Facts.zero with key := ⟨h.proto, h.src, h.dst, 0, 0⟩ }
/-- The error of the data, and the facts. -/
def tcpF (f : Facts) (d : List Int) : Facts :=
  { f with key := { f.key with sp := w16At d 0, dp := w16At d 2 }, kind := 1, flags := d.getD 13 0 % 64, seqn := l32At d 4, ackn := l32At d 8, window := w16At d 14, length := d.length - tcpSize d }
def udpF (f : Facts) (d : List Int) : Facts := { f with key := { f.key with sp := w16At d 0, dp := w16At d 2 }, kind := 2, length := w16At d 4 - 8 }
def udpE2 (d : List Int) : Int := if udpE d ≠ 0 then udpE d else if w16At d 0 = 0 then 92 else 0
def icmpF (f : Facts) (d : List Int) : Facts :=
  if icmpK d ≠ 5 then { f with key := { f.key with sp := w16At d 4, dp := w16At d 4 }, kind := icmpK d, type := d.getD 0 0, code := d.getD 1 0, length := d.length - 8 }
  else { f with kind := icmpK d, type := d.getD 0 0, code := d.getD 1 0, length := d.length - 8, quoted := quoKey (d.drop 8), qkind := quoKind (d.drop 8) }
def icmpE2 (d : List Int) : Int := if icmpE d ≠ 0 then icmpE d else if icmpK d ≠ 5 then 0 else quoE (d.drop 8)
def dataE (p : Int) (d : List Int) : Int := if p = 6 then tcpE d else if p = 17 then udpE2 d else icmpE2 d
def dataF (p : Int) (f : Facts) (d : List Int) : Facts := if p = 6 then tcpF f d else if p = 17 then udpF f d else icmpF f d
def ipData (b : List Int) : List Int := (b.take (ipTotal b)).drop (ipSize b)
def pktR (b : List Int) : Int :=
  if ipE b ≠ 0 then reasonOf (ipE b)
  else if (ipHdr b).reason ≠ 0 then (ipHdr b).reason
  else if (ipHdr b).proto ≠ 6 ∧ (ipHdr b).proto ≠ 17 ∧ (ipHdr b).proto ≠ 1 then 13
  else reasonOf (dataE (ipHdr b).proto (ipData b))
def pktF (b : List Int) : Facts := if pktR b = 0 then dataF (ipHdr b).proto (baseF (ipHdr b)) (ipData b) else Facts.zero

end Go.Proofs.YtebeekjcepjcnaaDoor
namespace Go.Proofs.YtebeekjcepjcnaaDoor
open Go.RowKit

theorem ready_nil_all {ops : Array Oper} {listed : Array Bool} (hsz : listed.size = ops.size) (hdep : ∀ (i : Nat) (o : Oper), ops[i]? = some o → ∀ e : Edge, e ∈ o.after → Region.binds .any e = true → e.on < i) (hr : Region.ready .any ops listed = []) :
    ∀ i, i < ops.size → listed.getD i true = true := by
  intro i
  induction i using Nat.strongRecOn with
  | ind i ih =>
    intro hi
    rcases hb : listed.getD i true with _ | _
    · exfalso
      have hmem : i ∈ Region.ready .any ops listed := by
        unfold Region.ready
        rw [List.mem_filter]
        refine ⟨List.mem_range.2 hi, ?_⟩
        rw [hb]
        have ho : ops[i]? = some ops[i] := Array.getElem?_eq_getElem hi
        rw [ho]
        simp only [Option.map_some, Option.getD_some, Bool.not_false, Bool.true_and]
        rw [Array.all_eq_true']
        intro e he
        rcases hbe : Region.binds .any e with _ | _
        · simp
        have hlt := hdep i _ ho e he hbe
        have := ih e.on hlt (by omega)
        have hs : e.on < listed.size := by omega
        rw [Array.getD_eq_getD_getElem?, Array.getElem?_eq_getElem hs] at this ⊢
        simp only [Option.getD_some] at this ⊢
        rw [this]; simp
      rw [hr] at hmem
      cases hmem
    · rfl

def depsOk (ops : Array Oper) : Bool := (List.range ops.size).all fun i => ((ops[i]?).map fun o => o.after.all fun e => !Region.binds .any e || decide (e.on < i)).getD true
theorem depsOk_spec {ops : Array Oper} (h : depsOk ops = true) : ∀ (i : Nat) (o : Oper), ops[i]? = some o → ∀ e : Edge, e ∈ o.after → Region.binds .any e = true → e.on < i := by
  intro i o ho e he hbe
  have hi : i < ops.size := (Array.getElem?_eq_some_iff.1 ho).1
  have := List.all_eq_true.1 h i (List.mem_range.2 hi)
  rw [ho] at this
  simp only [Option.map_some, Option.getD_some] at this
  rw [Array.all_eq_true'] at this
  have h2 := this e he
  rw [hbe] at h2
  simpa using h2

section
variable {P : Program} {ops : Array Oper} {Q : Exit → Act → World → Prop}

theorem wpOp_of_list {i : Nat} {o : Oper} {K : Act → World → Prop} {a : Act} {w : World} (ho : ops[i]? = some o) (h : wpList P ops (Exit.then K Q) [o] a w) : wpOp P ops Q i K a w := by
  unfold wpOp
  rw [ho]
  simp only [wpList] at h
  by_cases hw : Region.wanted o (yielded ops a.tmps) = true
  · simp only [hw, if_true] at h ⊢
    refine h.imp (fun h => ?_) (fun ⟨h1, h2⟩ => ⟨h1, h2⟩)
    have h' := Oper.wp_mono (K' := K) (fun a w hk => hk) h
    unfold Oper.wp at h' ⊢
    generalize (execOp a.eval o).run P w = r at *
    cases r with
    | ok n w' =>
      cases n <;> simp only [Oper.upon] at h' ⊢ <;> first
        | exact h'
        | exact h'.mono (fun e w'' he => by cases e <;> exact he)
    | halt x w' => cases x <;> simp only [Oper.upon] at h' ⊢ <;> exact h'
  · simp only [hw] at h ⊢
    exact h

theorem wpAny_inv (hdep : ∀ (i : Nat) (o : Oper), ops[i]? = some o → ∀ e : Edge, e ∈ o.after → Region.binds .any e = true → e.on < i) (I : (Nat → Bool) → Act → World → Prop)
    (hstep : ∀ (L : Nat → Bool) (a : Act) (w : World) (i : Nat) (o : Oper), ops[i]? = some o → L i = false → (∀ e : Edge, e ∈ o.after → Region.binds .any e = true → L e.on = true) → I L a w → wpList P ops (Exit.then (I (fun j => j == i || L j)) Q) [o] a w)
    (hend : ∀ (L : Nat → Bool) (a : Act) (w : World), (∀ i, i < ops.size → L i = true) → I L a w → Q .normal a w) :
    ∀ (fuel : Nat) (listed : Array Bool) (a : Act) (w : World), listed.size = ops.size → ops.size ≤ fuel + (listed.toList.filter (· == true)).length →
      I (fun j => listed.getD j false) a w → wpAny P .any ops Q fuel listed a w := by
  have hget : ∀ (listed : Array Bool) (i : Nat), i < listed.size → listed.getD i true = listed.getD i false := by
    intro l i hi
    rw [Array.getD_eq_getD_getElem?, Array.getD_eq_getD_getElem?, Array.getElem?_eq_getElem hi]; rfl
  have hend' : ∀ (listed : Array Bool) (a : Act) (w : World), listed.size = ops.size → I (fun j => listed.getD j false) a w → Region.ready .any ops listed = [] → Q .normal a w := by
    intro listed a w hsz hI hr
    refine hend _ a w (fun i hi => ?_) hI
    have := ready_nil_all hsz hdep hr i hi
    rwa [hget _ _ (by omega)] at this
  intro fuel
  induction fuel with
  | zero =>
    intro listed a w hsz hf hI
    have hall : ∀ b ∈ listed.toList, (b == true) = true := by
      have hl : (listed.toList.filter (· == true)).length = listed.toList.length := by
        have h1 := List.length_filter_le (· == true) listed.toList
        have h2 : listed.toList.length = listed.size := Array.length_toList
        omega
      exact List.length_filter_eq_length_iff.1 hl
    have hr : Region.ready .any ops listed = [] := by
      unfold Region.ready
      rw [List.filter_eq_nil_iff]
      intro i hi
      have hi' : i < listed.size := by rw [hsz]; exact List.mem_range.1 hi
      have : listed.getD i true = true := by
        rw [Array.getD_eq_getD_getElem?, Array.getElem?_eq_getElem hi']
        have := hall listed[i] (by simp)
        simpa using this
      rw [this]; simp
    exact ⟨hr, hend' listed a w hsz hI hr⟩
  | succ fuel ih =>
    intro listed a w hsz hf hI
    refine ⟨fun hr => hend' listed a w hsz hI hr, fun i hi => ?_⟩
    unfold Region.ready at hi
    rw [List.mem_filter] at hi
    obtain ⟨hir, hc⟩ := hi
    have hil : i < ops.size := List.mem_range.1 hir
    have ho : ops[i]? = some ops[i] := Array.getElem?_eq_getElem hil
    rw [ho] at hc
    simp only [Option.map_some, Option.getD_some, Bool.and_eq_true, Bool.not_eq_true'] at hc
    obtain ⟨hc1, hc2⟩ := hc
    rw [Array.all_eq_true'] at hc2
    have hs := hstep (fun j => listed.getD j false) a w i _ ho (by rw [← hget _ _ (by omega)]; exact hc1) (fun e he hb => by
      have := hc2 e he
      rw [hb] at this
      simpa using this) hI
    refine wpOp_mono (fun a' w' hI' => ?_) (wpOp_of_list ho hs)
    refine ih _ a' w' (by simpa using hsz) ?_ ?_
    · have hfalse : listed[i]'(by omega) = false := by
        have := hc1
        rw [Array.getD_eq_getD_getElem?, Array.getElem?_eq_getElem (by omega)] at this
        simpa using this
      have hcount : ((listed.setIfInBounds i true).toList.filter (· == true)).length = (listed.toList.filter (· == true)).length + 1 := by
        rw [Array.toList_setIfInBounds]
        have hil' : i < listed.toList.length := by rw [Array.length_toList]; omega
        have hg : listed.toList[i] = false := by simpa using hfalse
        have e1 : listed.toList = listed.toList.take i ++ false :: listed.toList.drop (i + 1) := by
          conv => lhs; rw [← List.take_append_drop i listed.toList]
          rw [List.drop_eq_getElem_cons hil', hg]
        have e2 : listed.toList.set i true = listed.toList.take i ++ true :: listed.toList.drop (i + 1) := by
          rw [List.set_eq_take_append_cons_drop, if_pos hil']
        rw [e2]
        conv => rhs; rw [e1]
        simp [List.filter_append]
        omega
      omega
    · have : (fun j => (listed.setIfInBounds i true).getD j false) = fun j => j == i || listed.getD j false := by
        funext j
        by_cases hj : j = i
        · subst hj
          simp [Array.getD_eq_getD_getElem?, show j < listed.size by omega]
        · simp [Array.getD_eq_getD_getElem?, hj, Ne.symm hj]
      rw [this]
      exact hI'

/-- THE LAW: a region that draws its order, by an invariant. -/
theorem wp_region_inv {id : Nat} {a : Act} {w : World} (hm : P.follows .mixedOrders = true) (hdep : ∀ (i : Nat) (o : Oper), ops[i]? = some o → ∀ e : Edge, e ∈ o.after → Region.binds .any e = true → e.on < i) (I : (Nat → Bool) → Act → World → Prop)
    (h0 : I (fun _ => false) a w.drew)
    (hstep : ∀ (L : Nat → Bool) (a : Act) (w : World) (i : Nat) (o : Oper), ops[i]? = some o → L i = false → (∀ e : Edge, e ∈ o.after → Region.binds .any e = true → L e.on = true) → I L a w → wpList P ops (Exit.then (I (fun j => j == i || L j)) Q) [o] a w)
    (hend : ∀ (L : Nat → Bool) (a : Act) (w : World), (∀ i, i < ops.size → L i = true) → I L a w → Q .normal a w) : (Code.region id ops true).wp P Q a w := by
  refine wp_region_any hm (wpAny_inv hdep I hstep hend ops.size _ a _ (by simp) (by omega) ?_)
  have : (fun j => (Array.replicate ops.size false).getD j false) = fun _ => false := by
    funext j
    simp only [Array.getD_eq_getD_getElem?, Array.getElem?_replicate]
    split <;> rfl
  rw [this]
  exact h0
end
/-- The values of the operations that are done, one by one. -/
def upd (v : Nat → Value) (i : Nat) (x : Value) : Nat → Value := fun j => if j = i then x else v j
theorem upd_facts {F : Nat → Value → World → Prop} {L : Nat → Bool} {v : Nat → Value} {w w' : World} {i : Nat} {x : Value} (hF : ∀ j, L j = true → F j (v j) w) (hm : ∀ j y, F j y w → F j y w') (hx : F i x w') :
    ∀ j, (j == i || L j) = true → F j (upd v i x j) w' := by
  intro j hj
  unfold upd
  by_cases h : j = i
  · rw [if_pos h]; subst h; exact hx
  · rw [if_neg h]
    have : L j = true := by simpa [h] using hj
    exact hm _ _ (hF j this)
theorem results_cell_tmp {P : Program} {fn : Func} {p q : Tmp} {ty : TypeId} (h : fn.results = #[.cell p ty, .tmp q]) (tmps : Array Value) (w : World) (g : Nat) (t : TypeId) (cs : Array Value) (fr : Nat × Nat) (d : TypeDesc)
    (hp : tmps.getD p undef = .pointer (some ⟨g, 0, none⟩)) (hg : w.heap[g]? = some (.cells cs t fr))
    (hu : P.underlying ty = some d) (hd : (match d with | .struct _ | .array _ _ => true | _ => false) = true) (hi : (P.info? ty).map (·.size) = some cs.size) :
    (results fn tmps).run P w = .ok (.tuple #[.agg cs, tmps.getD q undef]) w := by
  have hp' : tmps[p]?.getD undef = .pointer (some ⟨g, 0, none⟩) := by simpa using hp
  simp [results, h, hp', asAddr, run_loadVar_row w g t ty cs fr d hg hu hd hi]

theorem setRow_new (W : World) (old cells : Array Value) (t : TypeId) : (W.alloc (.cells old t)).setRow W.heap.size cells = W.alloc (.cells cells t) := by
  have h : ∀ f : Obj → Obj, f (.cells old t) = .cells cells t → (W.heap.push (.cells old t)).modify W.heap.size f = W.heap.push (.cells cells t) := fun f hf => by
    refine Array.ext (by simp) fun i h1 h2 => ?_
    rw [Array.getElem_modify]
    by_cases hi : W.heap.size = i
    · subst hi; simp [hf]
    · simp only [Array.size_modify, Array.size_push] at h1
      rw [if_neg hi, Array.getElem_push_lt (by omega), Array.getElem_push_lt (by omega)]
  show ({ (W.alloc (.cells old t)) with heap := _ } : World) = _
  rw [show (W.alloc (.cells old t)).heap = W.heap.push (.cells old t) from rfl, h _ rfl]
  rfl

/-- A struct stored into the block that was made just before. -/
theorem wpList_store_new {P : Program} {ops : Array Oper} {rest : List Oper} {o : Oper} {a : Act} {W : World} {Q : Exit → Act → World → Prop} (hgd : o.guard = none) (ty : TypeId) (x y : Operand) (ho : o.op = .store ty x y)
    (g : Nat) (cells : Array Value) (hx : a.eval x = .pointer (some ⟨g, 0, none⟩)) (hy : a.eval y = .agg cells)
    (t : TypeId) (old : Array Value) (hg : g = W.heap.size) (hi : (P.info? ty).map (·.size) = some cells.size)
    (hold : old.size = cells.size) (h1 : cells.all (·.oneCell') = true)
    (h : wpList P ops Q rest (a.put o.dst undef) (W.alloc (.cells cells t))) : wpList P ops Q (o :: rest) a (W.alloc (.cells old t)) := by
  subst hg
  refine wpList_store_row hgd ty x y ho _ cells hx hy t old (heap_alloc_new W _) hi hold h1 ?_
  rw [setRow_new]
  exact h

/-- Is the next operation a store? -/
theorem look_store {P : Program} {ops : Array Oper} {Q : Exit → Act → World → Prop} {a : Act} {w : World} {rest : List Oper} {d : Option Tmp} {ty t : TypeId} {x y : Operand} {p : String} {af : Array Edge} {g : Option (Nat × Bool)}
    (h : wpList P ops Q ((⟨d, .store ty x y, t, p, af, g⟩ : Oper) :: rest) a w) : wpList P ops Q ((⟨d, .store ty x y, t, p, af, g⟩ : Oper) :: rest) a w := h

end Go.Proofs.YtebeekjcepjcnaaDoor
