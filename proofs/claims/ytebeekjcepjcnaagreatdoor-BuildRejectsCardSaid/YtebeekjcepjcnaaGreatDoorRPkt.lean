/-
  What package pkt reads in a packet: plain functions on lists of bytes. No program in sight.
  The checksum two ways: folded at each step, and by remainders at the end.
-/
import Derived.Test.YtebeekjcepjcnaaGreatDoorRFacts
namespace Go.Proofs.YtebeekjcepjcnaaGreatDoor
open Go.RowKit

def w16At (b : List Int) (i : Nat) : Int := 256 * b.getD i 0 + b.getD (i + 1) 0
def l32At (b : List Int) (i : Nat) : Int := 65536 * w16At b i + w16At b (i + 2)
theorem w16At_bd {b : List Int} (h : Byt b) (i : Nat) : 0 ≤ w16At b i ∧ w16At b i < 65536 := by
  have h1 := h.at_ i
  have h2 := h.at_ (i + 1)
  unfold w16At; omega
theorem l32At_bd {b : List Int} (h : Byt b) (i : Nat) : 0 ≤ l32At b i ∧ l32At b i < 4294967296 := by
  have h1 := w16At_bd h i
  have h2 := w16At_bd h (i + 2)
  unfold l32At; omega
theorem w16At_drop (b : List Int) (k i : Nat) : w16At (b.drop k) i = w16At b (k + i) := by
  simp [w16At, List.getD_eq_getElem?_getD, Nat.add_assoc]
theorem l32At_drop (b : List Int) (k i : Nat) : l32At (b.drop k) i = l32At b (k + i) := by
  unfold l32At; rw [w16At_drop, w16At_drop, Nat.add_assoc]

/-! ### The header of a packet -/

def ipSize (b : List Int) : Nat := 4 * ((b.getD 0 0).toNat % 16)
def ipTotal (b : List Int) : Nat := (w16At b 2).toNat
def ipHdr (b : List Int) : IpH :=
  { tos := b.getD 1 0, id := w16At b 4, df := w16At b 6 / 16384 % 2 == 1, mf := w16At b 6 / 8192 % 2 == 1, off := 8 * (w16At b 6 % 8192), ttl := b.getD 8 0, proto := b.getD 9 0, src := l32At b 12, dst := l32At b 16, opts := (b.take (ipSize b)).drop 20 }
def IpH.rightB (h : IpH) (n : Nat) : Bool := decide (h.off + n ≤ 65515) && (!h.mf || (decide (0 < n) && n % 8 == 0))
/-- Does the test with this number fail? -/
def ipT (b : List Int) : Nat → Bool
  | 0 => decide (b.length < 20)
  | 1 => b.getD 0 0 / 16 != 4
  | 2 => decide (ipSize b < 20) || decide (b.length < ipSize b)
  | 3 => decide (ipTotal b < ipSize b) || decide (b.length < ipTotal b)
  | 4 => !(ofB (b.take (ipSize b)) == 0)
  | 5 => decide (32768 ≤ w16At b 6)
  | 6 => !(ipHdr b).rightB (ipTotal b - ipSize b)
  | _ => false
def firstB (t : Nat → Bool) : Nat → Nat → Nat
  | _, 0 => 0
  | k, n + 1 => if t k then 0 else firstB t (k + 1) n + 1
/-- The first test that fails (7: none). -/
def ipN (b : List Int) : Nat := firstB (ipT b) 0 7
def ipE (b : List Int) : Int := if ipN b < 7 then 50 + ipN b else 0

theorem firstB_le (t : Nat → Bool) : ∀ n k, firstB t k n ≤ n
  | 0, _ => Nat.le_refl _
  | n + 1, k => by
    unfold firstB
    split
    · omega
    · have := firstB_le t n (k + 1); omega
theorem firstB_before (t : Nat → Bool) : ∀ n k j, j < firstB t k n → t (k + j) = false
  | 0, _, _, h => by simp [firstB] at h
  | n + 1, k, j, h => by
    unfold firstB at h
    split at h
    · omega
    · rename_i hk
      rcases j with _ | j
      · simpa using hk
      · have := firstB_before t n (k + 1) j (by omega)
        rw [← this]; congr 1; omega
theorem firstB_at (t : Nat → Bool) : ∀ n k, firstB t k n < n → t (k + firstB t k n) = true
  | 0, _, h => by omega
  | n + 1, k, h => by
    unfold firstB at h ⊢
    split
    · rename_i hk; simpa using hk
    · rename_i hk
      rw [if_neg hk] at h
      have := firstB_at t n (k + 1) (by omega)
      rw [← this]; congr 1; omega
theorem firstB_eq {t : Nat → Bool} {n j : Nat} (hj : j < n) (hb : ∀ i, i < j → t i = false) (ha : t j = true) : firstB t 0 n = j := by
  rcases Nat.lt_trichotomy (firstB t 0 n) j with h | h | h
  · have := firstB_at t n 0 (by omega)
    rw [Nat.zero_add, hb _ h] at this; cases this
  · exact h
  · have := firstB_before t n 0 j h
    rw [Nat.zero_add, ha] at this; cases this
theorem firstB_all {t : Nat → Bool} {n : Nat} (hb : ∀ i, i < n → t i = false) : firstB t 0 n = n := by
  rcases Nat.lt_or_ge (firstB t 0 n) n with h | h
  · have := firstB_at t n 0 h
    rw [Nat.zero_add, hb _ h] at this; cases this
  · have := firstB_le t n 0; omega

/-! ### Options -/

def optGroup (k : Int) : Nat := if k = 7 then 1 else if k = 68 then 2 else if k = 131 then 3 else if k = 137 then 3 else 0
def addrB (d : List Int) : Bool := d.length % 4 == 1 && decide (4 ≤ d.getD 0 0) && d.getD 0 0 % 4 == 0 && decide (d.getD 0 0 ≤ d.length + 3)
def stampS (x : Int) : Int := if x = 0 then 4 else if x = 1 then 8 else if x = 2 then 0 else 8
def stampB (d : List Int) : Bool :=
  if d.length < 2 then false
  else if 3 < d.getD 1 0 % 16 ∨ d.getD 1 0 % 16 = 2 then false
  else ((d.length : Int) - 2) % stampS (d.getD 1 0 % 16) == 0 && decide (0 ≤ d.getD 0 0 - 5) && (d.getD 0 0 - 5) % stampS (d.getD 1 0 % 16) == 0 && decide (d.getD 0 0 - 5 ≤ d.length - 2)
def shapeB (k : Int) (d : List Int) : Bool := if k = 7 ∨ k = 131 ∨ k = 137 then addrB d else if k = 148 then d.length == 2 else if k = 68 then stampB d else true
def optRight (k : Int) (d : List Int) : Bool := if k = 0 ∨ k = 1 then k == 1 && d.length == 0 else shapeB k d && decide (d.length ≤ 38)
/-- What the options of some bytes are, one by one: the kind and an error. -/
def optsY : Nat → List Int → List (Int × Int)
  | 0, _ => []
  | n + 1, b =>
    if b.length = 0 then []
    else if b.getD 0 0 = 0 then (if b.any (fun x => decide (0 < x)) then [(0, 62)] else [])
    else if b.getD 0 0 = 1 then (1, 0) :: optsY n (b.drop 1)
    else if b.length < 2 then [(0, 60)]
    else if b.getD 1 0 < 2 then [(0, 61)]
    else if (b.length : Int) < b.getD 1 0 then [(0, 60)]
    else if optRight (b.getD 0 0) ((b.take (b.getD 1 0).toNat).drop 2) then (b.getD 0 0, 0) :: optsY n (b.drop (b.getD 1 0).toNat)
    else [(b.getD 0 0, 61)]
/-- The kinds, and the first error. -/
def optsR : List (Int × Int) → List Int → List Int × Int
  | [], acc => (acc, 0)
  | (k, e) :: l, acc => if e ≠ 0 then ([], e) else if 0 < optGroup k ∧ acc.any (fun x => optGroup x == optGroup k) then ([], 63) else optsR l (acc ++ [k])
def optRead (b : List Int) : List Int × Int := if 40 < b.length then ([], 3) else optsR (optsY b.length b) []
def routedB (ks : List Int) : Bool := ks.any fun k => optGroup k == 3

/-! ### The reason of a header -/

def strangeB (a : Int) : Bool := a == 0 || decide (3758096384 ≤ a)
def IpH.reason (h : IpH) : Int :=
  if h.off ≠ 0 ∨ h.mf = true then 8
  else if (optRead h.opts).2 ≠ 0 then 9
  else if routedB (optRead h.opts).1 then 10
  else if h.ttl = 0 then 11
  else if strangeB h.src || strangeB h.dst || h.src == h.dst then 12
  else 0

/-! ### Segments, datagrams, messages -/

def tcpSize (d : List Int) : Int := 4 * (d.getD 12 0 / 16)
def tcpE (d : List Int) : Int :=
  if d.length < 20 then 80
  else if tcpSize d < 20 ∨ (d.length : Int) < tcpSize d then 81
  else if d.getD 12 0 % 16 ≠ 0 ∨ saneB (d.getD 13 0).toNat = false then 82
  else if w16At d 0 = 0 ∨ w16At d 2 = 0 then 83
  else 0
def udpE (d : List Int) : Int :=
  if d.length < 8 then 90
  else if w16At d 4 < 8 ∨ (d.length : Int) < w16At d 4 then 91
  else if w16At d 2 = 0 then 92
  else 0
def icmpE (d : List Int) : Int := if d.length < 8 then 100 else kind2 (d.getD 0 0).toNat (d.getD 1 0).toNat
def icmpK (d : List Int) : Int := kind1 (d.getD 0 0).toNat (d.getD 1 0).toNat

/-- The quote of an error: does the test with this number fail? -/
def quoT (b : List Int) : Nat → Bool
  | 0 => decide (b.length < 20) || b.getD 0 0 / 16 != 4
  | 1 => decide (ipSize b < 20) || decide (b.length < ipSize b + 8)
  | 2 => !(ofB (b.take (ipSize b)) == 0) || decide (w16At b 2 < ipSize b + 8)
  | 3 => !(decide (w16At b 6 < 32768) && w16At b 6 % 8192 == 0)
  | _ => false
def quoN (b : List Int) : Nat := firstB (quoT b) 0 4
def quoKey (b : List Int) : Key :=
  let r := b.drop (ipSize b)
  if b.getD 9 0 = 6 ∨ b.getD 9 0 = 17 then ⟨b.getD 9 0, l32At b 12, l32At b 16, w16At r 0, w16At r 2⟩
  else if b.getD 9 0 = 1 then ⟨b.getD 9 0, l32At b 12, l32At b 16, w16At r 4, w16At r 4⟩
  else ⟨b.getD 9 0, l32At b 12, l32At b 16, 0, 0⟩
def quoKind (b : List Int) : Int :=
  let r := b.drop (ipSize b)
  if b.getD 9 0 = 6 ∨ b.getD 9 0 = 17 then (if w16At r 0 = 0 ∨ w16At r 2 = 0 then 0 else if b.getD 9 0 = 6 then 1 else 2)
  else if b.getD 9 0 = 1 then kind1 (r.getD 0 0).toNat (r.getD 1 0).toNat
  else 0
def quoE (b : List Int) : Int := if quoN b < 4 then 103 else if quoKind b = 0 then 103 else if quoKind b = 5 then 104 else 0

/-! ### The packet -/

def reasonOf (e : Int) : Int :=
  if 50 ≤ e ∧ e ≤ 56 then e - 49 else if e = 80 ∨ e = 81 ∨ e = 90 ∨ e = 91 ∨ e = 100 then 14 else if e = 82 then 15 else if e = 83 ∨ e = 92 then 16
  else if e = 101 ∨ e = 102 then 17 else if e = 103 then 18 else if e = 104 then 19 else 0
def baseF (h : IpH) : Facts := { Facts.zero with key := ⟨h.proto, h.src, h.dst, 0, 0⟩ }
/-- The error of the data, and the facts. -/
def tcpF (f : Facts) (d : List Int) : Facts :=
  { f with key := { f.key with sp := w16At d 0, dp := w16At d 2 }, kind := 1, flags := d.getD 13 0 % 64, seqn := l32At d 4, ackn := l32At d 8, window := w16At d 14, length := d.length - tcpSize d }
def udpF (f : Facts) (d : List Int) : Facts := { f with key := { f.key with sp := w16At d 0, dp := w16At d 2 }, kind := 2, length := w16At d 4 - 8 }
def udpE2 (d : List Int) : Int := if udpE d ≠ 0 then udpE d else if w16At d 0 = 0 then 92 else 0
def icmpF (f : Facts) (d : List Int) : Facts :=
  if icmpK d ≠ 5 then { f with key := { f.key with sp := w16At d 4, dp := w16At d 4 }, kind := icmpK d, type := d.getD 0 0, code := d.getD 1 0, length := d.length - 8 }
  else { f with kind := icmpK d, type := d.getD 0 0, code := d.getD 1 0, length := d.length - 8, quoted := quoKey (d.drop 8), qkind := quoKind (d.drop 8) }
def icmpE2 (d : List Int) : Int := if icmpE d ≠ 0 then icmpE d else if icmpK d ≠ 5 then 0 else quoE (d.drop 8)
def dataE (p : Int) (d : List Int) : Int := if p = 6 then tcpE d else if p = 17 then udpE2 d else icmpE2 d
def dataF (p : Int) (f : Facts) (d : List Int) : Facts := if p = 6 then tcpF f d else if p = 17 then udpF f d else icmpF f d
def ipData (b : List Int) : List Int := (b.take (ipTotal b)).drop (ipSize b)
def pktR (b : List Int) : Int :=
  if ipE b ≠ 0 then reasonOf (ipE b)
  else if (ipHdr b).reason ≠ 0 then (ipHdr b).reason
  else if (ipHdr b).proto ≠ 6 ∧ (ipHdr b).proto ≠ 17 ∧ (ipHdr b).proto ≠ 1 then 13
  else reasonOf (dataE (ipHdr b).proto (ipData b))
def pktF (b : List Int) : Facts := if pktR b = 0 then dataF (ipHdr b).proto (baseF (ipHdr b)) (ipData b) else Facts.zero

end Go.Proofs.YtebeekjcepjcnaaGreatDoor
namespace Go.Proofs.YtebeekjcepjcnaaGreatDoor
open Go.RowKit

def foldF (s : Int) : Int := if s = 0 then 0 else 1 + (s - 1) % 65535
theorem foldF_bd {s : Int} (_h : 0 ≤ s) : 0 ≤ foldF s ∧ foldF s ≤ 65535 := by unfold foldF; split <;> omega
theorem fold1_foldF {x : Int} (h0 : 0 ≤ x) (h1 : x ≤ 131070) : fold1 x = foldF x := by unfold fold1 foldF; split <;> omega
theorem foldF_add {a b : Int} (ha : 0 ≤ a) (hb : 0 ≤ b) : foldF (foldF a + b) = foldF (a + b) := by
  unfold foldF
  split <;> split <;> split <;> omega
def sumI : List Int → Int
  | [] => 0
  | x :: l => x + sumI l
theorem sumI_append (a b : List Int) : sumI (a ++ b) = sumI a + sumI b := by
  induction a with
  | nil => simp [sumI]
  | cons x a ih => simp only [List.cons_append, sumI, ih]; omega
theorem foldl_fold1 (l : List Int) (h : U16s l) : ∀ s, 0 ≤ s → l.foldl (fun s w => fold1 (s + w)) (foldF s) = foldF (s + sumI l) := by
  induction l with
  | nil => intro s _; simp [sumI]
  | cons x l ih =>
    intro s hs
    have hx := h x (by simp)
    have hf := foldF_bd hs
    simp only [List.foldl_cons, sumI]
    rw [fold1_foldF (by omega) (by omega), foldF_add hs hx.1, ih (fun y hy => h y (by simp [hy])) _ (by omega)]
    congr 1; omega
theorem joinL_foldF {l : List Int} (h : U16s l) : joinL l = foldF (sumI l) := by
  have := foldl_fold1 l h 0 (Int.le_refl _)
  simpa [joinL, foldF] using this
theorem joinL_two {a b : Int} (ha : 0 ≤ a ∧ a < 65536) (hb : 0 ≤ b ∧ b < 65536) : joinL [a, b] = foldF (a + b) := by
  rw [joinL_foldF (by intro y hy; simp at hy; rcases hy with rfl | rfl <;> assumption)]
  simp [sumI]
theorem foldl_joinL (l : List Int) (h : U16s l) : ∀ s, 0 ≤ s → l.foldl (fun s w => joinL [s, w]) (foldF s) = foldF (s + sumI l) := by
  induction l with
  | nil => intro s _; simp [sumI]
  | cons x l ih =>
    intro s hs
    have hx := h x (by simp)
    have hf := foldF_bd hs
    simp only [List.foldl_cons, sumI]
    rw [joinL_two ⟨hf.1, by omega⟩ hx, foldF_add hs hx.1, ih (fun y hy => h y (by simp [hy])) _ (by omega)]
    congr 1; omega
theorem sumW_foldF {l : List Int} (h : U16s l) : sumW l = foldF (sumI l) := by
  have := foldl_joinL l h 0 (Int.le_refl _)
  simpa [sumW, foldF] using this

/-- The sum of some bytes, byte by byte. -/
def byteSum (bs : List Int) : Nat → Int
  | 0 => 0
  | k + 1 => byteSum bs k + (if k % 2 = 0 then 256 * bs.getD k 0 else bs.getD k 0)
theorem byteSum_even (bs : List Int) (k : Nat) : byteSum bs (2 * k) = sumI (wordsTo bs k) := by
  induction k with
  | zero => rfl
  | succ k ih =>
    rw [wordsTo_succ, sumI_append, show 2 * (k + 1) = 2 * k + 1 + 1 by omega]
    simp only [byteSum, ih, sumI, wordAt]
    rw [if_pos (by omega), if_neg (by omega)]
    omega
theorem byteSum_all (bs : List Int) : byteSum bs bs.length = sumI (wordsL bs) := by
  unfold wordsL nWords
  rcases Nat.mod_two_eq_zero_or_one bs.length with h | h
  · obtain ⟨k, hk⟩ : ∃ k, bs.length = 2 * k := ⟨bs.length / 2, by omega⟩
    rw [hk, byteSum_even]
    congr 2; omega
  · obtain ⟨k, hk⟩ : ∃ k, bs.length = 2 * k + 1 := ⟨bs.length / 2, by omega⟩
    rw [show (bs.length + 1) / 2 = k + 1 by omega, wordsTo_succ, sumI_append, hk]
    simp only [byteSum, byteSum_even, sumI, wordAt]
    rw [if_pos (by omega), show bs.getD (2 * k + 1) 0 = 0 by rw [List.getD_eq_getElem?_getD, List.getElem?_eq_none (by omega)]; rfl]
    omega
theorem byteSum_bd {bs : List Int} (h : Byt bs) (k : Nat) : 0 ≤ byteSum bs k ∧ byteSum bs k ≤ 65280 * (k : Int) := by
  induction k with
  | zero => simp [byteSum]
  | succ k ih =>
    have := h.at_ k
    simp only [byteSum]
    split <;> omega
theorem sumB_foldF {bs : List Int} (hb : Byt bs) : sumB bs = foldF (byteSum bs bs.length) := by
  rw [byteSum_all]
  exact sumW_foldF (U16s.words bs hb _)
end Go.Proofs.YtebeekjcepjcnaaGreatDoor
