/-
  The reference of layer 2, checksums by remainders: it computes what the program computes.
  The reference's numbers as bytes: layers 5 and 8.
-/
import Derived.Test.YtebeekjcepjcnaaDoorFold
import Derived.Test.YtebeekjcepjcnaaDoorStepb
import Derived.Deep.DeepCutAuto
import Derived.Test.YtebeekjcepjcnaaDoorIp
namespace Go.Proofs.YtebeekjcepjcnaaDoor
open Go.RowKit Go.Shelf

set_option maxHeartbeats 400000 in
theorem rFold_any (s : Int) (w : World) (h0 : 0 ≤ s) (h1 : s ≤ 1000000000000) : Calls Tryd.prog 164 #[.int .i64 s] w fun e w' => e = .returned (.int .i64 (foldF s)) ∧ w = w' := by
  by_cases h : s = 0
  · subst h
    go_enter Tryd.func164, Tryd.ntmps164
    go_wp2_with fail
    go_ret
    exact ⟨rfl, rfl⟩
  · have hb : (s == 0) = false := by simpa using h
    have Hr := Lib.hid (show foldF s = 1 + (s - 1) % 65535 from if_neg h)
    rw [Hr.out]
    have hs1 : 1 ≤ s := by omega
    clear h h0
    go_enter Tryd.func164, Tryd.ntmps164
    go_wp2_with fail
    go_ret
    exact ⟨rfl, rfl⟩

set_option maxHeartbeats 1000000 in
theorem rSum_any (A : Option Addr) (cap : Nat) (bs : List Int) (w : World) (hb : Byt bs) (hl : bs.length ≤ 1000000) (hr : Rd w w.heap.size A .u8 bs) :
    Calls Tryd.prog 135 #[.slice A bs.length cap] w fun e w' => e = .returned (.int .i64 (sumB bs)) ∧ w = w' := by
  have Hb := Lib.hid hb
  have Hs := Lib.hid (sumB_foldF hb)
  clear hb
  go_enter Tryd.func135, Tryd.ntmps135
  go_wp2
  go_loop [3, 4] (fun s i => ∃ k : Nat, k ≤ bs.length ∧ i = .int .i64 k ∧ s = .int .i64 (byteSum bs k)) (fun _ i => bs.length - (intOf i).toNat)
  case atStart => exact ⟨0, by omega, rfl, rfl⟩
  case round =>
    obtain ⟨k, hk, rfl, rfl⟩ := hrel
    have hbd := byteSum_bd Hb.out k
    by_cases hlt : k < bs.length
    · obtain ⟨b, off, rfl, _, hcell⟩ := hr k hlt
      have hx := Hb.out.at_ k
      have Hn := Lib.hid (show byteSum bs (k + 1) = byteSum bs k + (if k % 2 = 0 then 256 * bs.getD k 0 else bs.getD k 0) from rfl)
      generalize byteSum bs k = S at *
      generalize bs.getD k 0 = x at *
      rcases Nat.mod_two_eq_zero_or_one k with hm | hm
      · have Hn2 := Lib.hid (Hn.out.trans (by rw [if_pos hm]))
        have hb2 : (((k : Int) % 2) == 0) = true := by simp; omega
        clear hm
        go_wp2
        go_round
        case rel => exact ⟨k + 1, by omega, by go_num, by rw [Hn2.out]⟩
        case measure => simp [intOf]; omega
      · have Hn2 := Lib.hid (Hn.out.trans (by rw [if_neg (by omega)]))
        have hb2 : (((k : Int) % 2) == 0) = false := by simp; omega
        clear hm
        go_wp2
        go_round
        case rel => exact ⟨k + 1, by omega, by go_num, by rw [Hn2.out]⟩
        case measure => simp [intOf]; omega
    · obtain rfl : k = bs.length := by omega
      generalize byteSum bs bs.length = S at *
      go_wp2_with fail
      refine (rFold_any S _ hbd.1 (by omega)).mono ?_
      rintro e w' ⟨rfl, rfl⟩
      go_wp2_with fail
      go_ret
      exact ⟨by rw [Hs.out]; rfl, rfl⟩

set_option maxHeartbeats 400000 in
theorem rOf_any (A : Option Addr) (cap : Nat) (bs : List Int) (w : World) (hb : Byt bs) (hl : bs.length ≤ 1000000) (hr : Rd w w.heap.size A .u8 bs) :
    Calls Tryd.prog 96 #[.slice A bs.length cap] w fun e w' => e = .returned (.int .i64 (ofB bs)) ∧ w = w' := by
  have Hs := Lib.hid (rSum_any A cap bs w hb hl hr)
  have hbd := sumB_bd hb
  unfold ofB
  generalize sumB bs = S at *
  go_enter Tryd.func96, Tryd.ntmps96
  go_wp2_with fail
  refine Hs.out.mono ?_
  rintro e w1 ⟨rfl, rfl⟩
  go_wp2_with fail
  go_ret
  exact ⟨rfl, rfl⟩

set_option maxHeartbeats 400000 in
theorem rOver_any (p : Int) (A : Option Addr) (cap : Nat) (bs : List Int) (w : World) (h0 : 0 ≤ p) (h1 : p < 65536) (hb : Byt bs) (hl : bs.length ≤ 1000000) (hr : Rd w w.heap.size A .u8 bs) :
    Calls Tryd.prog 132 #[.int .i64 p, .slice A bs.length cap] w fun e w' => e = .returned (.int .i64 (overB p bs)) ∧ w = w' := by
  have Hs := Lib.hid (rSum_any A cap bs w hb hl hr)
  have hbd := sumB_bd hb
  rw [overB_foldF hb h0 h1]
  generalize sumB bs = S at *
  have hf := foldF_bd (s := p + S) (by omega)
  have HF := Lib.hid (fun W => rFold_any (p + S) W (by omega) (by omega))
  generalize foldF (p + S) = F at *
  go_enter Tryd.func132, Tryd.ntmps132
  go_wp2_with fail
  refine Hs.out.mono ?_
  rintro e w1 ⟨rfl, rfl⟩
  go_wp2_with fail
  refine (HF.out _).mono ?_
  rintro e w' ⟨rfl, rfl⟩
  go_wp2_with fail
  go_ret
  exact ⟨rfl, rfl⟩

set_option maxHeartbeats 400000 in
theorem rPseudo_any (src dst proto len : Int) (w : World) (s0 : 0 ≤ src) (s1 : src < 4294967296) (d0 : 0 ≤ dst) (d1 : dst < 4294967296) (p0 : 0 ≤ proto) (p1 : proto < 256) (l0 : 0 ≤ len) (l1 : len ≤ 65535) :
    Calls Tryd.prog 131 #[.int .i64 src, .int .i64 dst, .int .i64 proto, .int .i64 len] w fun e w' => e = .returned (.tuple #[.int .i64 (pseudoL src dst proto len), .int .i64 0]) ∧ w = w' := by
  have HP := Lib.hid (pseudoL_foldF s0 s1 d0 d1 p0 p1 l0 l1)
  generalize pseudoL src dst proto len = R at *
  have b1 : decide (len < 0) = false := by simpa using l0
  have b2 : decide (65535 < len) = false := by simpa using l1
  go_enter Tryd.func131, Tryd.ntmps131
  go_wp2_with fail
  refine (rFold_any (src / 65536 + src % 65536 + dst / 65536 + dst % 65536 + proto + len) _ (by omega) (by omega)).mono ?_
  rintro e w' ⟨rfl, rfl⟩
  go_wp2_with fail
  go_ret2
  exact ⟨by rw [HP.out]; rfl, rfl⟩

/-- A slice that a literal lays. -/
theorem own_lit (w : World) (base n : Nat) (xs : List Int) (cs : Array Value) (hcs : cs = (U8 xs).toArray) (hn : xs.length = n) (hm : n ≤ maxLen) (hbase : base ≤ w.heap.size) :
    Own (w.alloc (.cells cs 5)) base (.slice (some ⟨w.heap.size, 0, none⟩) n n) xs := by
  subst hcs; subst hn
  exact ⟨by simp [U8], .inr ⟨w.heap.size, xs.length, _, rfl, hbase, heap_alloc_new w _, Nat.le_refl _, hm, by simp [U8], by rw [Nat.mul_one]; exact List.take_of_length_le (by simp [U8])⟩⟩

set_option maxRecDepth 100000 in
set_option maxHeartbeats 1000000 in
theorem rFix_any (A : Option Addr) (cap : Nat) (bs : List Int) (at_ : Nat) (w : World) (hb : Byt bs) (hl : bs.length ≤ 1000000) (hr : Rd w w.heap.size A .u8 bs) (hev : at_ % 2 = 0) (hat : at_ + 2 ≤ bs.length) :
    Calls Tryd.prog 53 #[.slice A bs.length cap, .int .i64 at_] w fun e w' => ∃ v, e = .returned (.tuple #[v, .int .i64 0]) ∧ Own w' w.heap.size v (fixL bs at_) ∧ Below w.heap.size w w' := by
  have h1 : decide ((at_ : Int) < 0) = false := by simp
  have h2 : (((at_ : Int) % 2) == 1) = false := by simp; omega
  have h3 : decide ((bs.length : Int) ≤ (at_ : Int)) = false := by simp; omega
  have h4 : decide ((bs.length : Int) < (at_ : Int) + 2) = false := by simp; omega
  clear hev
  go_enter Tryd.func53, Tryd.ntmps53
  go_upto_region 3 with (fail)
  go_upto_region 4 with (at_builtin; refine app_own rfl (.tmp 28) (.tmp 29) rfl w.heap.size _ [] rfl (own_lit w w.heap.size 0 [] _ rfl rfl (by simp [maxLen]) (Nat.le_refl _)) _ A _ cap bs rfl rfl (hr.alloc (Nat.le_refl _) _) (by simp; omega) (by simp) ?_; intro v1 w1 hown hbw _ _)
  have hsz := hbw.size
  obtain ⟨g, cap', rfl, hg0, hg1, _, _⟩ := hown.form (by simp; omega)
  rw [List.nil_append] at hown ⊢
  have c0 : w1.cell? ⟨g, at_, none⟩ = some (.int .u8 (bs.getD at_ 0)) := hown.cell at_ (by omega)
  have c1 : w1.cell? ⟨g, at_ + 1, none⟩ = some (.int .u8 (bs.getD (at_ + 1) 0)) := hown.cell (at_ + 1) (by omega)
  have f0 : w1.frozen? ⟨g, at_, none⟩ = false := hown.free at_
  have f1 : w1.frozen? ⟨g, at_ + 1, none⟩ = false := hown.free (at_ + 1)
  have hz := (hown.set at_ 0).set (at_ + 1) 0
  have Hz : Hid (Own _ _ _ (zeroAt bs at_)) := Lib.hid hz
  clear hz
  have hbz := zeroAt_byt hb at_
  have hob := ofB_bd hbz
  have Hlz := Lib.hid (zeroAt_len bs at_)
  generalize bs.getD at_ 0 = x0 at *
  generalize bs.getD (at_ + 1) 0 = x1 at *
  go_wp2_with fail
  have hof := rOf_any (some ⟨g, 0, none⟩) cap' (zeroAt bs at_) _ hbz (by rw [Hlz.out]; exact hl) Hz.out.rd
  rw [Hlz.out] at hof
  refine hof.mono ?_
  rintro e w2 ⟨rfl, rfl⟩
  have hbz' : Below g w1 ((w1.setCell ⟨g, at_, none⟩ (.int .u8 0)).setCell ⟨g, at_ + 1, none⟩ (.int .u8 0)) := ((Below.refl _ _).setCell (p := ⟨g, at_, none⟩) (Nat.le_refl _) _).setCell (p := ⟨g, at_ + 1, none⟩) (Nat.le_refl _) _
  have hoz := Hz.out
  generalize ((w1.setCell ⟨g, at_, none⟩ (.int .u8 0)).setCell ⟨g, at_ + 1, none⟩ (.int .u8 0)) = w2 at *
  have c2 : w2.cell? ⟨g, at_, none⟩ = some (.int .u8 ((zeroAt bs at_).getD at_ 0)) := hoz.cell at_ (by rw [Hlz.out]; omega)
  have c3 : w2.cell? ⟨g, at_ + 1, none⟩ = some (.int .u8 ((zeroAt bs at_).getD (at_ + 1) 0)) := hoz.cell (at_ + 1) (by rw [Hlz.out]; omega)
  have f2 : w2.frozen? ⟨g, at_, none⟩ = false := hoz.free at_
  have f3 : w2.frozen? ⟨g, at_ + 1, none⟩ = false := hoz.free (at_ + 1)
  generalize (zeroAt bs at_).getD at_ 0 = x2 at *
  generalize (zeroAt bs at_).getD (at_ + 1) 0 = x3 at *
  have hwr := IntKind.wrap_u8 (ofB (zeroAt bs at_))
  have Hfin := Lib.hid ((hoz.set at_ (ofB (zeroAt bs at_) / 256)).set (at_ + 1) (ofB (zeroAt bs at_) % 256))
  have Hbw := Lib.hid (show Below w.heap.size w w2 from (((Below.refl _ _).alloc (Nat.le_refl _) _).trans hbw).trans (hbz'.mono hg0))
  clear hbz' c0 c1 f0 f1 hbw hoz Hz
  go_wp2_with fail
  go_ret2
  exact ⟨_, rfl, Hfin.out, (Hbw.out.setCell (p := ⟨g, at_, none⟩) hg0 _).setCell (p := ⟨g, at_ + 1, none⟩) hg0 _⟩

end Go.Proofs.YtebeekjcepjcnaaDoor

namespace Go.Proofs.YtebeekjcepjcnaaDoor
open Go.RowKit Go.Shelf

set_option maxHeartbeats 1000000 in
theorem rBytesA_at (size : Nat) (m : Int) (w : World) (hs : size ≤ 1000) (h0 : 0 ≤ m) (h1 : m < 4294967296) :
    Calls Tryd.prog 129 #[.int .i64 m, .int .i64 size] w fun e w' => e = .returned (.slice (some ⟨w.heap.size, 0, none⟩) size size) ∧ Own w' w.heap.size (.slice (some ⟨w.heap.size, 0, none⟩) size size) (putL (List.replicate size 0) 0 size m) ∧ Below w.heap.size w w' := by
  go_enter Tryd.func129, Tryd.ntmps129
  go_wp2_with (at_make; refine make_own rfl _ _ rfl w.heap.size _ _ _ _ size size rfl rfl rfl rfl (Nat.le_refl _) (by omega) (Nat.le_refl _) ?_; intro w2 hown2 hbw2 hlt2)
  have Ho := Lib.hid hown2
  clear hown2
  go_loopw [0, 6] (fun v i wr => ∃ (k : Nat) (ys : List Int) (q : Int), k ≤ size ∧ i = .int .i64 ((k : Int) - 1) ∧ v = .int .i64 q ∧ 0 ≤ q ∧ q < 4294967296 ∧ Own wr w.heap.size (.slice (some ⟨w.heap.size, 0, none⟩) size size) ys ∧ Hid (putL ys 0 k q = putL (List.replicate size 0) 0 size m) ∧ Below w.heap.size w wr)
    (fun _ i _ => (intOf i + 1).toNat)
  case atStart => exact ⟨size, List.replicate size 0, m, Nat.le_refl _, rfl, rfl, h0, h1, Ho.out, Lib.hid rfl, hbw2⟩
  case round =>
    obtain ⟨k, ys, q, hk, rfl, rfl, hq0, hq1, hown, hput, hbw⟩ := hrel
    by_cases hlt : 0 < k
    · obtain ⟨k, rfl⟩ : ∃ j, k = j + 1 := ⟨k - 1, by omega⟩
      have hlen := hown.len
      have hc : wr.cell? ⟨w.heap.size, k, none⟩ = some (.int .u8 (ys.getD k 0)) := hown.cell k (by omega)
      have hf : wr.frozen? ⟨w.heap.size, k, none⟩ = false := hown.free _
      have Hown := Lib.hid (hown.set k (q % 256))
      have Hput := Lib.hid (show putL (ys.set k (q % 256)) 0 k (q / 256) = putL (List.replicate size 0) 0 size m by rw [← hput.out, putL, Nat.zero_add])
      have hwr := IntKind.wrap_u8 q
      generalize ys.getD k 0 = x at *
      clear hlen hown hlt
      have hk1 : ((k + 1 : Nat) : Int) - 1 = (k : Int) := by omega
      rw [hk1]
      clear hk1
      go_wp2_with fail
      go_roundw
      case rel => exact ⟨k, ys.set k (q % 256), q / 256, by omega, rfl, rfl, by omega, by omega, Hown.out, Hput, hbw.setCell (p := ⟨w.heap.size, k, none⟩) (Nat.le_refl _) _⟩
      case measure => simp [intOf]
    · obtain rfl : k = 0 := by omega
      go_wp2_with fail
      go_ret
      exact ⟨rfl, by have := hput.out; rw [← this]; exact hown, hbw⟩
theorem rBytesA_any (size : Nat) (m : Int) (w : World) (hs : size ≤ 1000) (h0 : 0 ≤ m) (h1 : m < 4294967296) :
    Calls Tryd.prog 129 #[.int .i64 m, .int .i64 size] w fun e w' => ∃ v, e = .returned v ∧ Own w' w.heap.size v (putL (List.replicate size 0) 0 size m) ∧ Below w.heap.size w w' :=
  (rBytesA_at size m w hs h0 h1).mono fun _ _ ⟨he, o, l⟩ => ⟨_, he, o, l⟩
theorem rBytesA_2at (m : Int) (w : World) (h0 : 0 ≤ m) (h1 : m < 65536) :
    Calls Tryd.prog 129 #[.int .i64 m, .int .i64 2] w fun e w' => ∃ g, e = .returned (.slice (some ⟨g, 0, none⟩) 2 2) ∧ Own w' w.heap.size (.slice (some ⟨g, 0, none⟩) 2 2) [m / 256, m % 256] ∧ Below w.heap.size w w' := by
  refine (rBytesA_at 2 m w (by omega) h0 (by omega)).mono ?_
  rintro e w' ⟨rfl, o, l⟩
  have e1 : putL (List.replicate 2 0) 0 2 m = [m / 256, m % 256] := by
    show [m / 256 % 256, m % 256] = _
    rw [show m / 256 % 256 = m / 256 by omega]
  rw [e1] at o
  exact ⟨_, rfl, o, l⟩

theorem rBytesA_2 (m : Int) (w : World) (h0 : 0 ≤ m) (h1 : m < 65536) :
    Calls Tryd.prog 129 #[.int .i64 m, .int .i64 2] w fun e w' => ∃ A cap, e = .returned (.slice A 2 cap) ∧ Own w' w.heap.size (.slice A 2 cap) [m / 256, m % 256] ∧ Below w.heap.size w w' := by
  refine (rBytesA_any 2 m w (by omega) h0 (by omega)).mono ?_
  rintro e w' ⟨v, rfl, o, l⟩
  have e1 : putL (List.replicate 2 0) 0 2 m = [m / 256, m % 256] := by
    show [m / 256 % 256, m % 256] = _
    rw [show m / 256 % 256 = m / 256 by omega]
  rw [e1] at o
  obtain ⟨A, cap, rfl, _⟩ := o.open_
  exact ⟨A, cap, rfl, o, l⟩
theorem rBytesA_4 (m : Int) (w : World) (h0 : 0 ≤ m) (h1 : m < 4294967296) :
    Calls Tryd.prog 129 #[.int .i64 m, .int .i64 4] w fun e w' => ∃ A cap, e = .returned (.slice A 4 cap) ∧ Own w' w.heap.size (.slice A 4 cap) [m / 256 / 256 / 256, m / 256 / 256 % 256, m / 256 % 256, m % 256] ∧ Below w.heap.size w w' := by
  refine (rBytesA_any 4 m w (by omega) h0 h1).mono ?_
  rintro e w' ⟨v, rfl, o, l⟩
  have e1 : putL (List.replicate 4 0) 0 4 m = [m / 256 / 256 / 256, m / 256 / 256 % 256, m / 256 % 256, m % 256] := by
    show [m / 256 / 256 / 256 % 256, m / 256 / 256 % 256, m / 256 % 256, m % 256] = _
    rw [show m / 256 / 256 / 256 % 256 = m / 256 / 256 / 256 by omega]
  rw [e1] at o
  obtain ⟨A, cap, rfl, _⟩ := o.open_
  exact ⟨A, cap, rfl, o, l⟩

set_option maxHeartbeats 1000000 in
theorem rBytesB_at (size : Nat) (m : Int) (w : World) (hs : size ≤ 1000) (h0 : 0 ≤ m) (h1 : m < 4294967296) :
    Calls Tryd.prog 130 #[.int .i64 m, .int .i64 size] w fun e w' => e = .returned (.slice (some ⟨w.heap.size, 0, none⟩) size size) ∧ Own w' w.heap.size (.slice (some ⟨w.heap.size, 0, none⟩) size size) (putL (List.replicate size 0) 0 size m) ∧ Below w.heap.size w w' := by
  go_enter Tryd.func130, Tryd.ntmps130
  go_wp2_with (at_make; refine make_own rfl _ _ rfl w.heap.size _ _ _ _ size size rfl rfl rfl rfl (Nat.le_refl _) (by omega) (Nat.le_refl _) ?_; intro w2 hown2 hbw2 hlt2)
  have Ho := Lib.hid hown2
  clear hown2
  go_loopw [0, 6] (fun v i wr => ∃ (k : Nat) (ys : List Int) (q : Int), k ≤ size ∧ i = .int .i64 ((k : Int) - 1) ∧ v = .int .i64 q ∧ 0 ≤ q ∧ q < 4294967296 ∧ Own wr w.heap.size (.slice (some ⟨w.heap.size, 0, none⟩) size size) ys ∧ Hid (putL ys 0 k q = putL (List.replicate size 0) 0 size m) ∧ Below w.heap.size w wr)
    (fun _ i _ => (intOf i + 1).toNat)
  case atStart => exact ⟨size, List.replicate size 0, m, Nat.le_refl _, rfl, rfl, h0, h1, Ho.out, Lib.hid rfl, hbw2⟩
  case round =>
    obtain ⟨k, ys, q, hk, rfl, rfl, hq0, hq1, hown, hput, hbw⟩ := hrel
    by_cases hlt : 0 < k
    · obtain ⟨k, rfl⟩ : ∃ j, k = j + 1 := ⟨k - 1, by omega⟩
      have hlen := hown.len
      have hc : wr.cell? ⟨w.heap.size, k, none⟩ = some (.int .u8 (ys.getD k 0)) := hown.cell k (by omega)
      have hf : wr.frozen? ⟨w.heap.size, k, none⟩ = false := hown.free _
      have Hown := Lib.hid (hown.set k (q % 256))
      have Hput := Lib.hid (show putL (ys.set k (q % 256)) 0 k (q / 256) = putL (List.replicate size 0) 0 size m by rw [← hput.out, putL, Nat.zero_add])
      have hwr := IntKind.wrap_u8 q
      generalize ys.getD k 0 = x at *
      clear hlen hown hlt
      have hk1 : ((k + 1 : Nat) : Int) - 1 = (k : Int) := by omega
      rw [hk1]
      clear hk1
      go_wp2_with fail
      go_roundw
      case rel => exact ⟨k, ys.set k (q % 256), q / 256, by omega, rfl, rfl, by omega, by omega, Hown.out, Hput, hbw.setCell (p := ⟨w.heap.size, k, none⟩) (Nat.le_refl _) _⟩
      case measure => simp [intOf]
    · obtain rfl : k = 0 := by omega
      go_wp2_with fail
      go_ret
      exact ⟨rfl, by have := hput.out; rw [← this]; exact hown, hbw⟩
theorem rBytesB_any (size : Nat) (m : Int) (w : World) (hs : size ≤ 1000) (h0 : 0 ≤ m) (h1 : m < 4294967296) :
    Calls Tryd.prog 130 #[.int .i64 m, .int .i64 size] w fun e w' => ∃ v, e = .returned v ∧ Own w' w.heap.size v (putL (List.replicate size 0) 0 size m) ∧ Below w.heap.size w w' :=
  (rBytesB_at size m w hs h0 h1).mono fun _ _ ⟨he, o, l⟩ => ⟨_, he, o, l⟩
theorem rBytesB_2at (m : Int) (w : World) (h0 : 0 ≤ m) (h1 : m < 65536) :
    Calls Tryd.prog 130 #[.int .i64 m, .int .i64 2] w fun e w' => ∃ g, e = .returned (.slice (some ⟨g, 0, none⟩) 2 2) ∧ Own w' w.heap.size (.slice (some ⟨g, 0, none⟩) 2 2) [m / 256, m % 256] ∧ Below w.heap.size w w' := by
  refine (rBytesB_at 2 m w (by omega) h0 (by omega)).mono ?_
  rintro e w' ⟨rfl, o, l⟩
  have e1 : putL (List.replicate 2 0) 0 2 m = [m / 256, m % 256] := by
    show [m / 256 % 256, m % 256] = _
    rw [show m / 256 % 256 = m / 256 by omega]
  rw [e1] at o
  exact ⟨_, rfl, o, l⟩

theorem rBytesB_2 (m : Int) (w : World) (h0 : 0 ≤ m) (h1 : m < 65536) :
    Calls Tryd.prog 130 #[.int .i64 m, .int .i64 2] w fun e w' => ∃ A cap, e = .returned (.slice A 2 cap) ∧ Own w' w.heap.size (.slice A 2 cap) [m / 256, m % 256] ∧ Below w.heap.size w w' := by
  refine (rBytesB_any 2 m w (by omega) h0 (by omega)).mono ?_
  rintro e w' ⟨v, rfl, o, l⟩
  have e1 : putL (List.replicate 2 0) 0 2 m = [m / 256, m % 256] := by
    show [m / 256 % 256, m % 256] = _
    rw [show m / 256 % 256 = m / 256 by omega]
  rw [e1] at o
  obtain ⟨A, cap, rfl, _⟩ := o.open_
  exact ⟨A, cap, rfl, o, l⟩
theorem rBytesB_4 (m : Int) (w : World) (h0 : 0 ≤ m) (h1 : m < 4294967296) :
    Calls Tryd.prog 130 #[.int .i64 m, .int .i64 4] w fun e w' => ∃ A cap, e = .returned (.slice A 4 cap) ∧ Own w' w.heap.size (.slice A 4 cap) [m / 256 / 256 / 256, m / 256 / 256 % 256, m / 256 % 256, m % 256] ∧ Below w.heap.size w w' := by
  refine (rBytesB_any 4 m w (by omega) h0 h1).mono ?_
  rintro e w' ⟨v, rfl, o, l⟩
  have e1 : putL (List.replicate 4 0) 0 4 m = [m / 256 / 256 / 256, m / 256 / 256 % 256, m / 256 % 256, m % 256] := by
    show [m / 256 / 256 / 256 % 256, m / 256 / 256 % 256, m / 256 % 256, m % 256] = _
    rw [show m / 256 / 256 / 256 % 256 = m / 256 / 256 / 256 by omega]
  rw [e1] at o
  obtain ⟨A, cap, rfl, _⟩ := o.open_
  exact ⟨A, cap, rfl, o, l⟩

end Go.Proofs.YtebeekjcepjcnaaDoor
