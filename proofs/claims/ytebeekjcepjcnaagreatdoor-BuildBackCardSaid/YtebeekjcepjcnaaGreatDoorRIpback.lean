/-
  What ip.Write writes is read as it was (plain).
  A region that draws its order, by an invariant: whatever order its edges allow, each operation takes the invariant on.
-/
import Derived.Orders
import Derived.RegionTactic
import Derived.Test.YtebeekjcepjcnaaGreatDoorRPkt
namespace Go.Proofs.YtebeekjcepjcnaaGreatDoor
open Go.RowKit
/-- The first 20 bytes, with a checksum. -/
def hd20 (h : IpH) (n : Nat) (c : Int) : List Int :=
  [64 + (20 + (h.opts.length : Int)) / 4, h.tos, (20 + h.opts.length + n : Int) / 256 % 256, (20 + h.opts.length + n : Int) % 256, h.id / 256 % 256, h.id % 256, h.word / 256 % 256, h.word % 256, h.ttl, h.proto, c / 256, c % 256,
    h.src / 256 / 256 / 256 % 256, h.src / 256 / 256 % 256, h.src / 256 % 256, h.src % 256, h.dst / 256 / 256 / 256 % 256, h.dst / 256 / 256 % 256, h.dst / 256 % 256, h.dst % 256]
theorem hd20_len (h : IpH) (n : Nat) (c : Int) : (hd20 h n c).length = 20 := rfl
theorem head1_eq (h : IpH) (n : Nat) : head1 h n = hd20 h n 0 ++ List.replicate h.opts.length 0 := by
  unfold head1 head0
  rw [show List.replicate (20 + h.opts.length) (0 : Int) = [0, 0, 0, 0, 0, 0, 0, 0, 0, 0, 0, 0, 0, 0, 0, 0, 0, 0, 0, 0] ++ List.replicate h.opts.length 0 from by rw [show ([0, 0, 0, 0, 0, 0, 0, 0, 0, 0, 0, 0, 0, 0, 0, 0, 0, 0, 0, 0] : List Int) = List.replicate 20 0 from rfl, List.replicate_append_replicate]]
  generalize List.replicate h.opts.length (0 : Int) = z
  simp only [putL, List.cons_append, List.nil_append, List.set_cons_succ, List.set_cons_zero, hd20, Nat.add_zero, Nat.reduceAdd]
  rfl
theorem headS_eq (h : IpH) (n : Nat) : splice (head1 h n) 20 h.opts = hd20 h n 0 ++ h.opts := by
  rw [head1_eq]
  unfold splice
  rw [List.take_left' (hd20_len h n 0), List.drop_eq_nil_of_le (by rw [List.length_append, hd20_len, List.length_replicate]; omega)]
  rw [List.append_nil]
theorem headL_eq (h : IpH) (n : Nat) : headL h n = hd20 h n (ofB (hd20 h n 0 ++ h.opts)) ++ h.opts := by
  unfold headL fixL
  rw [headS_eq]
  have hz : zeroAt (hd20 h n 0 ++ h.opts) 10 = hd20 h n 0 ++ h.opts := rfl
  rw [hz]
  rfl
/-- Two bytes at an even place more: the sum grows by their word. -/
theorem byteSum_eq (a b : List Int) : ∀ k, (∀ i, i < k → a.getD i 0 = b.getD i 0) → byteSum a k = byteSum b k
  | 0, _ => rfl
  | k + 1, h => by
    simp only [byteSum]
    rw [byteSum_eq a b k fun i hi => h i (by omega), h k (by omega)]
theorem byteSum_word (a b : List Int) (at_ : Nat) (c : Int) (hat : at_ % 2 = 0) (h1 : ∀ i, i ≠ at_ → i ≠ at_ + 1 → a.getD i 0 = b.getD i 0) (h2 : 256 * a.getD at_ 0 + a.getD (at_ + 1) 0 = 256 * b.getD at_ 0 + b.getD (at_ + 1) 0 + c) :
    ∀ m, byteSum a (at_ + 2 + m) = byteSum b (at_ + 2 + m) + c
  | 0 => by
    have := byteSum_eq a b at_ fun i hi => h1 i (by omega) (by omega)
    simp only [byteSum]
    rw [this, if_pos hat, if_neg (by omega)]
    omega
  | m + 1 => by
    have ih := byteSum_word a b at_ c hat h1 h2 m
    rw [show at_ + 2 + (m + 1) = at_ + 2 + m + 1 by omega]
    simp only [byteSum]
    rw [ih, h1 (at_ + 2 + m) (by omega) (by omega)]
    omega
/-- A checksum that is fixed is right. -/
theorem foldF_fix {s : Int} (h : 0 ≤ s) : foldF (s + (65535 - foldF s)) = 65535 := by unfold foldF; split <;> split <;> omega
theorem ofB_fixed {a b : List Int} (at_ : Nat) (hb : Byt b) (ha : Byt a) (hl : a.length = b.length) (hat : at_ % 2 = 0) (hlen : at_ + 2 ≤ b.length) (h1 : ∀ i, i ≠ at_ → i ≠ at_ + 1 → a.getD i 0 = b.getD i 0)
    (h2 : 256 * a.getD at_ 0 + a.getD (at_ + 1) 0 = 256 * b.getD at_ 0 + b.getD (at_ + 1) 0 + ofB b) : ofB a = 0 := by
  have := byteSum_word a b at_ _ hat h1 h2 (b.length - (at_ + 2))
  rw [show at_ + 2 + (b.length - (at_ + 2)) = b.length by omega] at this
  have hbd := (byteSum_bd hb b.length).1
  have e : ofB b = 65535 - foldF (byteSum b b.length) := by unfold ofB; rw [sumB_foldF hb]
  show 65535 - sumB a = 0
  rw [sumB_foldF ha, hl, this, e, foldF_fix hbd]
  omega
theorem getD_set_ne (l : List Int) (i j : Nat) (x : Int) (h : i ≠ j) : (l.set i x).getD j 0 = l.getD j 0 := by
  rw [List.getD_eq_getElem?_getD, List.getD_eq_getElem?_getD, List.getElem?_set_ne h]
theorem getD_set_eq (l : List Int) (i : Nat) (x : Int) (h : i < l.length) : (l.set i x).getD i 0 = x := by
  rw [List.getD_eq_getElem?_getD, List.getElem?_set_self h]; rfl
theorem ofB_fixL (bs : List Int) (at_ : Nat) (hb : Byt bs) (hat : at_ % 2 = 0) (hlen : at_ + 2 ≤ bs.length) : ofB (fixL bs at_) = 0 := by
  have hz : Byt (zeroAt bs at_) := zeroAt_byt hb at_
  have hzl := zeroAt_len bs at_
  have hbd := ofB_bd hz
  refine ofB_fixed at_ hz (fixL_byt hb at_) (by rw [fixL_len, hzl]) hat (by omega) ?_ ?_
  · intro i h1 h2
    unfold fixL putSum
    rw [getD_set_ne _ _ _ _ (by omega), getD_set_ne _ _ _ _ (by omega)]
  · have e1 : (fixL bs at_).getD at_ 0 = ofB (zeroAt bs at_) / 256 := by
      unfold fixL putSum
      rw [getD_set_ne _ _ _ _ (by omega), getD_set_eq _ _ _ (by omega)]
    have e2 : (fixL bs at_).getD (at_ + 1) 0 = ofB (zeroAt bs at_) % 256 := by
      unfold fixL putSum
      rw [getD_set_eq _ _ _ (by rw [List.length_set]; omega)]
    have e3 : (zeroAt bs at_).getD at_ 0 = 0 := by
      unfold zeroAt
      rw [getD_set_ne _ _ _ _ (by omega), getD_set_eq _ _ _ (by omega)]
    have e4 : (zeroAt bs at_).getD (at_ + 1) 0 = 0 := by
      unfold zeroAt
      rw [getD_set_eq _ _ _ (by rw [List.length_set]; omega)]
    rw [e1, e2, e3, e4]
    omega
theorem word_bd (h : IpH) (h0 : 0 ≤ h.off) (h1 : h.off ≤ 65528) (h8 : h.off % 8 = 0) : 0 ≤ h.word ∧ h.word < 32768 ∧ 8 * (h.word % 8192) = h.off ∧ (h.word / 16384 % 2 == 1) = h.df ∧ (h.word / 8192 % 2 == 1) = h.mf := by
  unfold IpH.word b01
  cases h.df <;> cases h.mf <;> simp <;> omega
/-- The header that is read. -/
structure IpBack (h : IpH) (n : Nat) (b : List Int) : Prop where
  size : ipSize b = 20 + h.opts.length
  total : ipTotal b = 20 + h.opts.length + n
  hdr : ipHdr b = h
  ver : b.getD 0 0 / 16 = 4
  sum : ofB (b.take (20 + h.opts.length)) = 0
  word : w16At b 6 < 32768
theorem ip_back (h : IpH) (n : Nat) (rest : List Int) (ho : h.Ok) (hR : h.Right n) : IpBack h n (headL h n ++ rest) := by
  obtain ⟨w0, w1, w2, w3, w4⟩ := word_bd h hR.off0 hR.off1 hR.off8
  have hlen := hR.len
  have hlen4 := hR.len4
  have hall := hR.all
  have hsum : ofB ((headL h n ++ rest).take (20 + h.opts.length)) = 0 := by
    rw [List.take_left' (headL_len h n)]
    unfold headL
    refine ofB_fixL _ 10 ?_ rfl ?_
    · exact splice_byt (head1_byt ho hlen n) ho.opts 20
    · rw [headS_len]; omega
  have htake : ((headL h n ++ rest).take (20 + h.opts.length)).drop 20 = h.opts := by
    rw [List.take_left' (headL_len h n), headL_eq, List.drop_left' (hd20_len h n _)]
  rw [headL_eq] at hsum htake ⊢
  have hc := ofB_bd (bs := hd20 h n 0 ++ h.opts) (by
    have := splice_byt (head1_byt ho hlen n) ho.opts 20
    rwa [headS_eq] at this)
  generalize ofB (hd20 h n 0 ++ h.opts) = c at *
  have d0 : (hd20 h n c ++ h.opts ++ rest).getD 0 0 = 64 + (20 + (h.opts.length : Int)) / 4 := rfl
  have hsz : ipSize (hd20 h n c ++ h.opts ++ rest) = 20 + h.opts.length := by unfold ipSize; rw [d0]; omega
  have e6 : w16At (hd20 h n c ++ h.opts ++ rest) 6 = h.word := by
    show 256 * (h.word / 256 % 256) + h.word % 256 = _
    omega
  have := ho.id0
  have := ho.id1
  have := ho.src0
  have := ho.src1
  have := ho.dst0
  have := ho.dst1
  refine ⟨hsz, ?_, ?_, ?_, hsum, by omega⟩
  · unfold ipTotal
    show (256 * ((20 + h.opts.length + n : Int) / 256 % 256) + (20 + h.opts.length + n : Int) % 256).toNat = _
    omega
  · unfold ipHdr
    rw [hsz, htake, e6, w2, w3, w4]
    have i1 : w16At (hd20 h n c ++ h.opts ++ rest) 4 = h.id := by
      show 256 * (h.id / 256 % 256) + h.id % 256 = _
      omega
    have i2 : l32At (hd20 h n c ++ h.opts ++ rest) 12 = h.src := by
      show 65536 * (256 * (h.src / 256 / 256 / 256 % 256) + h.src / 256 / 256 % 256) + (256 * (h.src / 256 % 256) + h.src % 256) = _
      omega
    have i3 : l32At (hd20 h n c ++ h.opts ++ rest) 16 = h.dst := by
      show 65536 * (256 * (h.dst / 256 / 256 / 256 % 256) + h.dst / 256 / 256 % 256) + (256 * (h.dst / 256 % 256) + h.dst % 256) = _
      omega
    rw [i1, i2, i3]
    rfl
  · rw [d0]; omega
theorem right_rightB {h : IpH} {n : Nat} (hR : h.Right n) : h.rightB n = true := by
  have := hR.offn
  unfold IpH.rightB
  cases hm : h.mf
  · simp; omega
  · obtain ⟨h1, h2⟩ := hR.mf hm
    simp [h1, h2]; omega
theorem IpBack.eip {h : IpH} {n : Nat} {b : List Int} (k : IpBack h n b) (hR : h.Right n) (hl : 20 + h.opts.length + n ≤ b.length) : ipE b = 0 := by
  have hN : ipN b = 7 := firstB_all fun j hj => by
    have h1 := k.size
    have h2 := k.total
    rcases (show j = 0 ∨ j = 1 ∨ j = 2 ∨ j = 3 ∨ j = 4 ∨ j = 5 ∨ j = 6 by omega) with rfl | rfl | rfl | rfl | rfl | rfl | rfl
    · simp [ipT]; omega
    · show (b.getD 0 0 / 16 != 4) = false
      rw [k.ver]; rfl
    · simp [ipT, h1]; omega
    · simp [ipT, h1, h2]; omega
    · simp [ipT, h1, k.sum]
    · have := k.word
      simp [ipT]; omega
    · simp only [ipT, k.hdr, h1, h2]
      rw [show 20 + h.opts.length + n - (20 + h.opts.length) = n by omega, right_rightB hR]
      rfl
  unfold ipE
  rw [if_neg (by omega)]
theorem ipData_back (h : IpH) (data behind : List Int) (ho : h.Ok) (hR : h.Right data.length) : ipData (ipWriteL h data ++ behind) = data := by
  have k := ip_back h data.length (data ++ behind) ho hR
  rw [← List.append_assoc] at k
  unfold ipData
  change (List.drop (ipSize (headL h data.length ++ data ++ behind)) (List.take (ipTotal (headL h data.length ++ data ++ behind)) (headL h data.length ++ data ++ behind))) = data
  rw [k.size, k.total, List.take_left' (by rw [List.length_append, headL_len]), List.drop_left' (headL_len h _)]
/-- A packet that is written is read. -/
theorem pkt_back (h : IpH) (data behind : List Int) (ho : h.Ok) (hR : h.Right data.length) :
    pktR (ipWriteL h data ++ behind) = (if h.reason ≠ 0 then h.reason else if h.proto ≠ 6 ∧ h.proto ≠ 17 ∧ h.proto ≠ 1 then 13 else reasonOf (dataE h.proto data))
    ∧ (pktR (ipWriteL h data ++ behind) = 0 → pktF (ipWriteL h data ++ behind) = dataF h.proto (baseF h) data) := by
  have k := ip_back h data.length (data ++ behind) ho hR
  have k2 : IpBack h data.length (ipWriteL h data ++ behind) := by
    unfold ipWriteL
    rwa [List.append_assoc]
  have hE := k2.eip hR (by rw [List.length_append, ipWriteL_len]; omega)
  have hD := ipData_back h data behind ho hR
  constructor
  · unfold pktR
    rw [hE, k2.hdr, hD, if_neg (by omega)]
  · intro h0
    unfold pktF
    rw [if_pos h0, k2.hdr, hD]
end Go.Proofs.YtebeekjcepjcnaaGreatDoor
namespace Go.Proofs.YtebeekjcepjcnaaGreatDoor
open Go.RowKit

theorem ready_nil_all {ops : Array Oper} {listed : Array Bool} (hsz : listed.size = ops.size) (hdep : ∀ (i : Nat) (o : Oper), ops[i]? = some o → ∀ e : Edge, e ∈ o.after → Region.binds .any e = true → e.on < i) (hr : Region.ready .any ops listed = []) :
    ∀ i, i < ops.size → listed.getD i true = true := by
  intro i
  induction i using Nat.strongRecOn with
  | ind i ih =>
    intro hi
    rcases hb : listed.getD i true with _ | _
    · exfalso
      have hmem : i ∈ Region.ready .any ops listed := by
        unfold Region.ready
        rw [List.mem_filter]
        refine ⟨List.mem_range.2 hi, ?_⟩
        rw [hb]
        have ho : ops[i]? = some ops[i] := Array.getElem?_eq_getElem hi
        rw [ho]
        simp only [Option.map_some, Option.getD_some, Bool.not_false, Bool.true_and]
        rw [Array.all_eq_true']
        intro e he
        rcases hbe : Region.binds .any e with _ | _
        · simp
        have hlt := hdep i _ ho e he hbe
        have := ih e.on hlt (by omega)
        have hs : e.on < listed.size := by omega
        rw [Array.getD_eq_getD_getElem?, Array.getElem?_eq_getElem hs] at this ⊢
        simp only [Option.getD_some] at this ⊢
        rw [this]; simp
      rw [hr] at hmem
      cases hmem
    · rfl

def depsOk (ops : Array Oper) : Bool := (List.range ops.size).all fun i => ((ops[i]?).map fun o => o.after.all fun e => !Region.binds .any e || decide (e.on < i)).getD true
theorem depsOk_spec {ops : Array Oper} (h : depsOk ops = true) : ∀ (i : Nat) (o : Oper), ops[i]? = some o → ∀ e : Edge, e ∈ o.after → Region.binds .any e = true → e.on < i := by
  intro i o ho e he hbe
  have hi : i < ops.size := (Array.getElem?_eq_some_iff.1 ho).1
  have := List.all_eq_true.1 h i (List.mem_range.2 hi)
  rw [ho] at this
  simp only [Option.map_some, Option.getD_some] at this
  rw [Array.all_eq_true'] at this
  have h2 := this e he
  rw [hbe] at h2
  simpa using h2

section
variable {P : Program} {ops : Array Oper} {Q : Exit → Act → World → Prop}

theorem wpOp_of_list {i : Nat} {o : Oper} {K : Act → World → Prop} {a : Act} {w : World} (ho : ops[i]? = some o) (h : wpList P ops (Exit.then K Q) [o] a w) : wpOp P ops Q i K a w := by
  unfold wpOp
  rw [ho]
  simp only [wpList] at h
  by_cases hw : Region.wanted o (yielded ops a.tmps) = true
  · simp only [hw, if_true] at h ⊢
    refine h.imp (fun h => ?_) (fun ⟨h1, h2⟩ => ⟨h1, h2⟩)
    have h' := Oper.wp_mono (K' := K) (fun a w hk => hk) h
    unfold Oper.wp at h' ⊢
    generalize (execOp a.eval o).run P w = r at *
    cases r with
    | ok n w' =>
      cases n <;> simp only [Oper.upon] at h' ⊢ <;> first
        | exact h'
        | exact h'.mono (fun e w'' he => by cases e <;> exact he)
    | halt x w' => cases x <;> simp only [Oper.upon] at h' ⊢ <;> exact h'
  · simp only [hw] at h ⊢
    exact h

theorem wpAny_inv (hdep : ∀ (i : Nat) (o : Oper), ops[i]? = some o → ∀ e : Edge, e ∈ o.after → Region.binds .any e = true → e.on < i) (I : (Nat → Bool) → Act → World → Prop)
    (hstep : ∀ (L : Nat → Bool) (a : Act) (w : World) (i : Nat) (o : Oper), ops[i]? = some o → L i = false → (∀ e : Edge, e ∈ o.after → Region.binds .any e = true → L e.on = true) → I L a w → wpList P ops (Exit.then (I (fun j => j == i || L j)) Q) [o] a w)
    (hend : ∀ (L : Nat → Bool) (a : Act) (w : World), (∀ i, i < ops.size → L i = true) → I L a w → Q .normal a w) :
    ∀ (fuel : Nat) (listed : Array Bool) (a : Act) (w : World), listed.size = ops.size → ops.size ≤ fuel + (listed.toList.filter (· == true)).length →
      I (fun j => listed.getD j false) a w → wpAny P .any ops Q fuel listed a w := by
  have hget : ∀ (listed : Array Bool) (i : Nat), i < listed.size → listed.getD i true = listed.getD i false := by
    intro l i hi
    rw [Array.getD_eq_getD_getElem?, Array.getD_eq_getD_getElem?, Array.getElem?_eq_getElem hi]; rfl
  have hend' : ∀ (listed : Array Bool) (a : Act) (w : World), listed.size = ops.size → I (fun j => listed.getD j false) a w → Region.ready .any ops listed = [] → Q .normal a w := by
    intro listed a w hsz hI hr
    refine hend _ a w (fun i hi => ?_) hI
    have := ready_nil_all hsz hdep hr i hi
    rwa [hget _ _ (by omega)] at this
  intro fuel
  induction fuel with
  | zero =>
    intro listed a w hsz hf hI
    have hall : ∀ b ∈ listed.toList, (b == true) = true := by
      have hl : (listed.toList.filter (· == true)).length = listed.toList.length := by
        have h1 := List.length_filter_le (· == true) listed.toList
        have h2 : listed.toList.length = listed.size := Array.length_toList
        omega
      exact List.length_filter_eq_length_iff.1 hl
    have hr : Region.ready .any ops listed = [] := by
      unfold Region.ready
      rw [List.filter_eq_nil_iff]
      intro i hi
      have hi' : i < listed.size := by rw [hsz]; exact List.mem_range.1 hi
      have : listed.getD i true = true := by
        rw [Array.getD_eq_getD_getElem?, Array.getElem?_eq_getElem hi']
        have := hall listed[i] (by simp)
        simpa using this
      rw [this]; simp
    exact ⟨hr, hend' listed a w hsz hI hr⟩
  | succ fuel ih =>
    intro listed a w hsz hf hI
    refine ⟨fun hr => hend' listed a w hsz hI hr, fun i hi => ?_⟩
    unfold Region.ready at hi
    rw [List.mem_filter] at hi
    obtain ⟨hir, hc⟩ := hi
    have hil : i < ops.size := List.mem_range.1 hir
    have ho : ops[i]? = some ops[i] := Array.getElem?_eq_getElem hil
    rw [ho] at hc
    simp only [Option.map_some, Option.getD_some, Bool.and_eq_true, Bool.not_eq_true'] at hc
    obtain ⟨hc1, hc2⟩ := hc
    rw [Array.all_eq_true'] at hc2
    have hs := hstep (fun j => listed.getD j false) a w i _ ho (by rw [← hget _ _ (by omega)]; exact hc1) (fun e he hb => by
      have := hc2 e he
      rw [hb] at this
      simpa using this) hI
    refine wpOp_mono (fun a' w' hI' => ?_) (wpOp_of_list ho hs)
    refine ih _ a' w' (by simpa using hsz) ?_ ?_
    · have hfalse : listed[i]'(by omega) = false := by
        have := hc1
        rw [Array.getD_eq_getD_getElem?, Array.getElem?_eq_getElem (by omega)] at this
        simpa using this
      have hcount : ((listed.setIfInBounds i true).toList.filter (· == true)).length = (listed.toList.filter (· == true)).length + 1 := by
        rw [Array.toList_setIfInBounds]
        have hil' : i < listed.toList.length := by rw [Array.length_toList]; omega
        have hg : listed.toList[i] = false := by simpa using hfalse
        have e1 : listed.toList = listed.toList.take i ++ false :: listed.toList.drop (i + 1) := by
          conv => lhs; rw [← List.take_append_drop i listed.toList]
          rw [List.drop_eq_getElem_cons hil', hg]
        have e2 : listed.toList.set i true = listed.toList.take i ++ true :: listed.toList.drop (i + 1) := by
          rw [List.set_eq_take_append_cons_drop, if_pos hil']
        rw [e2]
        conv => rhs; rw [e1]
        simp [List.filter_append]
        omega
      omega
    · have : (fun j => (listed.setIfInBounds i true).getD j false) = fun j => j == i || listed.getD j false := by
        funext j
        by_cases hj : j = i
        · subst hj
          simp [Array.getD_eq_getD_getElem?, show j < listed.size by omega]
        · simp [Array.getD_eq_getD_getElem?, hj, Ne.symm hj]
      rw [this]
      exact hI'

/-- THE LAW: a region that draws its order, by an invariant. -/
theorem wp_region_inv {id : Nat} {a : Act} {w : World} (hm : P.follows .mixedOrders = true) (hdep : ∀ (i : Nat) (o : Oper), ops[i]? = some o → ∀ e : Edge, e ∈ o.after → Region.binds .any e = true → e.on < i) (I : (Nat → Bool) → Act → World → Prop)
    (h0 : I (fun _ => false) a w.drew)
    (hstep : ∀ (L : Nat → Bool) (a : Act) (w : World) (i : Nat) (o : Oper), ops[i]? = some o → L i = false → (∀ e : Edge, e ∈ o.after → Region.binds .any e = true → L e.on = true) → I L a w → wpList P ops (Exit.then (I (fun j => j == i || L j)) Q) [o] a w)
    (hend : ∀ (L : Nat → Bool) (a : Act) (w : World), (∀ i, i < ops.size → L i = true) → I L a w → Q .normal a w) : (Code.region id ops true).wp P Q a w := by
  refine wp_region_any hm (wpAny_inv hdep I hstep hend ops.size _ a _ (by simp) (by omega) ?_)
  have : (fun j => (Array.replicate ops.size false).getD j false) = fun _ => false := by
    funext j
    simp only [Array.getD_eq_getD_getElem?, Array.getElem?_replicate]
    split <;> rfl
  rw [this]
  exact h0
end
/-- The values of the operations that are done, one by one. -/
def upd (v : Nat → Value) (i : Nat) (x : Value) : Nat → Value := fun j => if j = i then x else v j
theorem upd_facts {F : Nat → Value → World → Prop} {L : Nat → Bool} {v : Nat → Value} {w w' : World} {i : Nat} {x : Value} (hF : ∀ j, L j = true → F j (v j) w) (hm : ∀ j y, F j y w → F j y w') (hx : F i x w') :
    ∀ j, (j == i || L j) = true → F j (upd v i x j) w' := by
  intro j hj
  unfold upd
  by_cases h : j = i
  · rw [if_pos h]; subst h; exact hx
  · rw [if_neg h]
    have : L j = true := by simpa [h] using hj
    exact hm _ _ (hF j this)
theorem upd_vals {F : Nat → Value → Prop} {L : Nat → Bool} {v : Nat → Value} {i : Nat} {x : Value} (hF : ∀ j, L j = true → F j (v j)) (hx : F i x) :
    ∀ j, (j == i || L j) = true → F j (upd v i x j) := by
  intro j hj
  unfold upd
  by_cases h : j = i
  · rw [if_pos h]; subst h; exact hx
  · rw [if_neg h]
    have : L j = true := by simpa [h] using hj
    exact hF j this

/-- What a block holds, before and behind the store into it. -/
def stSel (b : Bool) (x y : Array Value) : Array Value := if b then x else y
theorem stSel_no (x y : Array Value) : stSel false x y = y := rfl
theorem stSel_yes (x y : Array Value) : stSel true x y = x := rfl

theorem results_cell_tmp {P : Program} {fn : Func} {p q : Tmp} {ty : TypeId} (h : fn.results = #[.cell p ty, .tmp q]) (tmps : Array Value) (w : World) (g : Nat) (t : TypeId) (cs : Array Value) (fr : Nat × Nat) (d : TypeDesc)
    (hp : tmps.getD p undef = .pointer (some ⟨g, 0, none⟩)) (hg : w.heap[g]? = some (.cells cs t fr))
    (hu : P.underlying ty = some d) (hd : (match d with | .struct _ | .array _ _ => true | _ => false) = true) (hi : (P.info? ty).map (·.size) = some cs.size) :
    (results fn tmps).run P w = .ok (.tuple #[.agg cs, tmps.getD q undef]) w := by
  have hp' : tmps[p]?.getD undef = .pointer (some ⟨g, 0, none⟩) := by simpa using hp
  simp [results, h, hp', asAddr, run_loadVar_row w g t ty cs fr d hg hu hd hi]

theorem setRow_new (W : World) (old cells : Array Value) (t : TypeId) : (W.alloc (.cells old t)).setRow W.heap.size cells = W.alloc (.cells cells t) := by
  have h : ∀ f : Obj → Obj, f (.cells old t) = .cells cells t → (W.heap.push (.cells old t)).modify W.heap.size f = W.heap.push (.cells cells t) := fun f hf => by
    refine Array.ext (by simp) fun i h1 h2 => ?_
    rw [Array.getElem_modify]
    by_cases hi : W.heap.size = i
    · subst hi; simp [hf]
    · simp only [Array.size_modify, Array.size_push] at h1
      rw [if_neg hi, Array.getElem_push_lt (by omega), Array.getElem_push_lt (by omega)]
  show ({ (W.alloc (.cells old t)) with heap := _ } : World) = _
  rw [show (W.alloc (.cells old t)).heap = W.heap.push (.cells old t) from rfl, h _ rfl]
  rfl

/-- A struct stored into the block that was made just before. -/
theorem wpList_store_new {P : Program} {ops : Array Oper} {rest : List Oper} {o : Oper} {a : Act} {W : World} {Q : Exit → Act → World → Prop} (hgd : o.guard = none) (ty : TypeId) (x y : Operand) (ho : o.op = .store ty x y)
    (g : Nat) (cells : Array Value) (hx : a.eval x = .pointer (some ⟨g, 0, none⟩)) (hy : a.eval y = .agg cells)
    (t : TypeId) (old : Array Value) (hg : g = W.heap.size) (hi : (P.info? ty).map (·.size) = some cells.size)
    (hold : old.size = cells.size) (h1 : cells.all (·.oneCell') = true)
    (h : wpList P ops Q rest (a.put o.dst undef) (W.alloc (.cells cells t))) : wpList P ops Q (o :: rest) a (W.alloc (.cells old t)) := by
  subst hg
  refine wpList_store_row hgd ty x y ho _ cells hx hy t old (heap_alloc_new W _) hi hold h1 ?_
  rw [setRow_new]
  exact h

/-- Is the next operation a store? -/
theorem look_store {P : Program} {ops : Array Oper} {Q : Exit → Act → World → Prop} {a : Act} {w : World} {rest : List Oper} {d : Option Tmp} {ty t : TypeId} {x y : Operand} {p : String} {af : Array Edge} {g : Option (Nat × Bool)}
    (h : wpList P ops Q ((⟨d, .store ty x y, t, p, af, g⟩ : Oper) :: rest) a w) : wpList P ops Q ((⟨d, .store ty x y, t, p, af, g⟩ : Oper) :: rest) a w := h

end Go.Proofs.YtebeekjcepjcnaaGreatDoor
