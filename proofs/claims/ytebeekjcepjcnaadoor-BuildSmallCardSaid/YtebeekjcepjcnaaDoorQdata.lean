/-
  Package build: the data of what an error quotes.
-/
import Derived.Test.YtebeekjcepjcnaaDoorRerr
import Derived.Test.YtebeekjcepjcnaaDoorData
namespace Go.Proofs.YtebeekjcepjcnaaDoor
open Go.RowKit

theorem callFunc_d (k : Int) (args : Array Value) (W : World) : (callFunc (dataS k) args).run Tryd.prog W = .ok (.enter (dataS k) args) W := by
  unfold dataS
  split
  · kernel_rfl
  · split
    · kernel_rfl
    · split <;> kernel_rfl
def Facts.qL (f : Facts) : List Int := if f.qkind = 1 then f.quotedF.segL else if f.qkind = 2 then f.quotedF.datL else f.quotedF.msgL
theorem quotedF_ok {f : Facts} (ho : f.Ok) : f.quotedF.Ok := by
  have h1 : 0 ≤ f.quotedF.flags ∧ f.quotedF.flags < 256 := by simp only [Facts.quotedF]; split <;> omega
  have h2 : 0 ≤ f.quotedF.type ∧ f.quotedF.type < 256 := by simp only [Facts.quotedF]; split <;> omega
  exact ⟨ho.quoted, ho.qkind0, ho.qkind1, h1.1, h1.2, h2.1, h2.2, by simp [Facts.quotedF, Facts.zero], by simp [Facts.quotedF, Facts.zero], by simp [Facts.quotedF, Facts.zero], by simp [Facts.quotedF, Facts.zero], by simp [Facts.quotedF, Facts.zero],
    by simp [Facts.quotedF, Facts.zero], by simp [Facts.quotedF, Facts.zero], by simp [Facts.quotedF, Facts.zero], by simp [Facts.quotedF, Facts.zero], by simp [Facts.quotedF, Facts.zero],
    ⟨by simp [Facts.quotedF, Facts.zero, Key.zero], by simp [Facts.quotedF, Facts.zero, Key.zero], by simp [Facts.quotedF, Facts.zero, Key.zero], by simp [Facts.quotedF, Facts.zero, Key.zero], by simp [Facts.quotedF, Facts.zero, Key.zero], by simp [Facts.quotedF, Facts.zero, Key.zero], by simp [Facts.quotedF, Facts.zero, Key.zero], by simp [Facts.quotedF, Facts.zero, Key.zero], by simp [Facts.quotedF, Facts.zero, Key.zero], by simp [Facts.quotedF, Facts.zero, Key.zero]⟩,
    by simp [Facts.quotedF, Facts.zero], by simp [Facts.quotedF, Facts.zero]⟩
theorem qdata_any (f : Facts) (w : World) (ho : f.Ok) (hq : isQ f.qkind = true) (hr : f.qRight = true) (hs : SortsAt w) :
    Calls Tryd.prog (dataS f.qkind) #[f.quotedF.val] w fun e w' => ∃ v, e = .returned v ∧ Own w' w.heap.size v f.qL ∧ Below w.heap.size w w' := by
  have hO := quotedF_ok ho
  simp only [isQ, Bool.and_eq_true, decide_eq_true_eq] at hq
  unfold Facts.qL dataS
  unfold Facts.qRight at hr
  by_cases h1 : f.qkind = 1
  · rw [if_pos h1] at hr
    rw [if_pos h1, if_pos h1]; exact segment_any f.quotedF w hO hr
  · rw [if_neg h1] at hr
    rw [if_neg h1, if_neg h1]
    by_cases h2 : f.qkind = 2
    · rw [if_neg (by omega)] at hr
      rw [if_pos h2, if_pos h2]; exact datagram_any f.quotedF w hO hr
    · rw [if_pos (by omega)] at hr
      rw [if_neg h2, if_neg h2, if_neg (by omega)]; exact message_any f.quotedF w hO hr hs

/-- The same with the sum of a datagram struck out. -/
def Facts.qIn (f : Facts) : List Int := if f.qkind = 2 then (f.qL.set 6 0).set 7 0 else f.qL
theorem qL_len {f : Facts} (h : f.quotedF.length = 0) : 8 ≤ f.qL.length ∧ f.qL.length ≤ 20 := by
  unfold Facts.qL
  split
  · unfold Facts.segL tcpL tcpSumL
    rw [length_splice]
    · simp [tcpL0, tcpHead, b16s_len, b32s_len, h, zerosL]
    · simp [tcpL0, tcpHead, b16s_len, b32s_len, h, zerosL]
  · split
    · unfold Facts.datL udpL
      simp [udp0_len, h, zerosL]
    · unfold Facts.msgL icmpL
      rw [fixL_len]
      simp [icmpHead, h, zerosL]
theorem quotedF_length (f : Facts) : f.quotedF.length = 0 := rfl
theorem qIn_len (f : Facts) : f.qIn.length = f.qL.length := by
  unfold Facts.qIn; split <;> simp
theorem qIn_byt {f : Facts} (ho : f.Ok) : Byt (f.qIn.take 8) := by
  have hO := quotedF_ok ho
  have hk := hO.key
  unfold Facts.qIn
  by_cases h2 : f.qkind = 2
  · rw [if_pos h2]
    have e : ((f.qL.set 6 0).set 7 0).take 8 = [f.quotedF.key.sp / 256, f.quotedF.key.sp % 256, f.quotedF.key.dp / 256, f.quotedF.key.dp % 256, 0, 8, 0, 0] := by
      unfold Facts.qL
      rw [if_neg (by omega), if_pos h2]
      simp [Facts.datL, udpL, udp0, udpS, quotedF_length, zerosL]
    rw [e]
    have := hk.sp0; have := hk.sp1; have := hk.dp0; have := hk.dp1
    exact .cons (by omega) (by omega) (.cons (by omega) (by omega) (.cons (by omega) (by omega) (.cons (by omega) (by omega) (.cons (by omega) (by omega) (.cons (by omega) (by omega) (.cons (by omega) (by omega) (.cons (by omega) (by omega) .nil)))))))
  · rw [if_neg h2]
    unfold Facts.qL
    by_cases h1 : f.qkind = 1
    · rw [if_pos h1]
      have e : f.quotedF.segL.take 8 = b16s [f.quotedF.key.sp, f.quotedF.key.dp] ++ b32s [f.quotedF.seqn] := by
        unfold Facts.segL tcpL tcpSumL splice
        rw [List.take_append_of_le_length (by simp [tcpL0, tcpHead, b16s_len, b32s_len]; omega), List.take_take]
        simp [tcpL0, tcpHead, b16s, b32s, b16, b32]
      rw [e]
      have := hk.sp0; have := hk.sp1; have := hk.dp0; have := hk.dp1; have := hO.seqn0; have := hO.seqn1
      exact Byt.append (b16s_byt (by intro y hy; simp at hy; rcases hy with rfl | rfl <;> omega)) (b32s_byt (by intro y hy; simp at hy; rcases hy with rfl; omega))
    · rw [if_neg h1, if_neg h2]
      have := hk.sp0; have := hk.sp1; have := hO.type0; have := hO.type1; have := hO.code0; have := hO.code1
      refine Byt.take ?_ 8
      unfold Facts.msgL icmpL icmpHead
      refine fixL_byt ?_ 2
      refine Byt.append ?_ (zerosL_byt _)
      exact .cons (by omega) (by omega) (.cons (by omega) (by omega) (.cons (by omega) (by omega) (.cons (by omega) (by omega) (.cons (by omega) (by omega) (.cons (by omega) (by omega) (.cons (by omega) (by omega) (.cons (by omega) (by omega) .nil)))))))
end Go.Proofs.YtebeekjcepjcnaaDoor
