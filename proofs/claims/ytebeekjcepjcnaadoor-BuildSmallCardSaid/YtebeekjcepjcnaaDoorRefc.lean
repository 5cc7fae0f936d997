/-
  The reference of layer 5: Right and Write at a header without options.
-/
import Derived.Test.YtebeekjcepjcnaaDoorRefa
import Derived.Test.YtebeekjcepjcnaaDoorData
namespace Go.Proofs.YtebeekjcepjcnaaDoor
open Go.RowKit Go.Shelf

/-- A chain of appends onto a row of the call's own, beside one block that is only read. -/
structure Ch (w0 : World) (t : TypeId) (cs : Array Value) (W : World) (v : Value) (L : List Int) : Prop where
  below : Below w0.heap.size w0 W
  size : w0.heap.size + 1 ≤ W.heap.size
  blk : Blk W w0.heap.size t cs
  own : Own W (w0.heap.size + 1) v L
section
variable {w0 W W' : World} {t : TypeId} {cs : Array Value} {v v' : Value} {L L' : List Int}
theorem Ch.call (h : Ch w0 t cs W v L) (l : Below W.heap.size W W') : Ch w0 t cs W' v L :=
  ⟨h.below.trans (l.mono h.below.size), Nat.le_trans h.size l.size, h.blk.below l h.blk.lt, h.own.below l (Nat.le_refl _)⟩
theorem Ch.app (h : Ch w0 t cs W v L) (o : Own W' (w0.heap.size + 1) v' L') (l : Below (w0.heap.size + 1) W W') : Ch w0 t cs W' v' L' :=
  ⟨h.below.trans (l.mono (by omega)), Nat.le_trans h.size l.size, h.blk.below l (by omega), o⟩
theorem Ch.start {cs' : Array Value} {n : Nat} (h : Below w0.heap.size w0 W) (hb : Blk W w0.heap.size t cs) (hcs : cs' = (U8 L).toArray) (hn : L.length = n) (hm : n ≤ maxLen) :
    Ch w0 t cs (W.alloc (.cells cs' 5)) (.slice (some ⟨W.heap.size, 0, none⟩) n n) L :=
  ⟨h.alloc h.size _, by have := hb.lt; simp; omega, hb.alloc _, own_lit W _ n L cs' hcs hn hm hb.lt⟩
end

set_option maxHeartbeats 400000 in
theorem rIpRight_any (k0 k1 k2 : Int) (n : Nat) (w : World) (hn : n ≤ 65515) :
    Calls Tryd.prog 128 #[.agg #[.int .u8 0, .int .u16 0, .bool false, .bool false, .int .i64 0, .int .u8 64, .int .u8 k0, .int .u32 k1, .int .u32 k2, .slice none 0 0], .int .i64 n] w fun e w' => e = .returned (.bool true) ∧ Below w.heap.size w w' := by
  have b1 : decide ((n : Int) < 0) = false := by simp
  have b2 : decide (65515 < (n : Int)) = false := by simp; omega
  go_enter Tryd.func128, Tryd.ntmps128
  go_wp2_with fail
  go_ret
  exact ⟨rfl, (Below.refl _ _).alloc (Nat.le_refl _) _⟩

def ipS (k : Key) (n : Int) : List Int := [69, 0, (20 + n) / 256, (20 + n) % 256, 0 / 256, 0 % 256, 0 / 256, 0 % 256, 64, k.proto, 0, 0,
  k.src / 256 / 256 / 256, k.src / 256 / 256 % 256, k.src / 256 % 256, k.src % 256, k.dst / 256 / 256 / 256, k.dst / 256 / 256 % 256, k.dst / 256 % 256, k.dst % 256]
theorem ipS_head (k : Key) (n : Nat) (ho : k.Ok) (hn : n ≤ 65515) : splice (head1 (hdrH k) n) 20 [] = ipS k n := by
  obtain ⟨_, _, _, s1, _, d1, _, _, _, _⟩ := ho
  unfold head1 head0 hdrH ipS IpH.word b01
  simp [putL, splice]
  omega

set_option maxRecDepth 100000 in
set_option maxHeartbeats 2000000 in
theorem rIpWrite_any (k : Key) (D : Option Addr) (dcap dl : Nat) (data : List Int) (w : World) (ho : k.Ok) (hdl : data.length = dl) (hd : dl ≤ 65515) (hrD : Rd w w.heap.size D .u8 data) :
    Calls Tryd.prog 87 #[.agg #[.int .u8 0, .int .u16 0, .bool false, .bool false, .int .i64 0, .int .u8 64, .int .u8 k.proto, .int .u32 k.src, .int .u32 k.dst, .slice none 0 0], .slice D dl dcap] w fun e w' => ∃ v, e = .returned (.tuple #[v, .int .i64 0]) ∧ Own w' w.heap.size v (ipWriteL (hdrH k) data) ∧ Below w.heap.size w w' := by
  have HF := Lib.hid (show fixL (ipS k dl) 10 ++ data = ipWriteL (hdrH k) data by rw [← ipS_head k dl ho hd]; unfold ipWriteL headL; rw [hdl]; rfl)
  have HB := Lib.hid (show Byt (ipS k dl) by rw [← ipS_head k dl ho hd]; exact splice_byt (head1_byt ⟨by simp [hdrH], by simp [hdrH], by simp [hdrH], by simp [hdrH], by simp [hdrH], by simp [hdrH], ho.proto0, ho.proto1, ho.src0, ho.src1, ho.dst0, ho.dst1, Byt.nil⟩ (by simp [hdrH]) _) Byt.nil 20)
  generalize ipWriteL (hdrH k) data = R at *
  obtain ⟨k0, k1, k2, k3, k4⟩ := k
  obtain ⟨p0, p1, s0, s1, d0, d1, _, _, _, _⟩ := ho
  dsimp only at *
  have Hdl := Lib.hid hdl
  clear hdl
  have HR := Lib.hid (fun W => rIpRight_any k0 k1 k2 dl W hd)
  go_enter Tryd.func87, Tryd.ntmps87
  go_wp2_with fail
  refine (HR.out _).mono ?_
  rintro e w1 ⟨rfl, l1⟩
  have bx := (Blk.new w 143 #[.int .u8 0, .int .u16 0, .bool false, .bool false, .int .i64 0, .int .u8 64, .int .u8 k0, .int .u32 k1, .int .u32 k2, .slice none 0 0]).below l1 (by simp)
  have hcx := bx.cell
  have hb1 : Below w.heap.size w w1 := ((Below.refl _ _).alloc (Nat.le_refl _) _).trans (l1.mono (by simp))
  go_upto_region 10 with (fail)
  have ch := Ch.start (cs' := #[.int .u8 69, .int .u8 0]) (n := 2) (L := [69, 0]) hb1 bx rfl rfl (by simp [maxLen])
  clear hb1 bx l1
  replace hcx := ch.blk.cell
  go_wp2_with fail
  refine (rBytesA_2 (20 + (dl : Int)) _ (by omega) (by omega)).mono ?_
  rintro e wc ⟨A, c, rfl, oc, lc⟩
  replace ch := ch.call lc
  replace hcx := ch.blk.cell
  go_upto_region 11 with (at_builtin; refine app_own rfl (.tmp 36) (.tmp 41) rfl _ _ _ rfl ch.own _ A _ c _ rfl rfl oc.rd (by simp) ch.size ?_; intro v w1 o1 l1 _ _)
  replace ch := ch.app o1 l1
  replace hcx := ch.blk.cell
  clear o1 l1 oc lc
  go_wp2_with fail
  refine (rBytesA_2 0 _ (by omega) (by omega)).mono ?_
  rintro e wc ⟨A, c, rfl, oc, lc⟩
  replace ch := ch.call lc
  replace hcx := ch.blk.cell
  go_upto_region 12 with (at_builtin; refine app_own rfl (.tmp 43) (.tmp 47) rfl _ _ _ rfl ch.own _ A _ c _ rfl rfl oc.rd (by simp) ch.size ?_; intro v w1 o1 l1 _ _)
  replace ch := ch.app o1 l1
  replace hcx := ch.blk.cell
  clear o1 l1 oc lc
  go_wp2_with fail
  refine (rBytesA_2 0 _ (by omega) (by omega)).mono ?_
  rintro e wc ⟨A, c, rfl, oc, lc⟩
  replace ch := ch.call lc
  replace hcx := ch.blk.cell
  go_upto_region 13 with (at_builtin; refine app_own rfl (.tmp 49) (.tmp 51) rfl _ _ _ rfl ch.own _ A _ c _ rfl rfl oc.rd (by simp) ch.size ?_; intro v w1 o1 l1 _ _)
  replace ch := ch.app o1 l1
  replace hcx := ch.blk.cell
  clear o1 l1 oc lc
  go_upto_region 14 with (at_builtin; refine app_own rfl (.tmp 53) (.tmp 58) rfl _ _ _ rfl (ch.call ((Below.refl _ _).alloc (Nat.le_refl _) _)).own _ _ _ 4 [64, k0, 0, 0] rfl rfl (Rd.new3 rfl rfl) (by simp) (by have := ch.size; simp; omega) ?_; intro v w1 o1 l1 _ _)
  replace ch := (ch.call ((Below.refl _ _).alloc (Nat.le_refl _) _)).app o1 l1
  replace hcx := ch.blk.cell
  clear o1 l1
  go_wp2_with fail
  refine (rBytesA_4 k1 _ (by omega) (by omega)).mono ?_
  rintro e wc ⟨A, c, rfl, oc, lc⟩
  replace ch := ch.call lc
  replace hcx := ch.blk.cell
  go_upto_region 15 with (at_builtin; refine app_own rfl (.tmp 60) (.tmp 64) rfl _ _ _ rfl ch.own _ A _ c _ rfl rfl oc.rd (by simp) ch.size ?_; intro v w1 o1 l1 _ _)
  replace ch := ch.app o1 l1
  replace hcx := ch.blk.cell
  clear o1 l1 oc lc
  go_wp2_with fail
  refine (rBytesA_4 k2 _ (by omega) (by omega)).mono ?_
  rintro e wc ⟨A, c, rfl, oc, lc⟩
  replace ch := ch.call lc
  replace hcx := ch.blk.cell
  go_upto_region 16 with (at_builtin; refine app_own rfl (.tmp 66) (.tmp 70) rfl _ _ _ rfl ch.own _ A _ c _ rfl rfl oc.rd (by simp) ch.size ?_; intro v w1 o1 l1 _ _)
  replace ch := ch.app o1 l1
  replace hcx := ch.blk.cell
  clear o1 l1 oc lc
  go_upto_region 17 with (at_builtin; refine app_own rfl (.tmp 72) (.tmp 74) rfl _ _ _ rfl ch.own 0 none _ 0 [] rfl rfl Rd.nil (by simp) ch.size ?_; intro v w1 o1 l1 _ _)
  rw [List.append_nil] at o1
  replace ch := ch.app o1 l1
  clear o1 l1 hcx
  have ch : Ch w 143 _ _ _ (ipS ⟨k0, k1, k2, k3, k4⟩ dl) := ch
  have HSl := Lib.hid (show (ipS ⟨k0, k1, k2, k3, k4⟩ dl).length = 20 from rfl)
  generalize ipS ⟨k0, k1, k2, k3, k4⟩ dl = S at *
  obtain ⟨A, cap, rfl, rd, _, _⟩ := ch.own.open_
  have hfx := rFix_any A cap S 10 _ HB.out (by rw [HSl.out]; omega) rd (by omega) (by rw [HSl.out]; omega)
  rw [HSl.out] at hfx ⊢
  go_wp2_with fail
  refine hfx.mono ?_
  rintro e w3 ⟨v3, rfl, o3, l3⟩
  have hrD3 : Rd w3 w.heap.size D .u8 data := hrD.below (ch.below.trans (l3.mono ch.below.size)) (Nat.le_refl _)
  have hb3 := ch.below.trans (l3.mono ch.below.size)
  have HlF := Lib.hid (show (fixL S 10).length + data.length ≤ 140737488355328 by rw [fixL_len, HSl.out, Hdl.out]; omega)
  have Hdl' := Lib.hid Hdl.out.symm
  have hsz := l3.size
  have hszb := ch.below.size
  clear ch hfx rd
  go_wp2_with (at_builtin; refine app_own rfl (.tmp 81) (.tmp 82) rfl _ v3 (fixL S 10) rfl o3 _ D _ dcap data rfl Hdl'.out hrD3 HlF.out hsz ?_; intro v2 w11 o11 l11 _ _)
  go_ret2
  exact ⟨_, rfl, by rw [← HF.out]; exact o11.base_le hszb, hb3.trans (l11.mono hszb)⟩

end Go.Proofs.YtebeekjcepjcnaaDoor
