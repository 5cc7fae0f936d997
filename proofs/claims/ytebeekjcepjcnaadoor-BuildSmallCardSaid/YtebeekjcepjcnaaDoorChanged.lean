/-
  bafflelaw12.changed: facts one of whose fields is another number are facts again.
-/
import Derived.Test.YtebeekjcepjcnaaDoorAwake
namespace Go.Proofs.YtebeekjcepjcnaaDoor
open Go.RowKit Go.Shelf

theorem keyOk {a b c d e : Int} (a0 : 0 ≤ a) (a1 : a < 256) (b0 : 0 ≤ b) (b1 : b < 4294967296) (c0 : 0 ≤ c) (c1 : c < 4294967296) (d0 : 0 ≤ d) (d1 : d < 65536) (e0 : 0 ≤ e) (e1 : e < 65536) : (⟨a, b, c, d, e⟩ : Key).Ok := ⟨a0, a1, b0, b1, c0, c1, d0, d1, e0, e1⟩
set_option maxRecDepth 100000 in
set_option maxHeartbeats 4000000 in
theorem changed_any (f : Facts) (k : Nat) (n : Int) (w : World) (ho : f.Ok) (hk : k ≤ 18) (n0 : -9223372036854775808 ≤ n) (n1 : n ≤ 9223372036854775807) :
    Calls Tryd.prog 19 #[f.val, .int .i64 k, .int .i64 n] w fun e w' => ∃ g : Facts, g.Ok ∧ e = .returned g.val ∧ Below w.heap.size w w' := by
  have Ho := Lib.hid ho
  have Hn := Lib.hid (And.intro n0 n1)
  have h8 := IntKind.wrap_u8 n
  have h16 : IntKind.u16.wrap n = n % 65536 := IntKind.wrap_u16 n
  have h32 : IntKind.u32.wrap n = n % 4294967296 := IntKind.wrap_u32 n
  clear ho n0 n1
  obtain ⟨⟨k0, k1, k2, k3, k4⟩, kind, flags, type, code, seqn, ackn, window, length, ⟨q0, q1, q2, q3, q4⟩, qkind⟩ := f
  dsimp only [Facts.val, Facts.cells, Key.cells, List.cons_append, List.nil_append]
  rcases (show k = 0 ∨ k = 1 ∨ k = 2 ∨ k = 3 ∨ k = 4 ∨ k = 5 ∨ k = 6 ∨ k = 7 ∨ k = 8 ∨ k = 9 ∨ k = 10 ∨ k = 11 ∨ k = 12 ∨ k = 13 ∨ k = 14 ∨ k = 15 ∨ k = 16 ∨ k = 17 ∨ k = 18 by omega) with rfl | rfl | rfl | rfl | rfl | rfl | rfl | rfl | rfl | rfl | rfl | rfl | rfl | rfl | rfl | rfl | rfl | rfl | rfl
  · go_enter Tryd.func19, Tryd.ntmps19
    go_upto_region 1 with (fail)
    refine wp_name2 ?_
    intro w1 hb1 hs1 b0 bR
    have hc0 := b0.cell
    have hf0 := b0.frozen
    go_upto_region 39 with (fail)
    have bx : Blk _ _ _ #[.int .u8 (n % 256), .int .u32 k1, .int .u32 k2, .int .u16 k3, .int .u16 k4, .int .u8 kind, .int .u8 flags, .int .u8 type, .int .u8 code, .int .u32 seqn, .int .u32 ackn, .int .i64 window, .int .i64 length, .int .u8 q0, .int .u32 q1, .int .u32 q2, .int .u16 q3, .int .u16 q4, .int .u8 qkind] := b0.set 0 (.int .u8 (n % 256))
    have bR2 := bR.far (p := ⟨w.heap.size, 0, none⟩) (by show w.heap.size + 1 ≠ w.heap.size; omega) (.int .u8 (n % 256))
    have hb2 := hb1.setCell (p := ⟨w.heap.size, 0, none⟩) (Nat.le_refl _) (.int .u8 (n % 256))
    clear hc0 hf0 b0 bR hb1
    go_wp2_with (first | ((with_reducible refine look_load ?_); refine wpList_load_row rfl _ _ rfl _ rfl _ _ _ _ bx Tryd.underlying27 rfl (by kernel_rfl) ?_) | ((with_reducible refine look_store ?_); refine wpList_store_row rfl _ _ _ rfl _ _ rfl rfl _ _ bR2 (by kernel_rfl) (by simp) (by simp [Value.oneCell']) ?_) | fail)
    have H := Ho.out
    have N := Hn.out
    exact bodyPost_ret (results_cell_row Tryd.results19 _ _ _ _ _ _ _ rfl (setRow_heap _ _ _ _ _ _ bR2) Tryd.underlying27 rfl (by kernel_rfl)) rfl ⟨⟨⟨(n % 256), k1, k2, k3, k4⟩, kind, flags, type, code, seqn, ackn, window, length, ⟨q0, q1, q2, q3, q4⟩, qkind⟩, ⟨keyOk (show (0 : Int) ≤ (n % 256) by omega) (show (n % 256) < 256 by omega) H.key.src0 H.key.src1 H.key.dst0 H.key.dst1 H.key.sp0 H.key.sp1 H.key.dp0 H.key.dp1, H.kind0, H.kind1, H.flags0, H.flags1, H.type0, H.type1, H.code0, H.code1, H.seqn0, H.seqn1, H.ackn0, H.ackn1, H.window0, H.window1, H.length0, H.length1, keyOk H.quoted.proto0 H.quoted.proto1 H.quoted.src0 H.quoted.src1 H.quoted.dst0 H.quoted.dst1 H.quoted.sp0 H.quoted.sp1 H.quoted.dp0 H.quoted.dp1, H.qkind0, H.qkind1⟩, rfl, below_setRow hb2 (by omega) _⟩
  · go_enter Tryd.func19, Tryd.ntmps19
    go_upto_region 1 with (fail)
    refine wp_name2 ?_
    intro w1 hb1 hs1 b0 bR
    have hc0 := b0.cell
    have hf0 := b0.frozen
    go_upto_region 39 with (fail)
    have bx : Blk _ _ _ #[.int .u8 k0, .int .u32 (n % 4294967296), .int .u32 k2, .int .u16 k3, .int .u16 k4, .int .u8 kind, .int .u8 flags, .int .u8 type, .int .u8 code, .int .u32 seqn, .int .u32 ackn, .int .i64 window, .int .i64 length, .int .u8 q0, .int .u32 q1, .int .u32 q2, .int .u16 q3, .int .u16 q4, .int .u8 qkind] := b0.set 1 (.int .u32 (n % 4294967296))
    have bR2 := bR.far (p := ⟨w.heap.size, 1, none⟩) (by show w.heap.size + 1 ≠ w.heap.size; omega) (.int .u32 (n % 4294967296))
    have hb2 := hb1.setCell (p := ⟨w.heap.size, 1, none⟩) (Nat.le_refl _) (.int .u32 (n % 4294967296))
    clear hc0 hf0 b0 bR hb1
    go_wp2_with (first | ((with_reducible refine look_load ?_); refine wpList_load_row rfl _ _ rfl _ rfl _ _ _ _ bx Tryd.underlying27 rfl (by kernel_rfl) ?_) | ((with_reducible refine look_store ?_); refine wpList_store_row rfl _ _ _ rfl _ _ rfl rfl _ _ bR2 (by kernel_rfl) (by simp) (by simp [Value.oneCell']) ?_) | fail)
    have H := Ho.out
    have N := Hn.out
    exact bodyPost_ret (results_cell_row Tryd.results19 _ _ _ _ _ _ _ rfl (setRow_heap _ _ _ _ _ _ bR2) Tryd.underlying27 rfl (by kernel_rfl)) rfl ⟨⟨⟨k0, (n % 4294967296), k2, k3, k4⟩, kind, flags, type, code, seqn, ackn, window, length, ⟨q0, q1, q2, q3, q4⟩, qkind⟩, ⟨keyOk H.key.proto0 H.key.proto1 (show (0 : Int) ≤ (n % 4294967296) by omega) (show (n % 4294967296) < 4294967296 by omega) H.key.dst0 H.key.dst1 H.key.sp0 H.key.sp1 H.key.dp0 H.key.dp1, H.kind0, H.kind1, H.flags0, H.flags1, H.type0, H.type1, H.code0, H.code1, H.seqn0, H.seqn1, H.ackn0, H.ackn1, H.window0, H.window1, H.length0, H.length1, keyOk H.quoted.proto0 H.quoted.proto1 H.quoted.src0 H.quoted.src1 H.quoted.dst0 H.quoted.dst1 H.quoted.sp0 H.quoted.sp1 H.quoted.dp0 H.quoted.dp1, H.qkind0, H.qkind1⟩, rfl, below_setRow hb2 (by omega) _⟩
  · go_enter Tryd.func19, Tryd.ntmps19
    go_upto_region 1 with (fail)
    refine wp_name2 ?_
    intro w1 hb1 hs1 b0 bR
    have hc0 := b0.cell
    have hf0 := b0.frozen
    go_upto_region 39 with (fail)
    have bx : Blk _ _ _ #[.int .u8 k0, .int .u32 k1, .int .u32 (n % 4294967296), .int .u16 k3, .int .u16 k4, .int .u8 kind, .int .u8 flags, .int .u8 type, .int .u8 code, .int .u32 seqn, .int .u32 ackn, .int .i64 window, .int .i64 length, .int .u8 q0, .int .u32 q1, .int .u32 q2, .int .u16 q3, .int .u16 q4, .int .u8 qkind] := b0.set 2 (.int .u32 (n % 4294967296))
    have bR2 := bR.far (p := ⟨w.heap.size, 2, none⟩) (by show w.heap.size + 1 ≠ w.heap.size; omega) (.int .u32 (n % 4294967296))
    have hb2 := hb1.setCell (p := ⟨w.heap.size, 2, none⟩) (Nat.le_refl _) (.int .u32 (n % 4294967296))
    clear hc0 hf0 b0 bR hb1
    go_wp2_with (first | ((with_reducible refine look_load ?_); refine wpList_load_row rfl _ _ rfl _ rfl _ _ _ _ bx Tryd.underlying27 rfl (by kernel_rfl) ?_) | ((with_reducible refine look_store ?_); refine wpList_store_row rfl _ _ _ rfl _ _ rfl rfl _ _ bR2 (by kernel_rfl) (by simp) (by simp [Value.oneCell']) ?_) | fail)
    have H := Ho.out
    have N := Hn.out
    exact bodyPost_ret (results_cell_row Tryd.results19 _ _ _ _ _ _ _ rfl (setRow_heap _ _ _ _ _ _ bR2) Tryd.underlying27 rfl (by kernel_rfl)) rfl ⟨⟨⟨k0, k1, (n % 4294967296), k3, k4⟩, kind, flags, type, code, seqn, ackn, window, length, ⟨q0, q1, q2, q3, q4⟩, qkind⟩, ⟨keyOk H.key.proto0 H.key.proto1 H.key.src0 H.key.src1 (show (0 : Int) ≤ (n % 4294967296) by omega) (show (n % 4294967296) < 4294967296 by omega) H.key.sp0 H.key.sp1 H.key.dp0 H.key.dp1, H.kind0, H.kind1, H.flags0, H.flags1, H.type0, H.type1, H.code0, H.code1, H.seqn0, H.seqn1, H.ackn0, H.ackn1, H.window0, H.window1, H.length0, H.length1, keyOk H.quoted.proto0 H.quoted.proto1 H.quoted.src0 H.quoted.src1 H.quoted.dst0 H.quoted.dst1 H.quoted.sp0 H.quoted.sp1 H.quoted.dp0 H.quoted.dp1, H.qkind0, H.qkind1⟩, rfl, below_setRow hb2 (by omega) _⟩
  · go_enter Tryd.func19, Tryd.ntmps19
    go_upto_region 1 with (fail)
    refine wp_name2 ?_
    intro w1 hb1 hs1 b0 bR
    have hc0 := b0.cell
    have hf0 := b0.frozen
    go_upto_region 39 with (fail)
    have bx : Blk _ _ _ #[.int .u8 k0, .int .u32 k1, .int .u32 k2, .int .u16 (n % 65536), .int .u16 k4, .int .u8 kind, .int .u8 flags, .int .u8 type, .int .u8 code, .int .u32 seqn, .int .u32 ackn, .int .i64 window, .int .i64 length, .int .u8 q0, .int .u32 q1, .int .u32 q2, .int .u16 q3, .int .u16 q4, .int .u8 qkind] := b0.set 3 (.int .u16 (n % 65536))
    have bR2 := bR.far (p := ⟨w.heap.size, 3, none⟩) (by show w.heap.size + 1 ≠ w.heap.size; omega) (.int .u16 (n % 65536))
    have hb2 := hb1.setCell (p := ⟨w.heap.size, 3, none⟩) (Nat.le_refl _) (.int .u16 (n % 65536))
    clear hc0 hf0 b0 bR hb1
    go_wp2_with (first | ((with_reducible refine look_load ?_); refine wpList_load_row rfl _ _ rfl _ rfl _ _ _ _ bx Tryd.underlying27 rfl (by kernel_rfl) ?_) | ((with_reducible refine look_store ?_); refine wpList_store_row rfl _ _ _ rfl _ _ rfl rfl _ _ bR2 (by kernel_rfl) (by simp) (by simp [Value.oneCell']) ?_) | fail)
    have H := Ho.out
    have N := Hn.out
    exact bodyPost_ret (results_cell_row Tryd.results19 _ _ _ _ _ _ _ rfl (setRow_heap _ _ _ _ _ _ bR2) Tryd.underlying27 rfl (by kernel_rfl)) rfl ⟨⟨⟨k0, k1, k2, (n % 65536), k4⟩, kind, flags, type, code, seqn, ackn, window, length, ⟨q0, q1, q2, q3, q4⟩, qkind⟩, ⟨keyOk H.key.proto0 H.key.proto1 H.key.src0 H.key.src1 H.key.dst0 H.key.dst1 (show (0 : Int) ≤ (n % 65536) by omega) (show (n % 65536) < 65536 by omega) H.key.dp0 H.key.dp1, H.kind0, H.kind1, H.flags0, H.flags1, H.type0, H.type1, H.code0, H.code1, H.seqn0, H.seqn1, H.ackn0, H.ackn1, H.window0, H.window1, H.length0, H.length1, keyOk H.quoted.proto0 H.quoted.proto1 H.quoted.src0 H.quoted.src1 H.quoted.dst0 H.quoted.dst1 H.quoted.sp0 H.quoted.sp1 H.quoted.dp0 H.quoted.dp1, H.qkind0, H.qkind1⟩, rfl, below_setRow hb2 (by omega) _⟩
  · go_enter Tryd.func19, Tryd.ntmps19
    go_upto_region 1 with (fail)
    refine wp_name2 ?_
    intro w1 hb1 hs1 b0 bR
    have hc0 := b0.cell
    have hf0 := b0.frozen
    go_upto_region 39 with (fail)
    have bx : Blk _ _ _ #[.int .u8 k0, .int .u32 k1, .int .u32 k2, .int .u16 k3, .int .u16 (n % 65536), .int .u8 kind, .int .u8 flags, .int .u8 type, .int .u8 code, .int .u32 seqn, .int .u32 ackn, .int .i64 window, .int .i64 length, .int .u8 q0, .int .u32 q1, .int .u32 q2, .int .u16 q3, .int .u16 q4, .int .u8 qkind] := b0.set 4 (.int .u16 (n % 65536))
    have bR2 := bR.far (p := ⟨w.heap.size, 4, none⟩) (by show w.heap.size + 1 ≠ w.heap.size; omega) (.int .u16 (n % 65536))
    have hb2 := hb1.setCell (p := ⟨w.heap.size, 4, none⟩) (Nat.le_refl _) (.int .u16 (n % 65536))
    clear hc0 hf0 b0 bR hb1
    go_wp2_with (first | ((with_reducible refine look_load ?_); refine wpList_load_row rfl _ _ rfl _ rfl _ _ _ _ bx Tryd.underlying27 rfl (by kernel_rfl) ?_) | ((with_reducible refine look_store ?_); refine wpList_store_row rfl _ _ _ rfl _ _ rfl rfl _ _ bR2 (by kernel_rfl) (by simp) (by simp [Value.oneCell']) ?_) | fail)
    have H := Ho.out
    have N := Hn.out
    exact bodyPost_ret (results_cell_row Tryd.results19 _ _ _ _ _ _ _ rfl (setRow_heap _ _ _ _ _ _ bR2) Tryd.underlying27 rfl (by kernel_rfl)) rfl ⟨⟨⟨k0, k1, k2, k3, (n % 65536)⟩, kind, flags, type, code, seqn, ackn, window, length, ⟨q0, q1, q2, q3, q4⟩, qkind⟩, ⟨keyOk H.key.proto0 H.key.proto1 H.key.src0 H.key.src1 H.key.dst0 H.key.dst1 H.key.sp0 H.key.sp1 (show (0 : Int) ≤ (n % 65536) by omega) (show (n % 65536) < 65536 by omega), H.kind0, H.kind1, H.flags0, H.flags1, H.type0, H.type1, H.code0, H.code1, H.seqn0, H.seqn1, H.ackn0, H.ackn1, H.window0, H.window1, H.length0, H.length1, keyOk H.quoted.proto0 H.quoted.proto1 H.quoted.src0 H.quoted.src1 H.quoted.dst0 H.quoted.dst1 H.quoted.sp0 H.quoted.sp1 H.quoted.dp0 H.quoted.dp1, H.qkind0, H.qkind1⟩, rfl, below_setRow hb2 (by omega) _⟩
  · go_enter Tryd.func19, Tryd.ntmps19
    go_upto_region 1 with (fail)
    refine wp_name2 ?_
    intro w1 hb1 hs1 b0 bR
    have hc0 := b0.cell
    have hf0 := b0.frozen
    go_upto_region 39 with (fail)
    have bx : Blk _ _ _ #[.int .u8 k0, .int .u32 k1, .int .u32 k2, .int .u16 k3, .int .u16 k4, .int .u8 (n % 256), .int .u8 flags, .int .u8 type, .int .u8 code, .int .u32 seqn, .int .u32 ackn, .int .i64 window, .int .i64 length, .int .u8 q0, .int .u32 q1, .int .u32 q2, .int .u16 q3, .int .u16 q4, .int .u8 qkind] := b0.set 5 (.int .u8 (n % 256))
    have bR2 := bR.far (p := ⟨w.heap.size, 5, none⟩) (by show w.heap.size + 1 ≠ w.heap.size; omega) (.int .u8 (n % 256))
    have hb2 := hb1.setCell (p := ⟨w.heap.size, 5, none⟩) (Nat.le_refl _) (.int .u8 (n % 256))
    clear hc0 hf0 b0 bR hb1
    go_wp2_with (first | ((with_reducible refine look_load ?_); refine wpList_load_row rfl _ _ rfl _ rfl _ _ _ _ bx Tryd.underlying27 rfl (by kernel_rfl) ?_) | ((with_reducible refine look_store ?_); refine wpList_store_row rfl _ _ _ rfl _ _ rfl rfl _ _ bR2 (by kernel_rfl) (by simp) (by simp [Value.oneCell']) ?_) | fail)
    have H := Ho.out
    have N := Hn.out
    exact bodyPost_ret (results_cell_row Tryd.results19 _ _ _ _ _ _ _ rfl (setRow_heap _ _ _ _ _ _ bR2) Tryd.underlying27 rfl (by kernel_rfl)) rfl ⟨⟨⟨k0, k1, k2, k3, k4⟩, (n % 256), flags, type, code, seqn, ackn, window, length, ⟨q0, q1, q2, q3, q4⟩, qkind⟩, ⟨keyOk H.key.proto0 H.key.proto1 H.key.src0 H.key.src1 H.key.dst0 H.key.dst1 H.key.sp0 H.key.sp1 H.key.dp0 H.key.dp1, (show (0 : Int) ≤ (n % 256) by omega), (show (n % 256) < 256 by omega), H.flags0, H.flags1, H.type0, H.type1, H.code0, H.code1, H.seqn0, H.seqn1, H.ackn0, H.ackn1, H.window0, H.window1, H.length0, H.length1, keyOk H.quoted.proto0 H.quoted.proto1 H.quoted.src0 H.quoted.src1 H.quoted.dst0 H.quoted.dst1 H.quoted.sp0 H.quoted.sp1 H.quoted.dp0 H.quoted.dp1, H.qkind0, H.qkind1⟩, rfl, below_setRow hb2 (by omega) _⟩
  · go_enter Tryd.func19, Tryd.ntmps19
    go_upto_region 1 with (fail)
    refine wp_name2 ?_
    intro w1 hb1 hs1 b0 bR
    have hc0 := b0.cell
    have hf0 := b0.frozen
    go_upto_region 39 with (fail)
    have bx : Blk _ _ _ #[.int .u8 k0, .int .u32 k1, .int .u32 k2, .int .u16 k3, .int .u16 k4, .int .u8 kind, .int .u8 (n % 256), .int .u8 type, .int .u8 code, .int .u32 seqn, .int .u32 ackn, .int .i64 window, .int .i64 length, .int .u8 q0, .int .u32 q1, .int .u32 q2, .int .u16 q3, .int .u16 q4, .int .u8 qkind] := b0.set 6 (.int .u8 (n % 256))
    have bR2 := bR.far (p := ⟨w.heap.size, 6, none⟩) (by show w.heap.size + 1 ≠ w.heap.size; omega) (.int .u8 (n % 256))
    have hb2 := hb1.setCell (p := ⟨w.heap.size, 6, none⟩) (Nat.le_refl _) (.int .u8 (n % 256))
    clear hc0 hf0 b0 bR hb1
    go_wp2_with (first | ((with_reducible refine look_load ?_); refine wpList_load_row rfl _ _ rfl _ rfl _ _ _ _ bx Tryd.underlying27 rfl (by kernel_rfl) ?_) | ((with_reducible refine look_store ?_); refine wpList_store_row rfl _ _ _ rfl _ _ rfl rfl _ _ bR2 (by kernel_rfl) (by simp) (by simp [Value.oneCell']) ?_) | fail)
    have H := Ho.out
    have N := Hn.out
    exact bodyPost_ret (results_cell_row Tryd.results19 _ _ _ _ _ _ _ rfl (setRow_heap _ _ _ _ _ _ bR2) Tryd.underlying27 rfl (by kernel_rfl)) rfl ⟨⟨⟨k0, k1, k2, k3, k4⟩, kind, (n % 256), type, code, seqn, ackn, window, length, ⟨q0, q1, q2, q3, q4⟩, qkind⟩, ⟨keyOk H.key.proto0 H.key.proto1 H.key.src0 H.key.src1 H.key.dst0 H.key.dst1 H.key.sp0 H.key.sp1 H.key.dp0 H.key.dp1, H.kind0, H.kind1, (show (0 : Int) ≤ (n % 256) by omega), (show (n % 256) < 256 by omega), H.type0, H.type1, H.code0, H.code1, H.seqn0, H.seqn1, H.ackn0, H.ackn1, H.window0, H.window1, H.length0, H.length1, keyOk H.quoted.proto0 H.quoted.proto1 H.quoted.src0 H.quoted.src1 H.quoted.dst0 H.quoted.dst1 H.quoted.sp0 H.quoted.sp1 H.quoted.dp0 H.quoted.dp1, H.qkind0, H.qkind1⟩, rfl, below_setRow hb2 (by omega) _⟩
  · go_enter Tryd.func19, Tryd.ntmps19
    go_upto_region 1 with (fail)
    refine wp_name2 ?_
    intro w1 hb1 hs1 b0 bR
    have hc0 := b0.cell
    have hf0 := b0.frozen
    go_upto_region 39 with (fail)
    have bx : Blk _ _ _ #[.int .u8 k0, .int .u32 k1, .int .u32 k2, .int .u16 k3, .int .u16 k4, .int .u8 kind, .int .u8 flags, .int .u8 (n % 256), .int .u8 code, .int .u32 seqn, .int .u32 ackn, .int .i64 window, .int .i64 length, .int .u8 q0, .int .u32 q1, .int .u32 q2, .int .u16 q3, .int .u16 q4, .int .u8 qkind] := b0.set 7 (.int .u8 (n % 256))
    have bR2 := bR.far (p := ⟨w.heap.size, 7, none⟩) (by show w.heap.size + 1 ≠ w.heap.size; omega) (.int .u8 (n % 256))
    have hb2 := hb1.setCell (p := ⟨w.heap.size, 7, none⟩) (Nat.le_refl _) (.int .u8 (n % 256))
    clear hc0 hf0 b0 bR hb1
    go_wp2_with (first | ((with_reducible refine look_load ?_); refine wpList_load_row rfl _ _ rfl _ rfl _ _ _ _ bx Tryd.underlying27 rfl (by kernel_rfl) ?_) | ((with_reducible refine look_store ?_); refine wpList_store_row rfl _ _ _ rfl _ _ rfl rfl _ _ bR2 (by kernel_rfl) (by simp) (by simp [Value.oneCell']) ?_) | fail)
    have H := Ho.out
    have N := Hn.out
    exact bodyPost_ret (results_cell_row Tryd.results19 _ _ _ _ _ _ _ rfl (setRow_heap _ _ _ _ _ _ bR2) Tryd.underlying27 rfl (by kernel_rfl)) rfl ⟨⟨⟨k0, k1, k2, k3, k4⟩, kind, flags, (n % 256), code, seqn, ackn, window, length, ⟨q0, q1, q2, q3, q4⟩, qkind⟩, ⟨keyOk H.key.proto0 H.key.proto1 H.key.src0 H.key.src1 H.key.dst0 H.key.dst1 H.key.sp0 H.key.sp1 H.key.dp0 H.key.dp1, H.kind0, H.kind1, H.flags0, H.flags1, (show (0 : Int) ≤ (n % 256) by omega), (show (n % 256) < 256 by omega), H.code0, H.code1, H.seqn0, H.seqn1, H.ackn0, H.ackn1, H.window0, H.window1, H.length0, H.length1, keyOk H.quoted.proto0 H.quoted.proto1 H.quoted.src0 H.quoted.src1 H.quoted.dst0 H.quoted.dst1 H.quoted.sp0 H.quoted.sp1 H.quoted.dp0 H.quoted.dp1, H.qkind0, H.qkind1⟩, rfl, below_setRow hb2 (by omega) _⟩
  · go_enter Tryd.func19, Tryd.ntmps19
    go_upto_region 1 with (fail)
    refine wp_name2 ?_
    intro w1 hb1 hs1 b0 bR
    have hc0 := b0.cell
    have hf0 := b0.frozen
    go_upto_region 39 with (fail)
    have bx : Blk _ _ _ #[.int .u8 k0, .int .u32 k1, .int .u32 k2, .int .u16 k3, .int .u16 k4, .int .u8 kind, .int .u8 flags, .int .u8 type, .int .u8 (n % 256), .int .u32 seqn, .int .u32 ackn, .int .i64 window, .int .i64 length, .int .u8 q0, .int .u32 q1, .int .u32 q2, .int .u16 q3, .int .u16 q4, .int .u8 qkind] := b0.set 8 (.int .u8 (n % 256))
    have bR2 := bR.far (p := ⟨w.heap.size, 8, none⟩) (by show w.heap.size + 1 ≠ w.heap.size; omega) (.int .u8 (n % 256))
    have hb2 := hb1.setCell (p := ⟨w.heap.size, 8, none⟩) (Nat.le_refl _) (.int .u8 (n % 256))
    clear hc0 hf0 b0 bR hb1
    go_wp2_with (first | ((with_reducible refine look_load ?_); refine wpList_load_row rfl _ _ rfl _ rfl _ _ _ _ bx Tryd.underlying27 rfl (by kernel_rfl) ?_) | ((with_reducible refine look_store ?_); refine wpList_store_row rfl _ _ _ rfl _ _ rfl rfl _ _ bR2 (by kernel_rfl) (by simp) (by simp [Value.oneCell']) ?_) | fail)
    have H := Ho.out
    have N := Hn.out
    exact bodyPost_ret (results_cell_row Tryd.results19 _ _ _ _ _ _ _ rfl (setRow_heap _ _ _ _ _ _ bR2) Tryd.underlying27 rfl (by kernel_rfl)) rfl ⟨⟨⟨k0, k1, k2, k3, k4⟩, kind, flags, type, (n % 256), seqn, ackn, window, length, ⟨q0, q1, q2, q3, q4⟩, qkind⟩, ⟨keyOk H.key.proto0 H.key.proto1 H.key.src0 H.key.src1 H.key.dst0 H.key.dst1 H.key.sp0 H.key.sp1 H.key.dp0 H.key.dp1, H.kind0, H.kind1, H.flags0, H.flags1, H.type0, H.type1, (show (0 : Int) ≤ (n % 256) by omega), (show (n % 256) < 256 by omega), H.seqn0, H.seqn1, H.ackn0, H.ackn1, H.window0, H.window1, H.length0, H.length1, keyOk H.quoted.proto0 H.quoted.proto1 H.quoted.src0 H.quoted.src1 H.quoted.dst0 H.quoted.dst1 H.quoted.sp0 H.quoted.sp1 H.quoted.dp0 H.quoted.dp1, H.qkind0, H.qkind1⟩, rfl, below_setRow hb2 (by omega) _⟩
  · go_enter Tryd.func19, Tryd.ntmps19
    go_upto_region 1 with (fail)
    refine wp_name2 ?_
    intro w1 hb1 hs1 b0 bR
    have hc0 := b0.cell
    have hf0 := b0.frozen
    go_upto_region 39 with (fail)
    have bx : Blk _ _ _ #[.int .u8 k0, .int .u32 k1, .int .u32 k2, .int .u16 k3, .int .u16 k4, .int .u8 kind, .int .u8 flags, .int .u8 type, .int .u8 code, .int .u32 (n % 4294967296), .int .u32 ackn, .int .i64 window, .int .i64 length, .int .u8 q0, .int .u32 q1, .int .u32 q2, .int .u16 q3, .int .u16 q4, .int .u8 qkind] := b0.set 9 (.int .u32 (n % 4294967296))
    have bR2 := bR.far (p := ⟨w.heap.size, 9, none⟩) (by show w.heap.size + 1 ≠ w.heap.size; omega) (.int .u32 (n % 4294967296))
    have hb2 := hb1.setCell (p := ⟨w.heap.size, 9, none⟩) (Nat.le_refl _) (.int .u32 (n % 4294967296))
    clear hc0 hf0 b0 bR hb1
    go_wp2_with (first | ((with_reducible refine look_load ?_); refine wpList_load_row rfl _ _ rfl _ rfl _ _ _ _ bx Tryd.underlying27 rfl (by kernel_rfl) ?_) | ((with_reducible refine look_store ?_); refine wpList_store_row rfl _ _ _ rfl _ _ rfl rfl _ _ bR2 (by kernel_rfl) (by simp) (by simp [Value.oneCell']) ?_) | fail)
    have H := Ho.out
    have N := Hn.out
    exact bodyPost_ret (results_cell_row Tryd.results19 _ _ _ _ _ _ _ rfl (setRow_heap _ _ _ _ _ _ bR2) Tryd.underlying27 rfl (by kernel_rfl)) rfl ⟨⟨⟨k0, k1, k2, k3, k4⟩, kind, flags, type, code, (n % 4294967296), ackn, window, length, ⟨q0, q1, q2, q3, q4⟩, qkind⟩, ⟨keyOk H.key.proto0 H.key.proto1 H.key.src0 H.key.src1 H.key.dst0 H.key.dst1 H.key.sp0 H.key.sp1 H.key.dp0 H.key.dp1, H.kind0, H.kind1, H.flags0, H.flags1, H.type0, H.type1, H.code0, H.code1, (show (0 : Int) ≤ (n % 4294967296) by omega), (show (n % 4294967296) < 4294967296 by omega), H.ackn0, H.ackn1, H.window0, H.window1, H.length0, H.length1, keyOk H.quoted.proto0 H.quoted.proto1 H.quoted.src0 H.quoted.src1 H.quoted.dst0 H.quoted.dst1 H.quoted.sp0 H.quoted.sp1 H.quoted.dp0 H.quoted.dp1, H.qkind0, H.qkind1⟩, rfl, below_setRow hb2 (by omega) _⟩
  · go_enter Tryd.func19, Tryd.ntmps19
    go_upto_region 1 with (fail)
    refine wp_name2 ?_
    intro w1 hb1 hs1 b0 bR
    have hc0 := b0.cell
    have hf0 := b0.frozen
    go_upto_region 39 with (fail)
    have bx : Blk _ _ _ #[.int .u8 k0, .int .u32 k1, .int .u32 k2, .int .u16 k3, .int .u16 k4, .int .u8 kind, .int .u8 flags, .int .u8 type, .int .u8 code, .int .u32 seqn, .int .u32 (n % 4294967296), .int .i64 window, .int .i64 length, .int .u8 q0, .int .u32 q1, .int .u32 q2, .int .u16 q3, .int .u16 q4, .int .u8 qkind] := b0.set 10 (.int .u32 (n % 4294967296))
    have bR2 := bR.far (p := ⟨w.heap.size, 10, none⟩) (by show w.heap.size + 1 ≠ w.heap.size; omega) (.int .u32 (n % 4294967296))
    have hb2 := hb1.setCell (p := ⟨w.heap.size, 10, none⟩) (Nat.le_refl _) (.int .u32 (n % 4294967296))
    clear hc0 hf0 b0 bR hb1
    go_wp2_with (first | ((with_reducible refine look_load ?_); refine wpList_load_row rfl _ _ rfl _ rfl _ _ _ _ bx Tryd.underlying27 rfl (by kernel_rfl) ?_) | ((with_reducible refine look_store ?_); refine wpList_store_row rfl _ _ _ rfl _ _ rfl rfl _ _ bR2 (by kernel_rfl) (by simp) (by simp [Value.oneCell']) ?_) | fail)
    have H := Ho.out
    have N := Hn.out
    exact bodyPost_ret (results_cell_row Tryd.results19 _ _ _ _ _ _ _ rfl (setRow_heap _ _ _ _ _ _ bR2) Tryd.underlying27 rfl (by kernel_rfl)) rfl ⟨⟨⟨k0, k1, k2, k3, k4⟩, kind, flags, type, code, seqn, (n % 4294967296), window, length, ⟨q0, q1, q2, q3, q4⟩, qkind⟩, ⟨keyOk H.key.proto0 H.key.proto1 H.key.src0 H.key.src1 H.key.dst0 H.key.dst1 H.key.sp0 H.key.sp1 H.key.dp0 H.key.dp1, H.kind0, H.kind1, H.flags0, H.flags1, H.type0, H.type1, H.code0, H.code1, H.seqn0, H.seqn1, (show (0 : Int) ≤ (n % 4294967296) by omega), (show (n % 4294967296) < 4294967296 by omega), H.window0, H.window1, H.length0, H.length1, keyOk H.quoted.proto0 H.quoted.proto1 H.quoted.src0 H.quoted.src1 H.quoted.dst0 H.quoted.dst1 H.quoted.sp0 H.quoted.sp1 H.quoted.dp0 H.quoted.dp1, H.qkind0, H.qkind1⟩, rfl, below_setRow hb2 (by omega) _⟩
  · go_enter Tryd.func19, Tryd.ntmps19
    go_upto_region 1 with (fail)
    refine wp_name2 ?_
    intro w1 hb1 hs1 b0 bR
    have hc0 := b0.cell
    have hf0 := b0.frozen
    go_upto_region 39 with (fail)
    have bx : Blk _ _ _ #[.int .u8 k0, .int .u32 k1, .int .u32 k2, .int .u16 k3, .int .u16 k4, .int .u8 kind, .int .u8 flags, .int .u8 type, .int .u8 code, .int .u32 seqn, .int .u32 ackn, .int .i64 n, .int .i64 length, .int .u8 q0, .int .u32 q1, .int .u32 q2, .int .u16 q3, .int .u16 q4, .int .u8 qkind] := b0.set 11 (.int .i64 n)
    have bR2 := bR.far (p := ⟨w.heap.size, 11, none⟩) (by show w.heap.size + 1 ≠ w.heap.size; omega) (.int .i64 n)
    have hb2 := hb1.setCell (p := ⟨w.heap.size, 11, none⟩) (Nat.le_refl _) (.int .i64 n)
    clear hc0 hf0 b0 bR hb1
    go_wp2_with (first | ((with_reducible refine look_load ?_); refine wpList_load_row rfl _ _ rfl _ rfl _ _ _ _ bx Tryd.underlying27 rfl (by kernel_rfl) ?_) | ((with_reducible refine look_store ?_); refine wpList_store_row rfl _ _ _ rfl _ _ rfl rfl _ _ bR2 (by kernel_rfl) (by simp) (by simp [Value.oneCell']) ?_) | fail)
    have H := Ho.out
    have N := Hn.out
    exact bodyPost_ret (results_cell_row Tryd.results19 _ _ _ _ _ _ _ rfl (setRow_heap _ _ _ _ _ _ bR2) Tryd.underlying27 rfl (by kernel_rfl)) rfl ⟨⟨⟨k0, k1, k2, k3, k4⟩, kind, flags, type, code, seqn, ackn, n, length, ⟨q0, q1, q2, q3, q4⟩, qkind⟩, ⟨keyOk H.key.proto0 H.key.proto1 H.key.src0 H.key.src1 H.key.dst0 H.key.dst1 H.key.sp0 H.key.sp1 H.key.dp0 H.key.dp1, H.kind0, H.kind1, H.flags0, H.flags1, H.type0, H.type1, H.code0, H.code1, H.seqn0, H.seqn1, H.ackn0, H.ackn1, N.1, N.2, H.length0, H.length1, keyOk H.quoted.proto0 H.quoted.proto1 H.quoted.src0 H.quoted.src1 H.quoted.dst0 H.quoted.dst1 H.quoted.sp0 H.quoted.sp1 H.quoted.dp0 H.quoted.dp1, H.qkind0, H.qkind1⟩, rfl, below_setRow hb2 (by omega) _⟩
  · go_enter Tryd.func19, Tryd.ntmps19
    go_upto_region 1 with (fail)
    refine wp_name2 ?_
    intro w1 hb1 hs1 b0 bR
    have hc0 := b0.cell
    have hf0 := b0.frozen
    go_upto_region 39 with (fail)
    have bx : Blk _ _ _ #[.int .u8 k0, .int .u32 k1, .int .u32 k2, .int .u16 k3, .int .u16 k4, .int .u8 kind, .int .u8 flags, .int .u8 type, .int .u8 code, .int .u32 seqn, .int .u32 ackn, .int .i64 window, .int .i64 n, .int .u8 q0, .int .u32 q1, .int .u32 q2, .int .u16 q3, .int .u16 q4, .int .u8 qkind] := b0.set 12 (.int .i64 n)
    have bR2 := bR.far (p := ⟨w.heap.size, 12, none⟩) (by show w.heap.size + 1 ≠ w.heap.size; omega) (.int .i64 n)
    have hb2 := hb1.setCell (p := ⟨w.heap.size, 12, none⟩) (Nat.le_refl _) (.int .i64 n)
    clear hc0 hf0 b0 bR hb1
    go_wp2_with (first | ((with_reducible refine look_load ?_); refine wpList_load_row rfl _ _ rfl _ rfl _ _ _ _ bx Tryd.underlying27 rfl (by kernel_rfl) ?_) | ((with_reducible refine look_store ?_); refine wpList_store_row rfl _ _ _ rfl _ _ rfl rfl _ _ bR2 (by kernel_rfl) (by simp) (by simp [Value.oneCell']) ?_) | fail)
    have H := Ho.out
    have N := Hn.out
    exact bodyPost_ret (results_cell_row Tryd.results19 _ _ _ _ _ _ _ rfl (setRow_heap _ _ _ _ _ _ bR2) Tryd.underlying27 rfl (by kernel_rfl)) rfl ⟨⟨⟨k0, k1, k2, k3, k4⟩, kind, flags, type, code, seqn, ackn, window, n, ⟨q0, q1, q2, q3, q4⟩, qkind⟩, ⟨keyOk H.key.proto0 H.key.proto1 H.key.src0 H.key.src1 H.key.dst0 H.key.dst1 H.key.sp0 H.key.sp1 H.key.dp0 H.key.dp1, H.kind0, H.kind1, H.flags0, H.flags1, H.type0, H.type1, H.code0, H.code1, H.seqn0, H.seqn1, H.ackn0, H.ackn1, H.window0, H.window1, N.1, N.2, keyOk H.quoted.proto0 H.quoted.proto1 H.quoted.src0 H.quoted.src1 H.quoted.dst0 H.quoted.dst1 H.quoted.sp0 H.quoted.sp1 H.quoted.dp0 H.quoted.dp1, H.qkind0, H.qkind1⟩, rfl, below_setRow hb2 (by omega) _⟩
  · go_enter Tryd.func19, Tryd.ntmps19
    go_upto_region 1 with (fail)
    refine wp_name2 ?_
    intro w1 hb1 hs1 b0 bR
    have hc0 := b0.cell
    have hf0 := b0.frozen
    go_upto_region 39 with (fail)
    have bx : Blk _ _ _ #[.int .u8 k0, .int .u32 k1, .int .u32 k2, .int .u16 k3, .int .u16 k4, .int .u8 kind, .int .u8 flags, .int .u8 type, .int .u8 code, .int .u32 seqn, .int .u32 ackn, .int .i64 window, .int .i64 length, .int .u8 (n % 256), .int .u32 q1, .int .u32 q2, .int .u16 q3, .int .u16 q4, .int .u8 qkind] := b0.set 13 (.int .u8 (n % 256))
    have bR2 := bR.far (p := ⟨w.heap.size, 13, none⟩) (by show w.heap.size + 1 ≠ w.heap.size; omega) (.int .u8 (n % 256))
    have hb2 := hb1.setCell (p := ⟨w.heap.size, 13, none⟩) (Nat.le_refl _) (.int .u8 (n % 256))
    clear hc0 hf0 b0 bR hb1
    go_wp2_with (first | ((with_reducible refine look_load ?_); refine wpList_load_row rfl _ _ rfl _ rfl _ _ _ _ bx Tryd.underlying27 rfl (by kernel_rfl) ?_) | ((with_reducible refine look_store ?_); refine wpList_store_row rfl _ _ _ rfl _ _ rfl rfl _ _ bR2 (by kernel_rfl) (by simp) (by simp [Value.oneCell']) ?_) | fail)
    have H := Ho.out
    have N := Hn.out
    exact bodyPost_ret (results_cell_row Tryd.results19 _ _ _ _ _ _ _ rfl (setRow_heap _ _ _ _ _ _ bR2) Tryd.underlying27 rfl (by kernel_rfl)) rfl ⟨⟨⟨k0, k1, k2, k3, k4⟩, kind, flags, type, code, seqn, ackn, window, length, ⟨(n % 256), q1, q2, q3, q4⟩, qkind⟩, ⟨keyOk H.key.proto0 H.key.proto1 H.key.src0 H.key.src1 H.key.dst0 H.key.dst1 H.key.sp0 H.key.sp1 H.key.dp0 H.key.dp1, H.kind0, H.kind1, H.flags0, H.flags1, H.type0, H.type1, H.code0, H.code1, H.seqn0, H.seqn1, H.ackn0, H.ackn1, H.window0, H.window1, H.length0, H.length1, keyOk (show (0 : Int) ≤ (n % 256) by omega) (show (n % 256) < 256 by omega) H.quoted.src0 H.quoted.src1 H.quoted.dst0 H.quoted.dst1 H.quoted.sp0 H.quoted.sp1 H.quoted.dp0 H.quoted.dp1, H.qkind0, H.qkind1⟩, rfl, below_setRow hb2 (by omega) _⟩
  · go_enter Tryd.func19, Tryd.ntmps19
    go_upto_region 1 with (fail)
    refine wp_name2 ?_
    intro w1 hb1 hs1 b0 bR
    have hc0 := b0.cell
    have hf0 := b0.frozen
    go_upto_region 39 with (fail)
    have bx : Blk _ _ _ #[.int .u8 k0, .int .u32 k1, .int .u32 k2, .int .u16 k3, .int .u16 k4, .int .u8 kind, .int .u8 flags, .int .u8 type, .int .u8 code, .int .u32 seqn, .int .u32 ackn, .int .i64 window, .int .i64 length, .int .u8 q0, .int .u32 (n % 4294967296), .int .u32 q2, .int .u16 q3, .int .u16 q4, .int .u8 qkind] := b0.set 14 (.int .u32 (n % 4294967296))
    have bR2 := bR.far (p := ⟨w.heap.size, 14, none⟩) (by show w.heap.size + 1 ≠ w.heap.size; omega) (.int .u32 (n % 4294967296))
    have hb2 := hb1.setCell (p := ⟨w.heap.size, 14, none⟩) (Nat.le_refl _) (.int .u32 (n % 4294967296))
    clear hc0 hf0 b0 bR hb1
    go_wp2_with (first | ((with_reducible refine look_load ?_); refine wpList_load_row rfl _ _ rfl _ rfl _ _ _ _ bx Tryd.underlying27 rfl (by kernel_rfl) ?_) | ((with_reducible refine look_store ?_); refine wpList_store_row rfl _ _ _ rfl _ _ rfl rfl _ _ bR2 (by kernel_rfl) (by simp) (by simp [Value.oneCell']) ?_) | fail)
    have H := Ho.out
    have N := Hn.out
    exact bodyPost_ret (results_cell_row Tryd.results19 _ _ _ _ _ _ _ rfl (setRow_heap _ _ _ _ _ _ bR2) Tryd.underlying27 rfl (by kernel_rfl)) rfl ⟨⟨⟨k0, k1, k2, k3, k4⟩, kind, flags, type, code, seqn, ackn, window, length, ⟨q0, (n % 4294967296), q2, q3, q4⟩, qkind⟩, ⟨keyOk H.key.proto0 H.key.proto1 H.key.src0 H.key.src1 H.key.dst0 H.key.dst1 H.key.sp0 H.key.sp1 H.key.dp0 H.key.dp1, H.kind0, H.kind1, H.flags0, H.flags1, H.type0, H.type1, H.code0, H.code1, H.seqn0, H.seqn1, H.ackn0, H.ackn1, H.window0, H.window1, H.length0, H.length1, keyOk H.quoted.proto0 H.quoted.proto1 (show (0 : Int) ≤ (n % 4294967296) by omega) (show (n % 4294967296) < 4294967296 by omega) H.quoted.dst0 H.quoted.dst1 H.quoted.sp0 H.quoted.sp1 H.quoted.dp0 H.quoted.dp1, H.qkind0, H.qkind1⟩, rfl, below_setRow hb2 (by omega) _⟩
  · go_enter Tryd.func19, Tryd.ntmps19
    go_upto_region 1 with (fail)
    refine wp_name2 ?_
    intro w1 hb1 hs1 b0 bR
    have hc0 := b0.cell
    have hf0 := b0.frozen
    go_upto_region 39 with (fail)
    have bx : Blk _ _ _ #[.int .u8 k0, .int .u32 k1, .int .u32 k2, .int .u16 k3, .int .u16 k4, .int .u8 kind, .int .u8 flags, .int .u8 type, .int .u8 code, .int .u32 seqn, .int .u32 ackn, .int .i64 window, .int .i64 length, .int .u8 q0, .int .u32 q1, .int .u32 (n % 4294967296), .int .u16 q3, .int .u16 q4, .int .u8 qkind] := b0.set 15 (.int .u32 (n % 4294967296))
    have bR2 := bR.far (p := ⟨w.heap.size, 15, none⟩) (by show w.heap.size + 1 ≠ w.heap.size; omega) (.int .u32 (n % 4294967296))
    have hb2 := hb1.setCell (p := ⟨w.heap.size, 15, none⟩) (Nat.le_refl _) (.int .u32 (n % 4294967296))
    clear hc0 hf0 b0 bR hb1
    go_wp2_with (first | ((with_reducible refine look_load ?_); refine wpList_load_row rfl _ _ rfl _ rfl _ _ _ _ bx Tryd.underlying27 rfl (by kernel_rfl) ?_) | ((with_reducible refine look_store ?_); refine wpList_store_row rfl _ _ _ rfl _ _ rfl rfl _ _ bR2 (by kernel_rfl) (by simp) (by simp [Value.oneCell']) ?_) | fail)
    have H := Ho.out
    have N := Hn.out
    exact bodyPost_ret (results_cell_row Tryd.results19 _ _ _ _ _ _ _ rfl (setRow_heap _ _ _ _ _ _ bR2) Tryd.underlying27 rfl (by kernel_rfl)) rfl ⟨⟨⟨k0, k1, k2, k3, k4⟩, kind, flags, type, code, seqn, ackn, window, length, ⟨q0, q1, (n % 4294967296), q3, q4⟩, qkind⟩, ⟨keyOk H.key.proto0 H.key.proto1 H.key.src0 H.key.src1 H.key.dst0 H.key.dst1 H.key.sp0 H.key.sp1 H.key.dp0 H.key.dp1, H.kind0, H.kind1, H.flags0, H.flags1, H.type0, H.type1, H.code0, H.code1, H.seqn0, H.seqn1, H.ackn0, H.ackn1, H.window0, H.window1, H.length0, H.length1, keyOk H.quoted.proto0 H.quoted.proto1 H.quoted.src0 H.quoted.src1 (show (0 : Int) ≤ (n % 4294967296) by omega) (show (n % 4294967296) < 4294967296 by omega) H.quoted.sp0 H.quoted.sp1 H.quoted.dp0 H.quoted.dp1, H.qkind0, H.qkind1⟩, rfl, below_setRow hb2 (by omega) _⟩
  · go_enter Tryd.func19, Tryd.ntmps19
    go_upto_region 1 with (fail)
    refine wp_name2 ?_
    intro w1 hb1 hs1 b0 bR
    have hc0 := b0.cell
    have hf0 := b0.frozen
    go_upto_region 39 with (fail)
    have bx : Blk _ _ _ #[.int .u8 k0, .int .u32 k1, .int .u32 k2, .int .u16 k3, .int .u16 k4, .int .u8 kind, .int .u8 flags, .int .u8 type, .int .u8 code, .int .u32 seqn, .int .u32 ackn, .int .i64 window, .int .i64 length, .int .u8 q0, .int .u32 q1, .int .u32 q2, .int .u16 (n % 65536), .int .u16 q4, .int .u8 qkind] := b0.set 16 (.int .u16 (n % 65536))
    have bR2 := bR.far (p := ⟨w.heap.size, 16, none⟩) (by show w.heap.size + 1 ≠ w.heap.size; omega) (.int .u16 (n % 65536))
    have hb2 := hb1.setCell (p := ⟨w.heap.size, 16, none⟩) (Nat.le_refl _) (.int .u16 (n % 65536))
    clear hc0 hf0 b0 bR hb1
    go_wp2_with (first | ((with_reducible refine look_load ?_); refine wpList_load_row rfl _ _ rfl _ rfl _ _ _ _ bx Tryd.underlying27 rfl (by kernel_rfl) ?_) | ((with_reducible refine look_store ?_); refine wpList_store_row rfl _ _ _ rfl _ _ rfl rfl _ _ bR2 (by kernel_rfl) (by simp) (by simp [Value.oneCell']) ?_) | fail)
    have H := Ho.out
    have N := Hn.out
    exact bodyPost_ret (results_cell_row Tryd.results19 _ _ _ _ _ _ _ rfl (setRow_heap _ _ _ _ _ _ bR2) Tryd.underlying27 rfl (by kernel_rfl)) rfl ⟨⟨⟨k0, k1, k2, k3, k4⟩, kind, flags, type, code, seqn, ackn, window, length, ⟨q0, q1, q2, (n % 65536), q4⟩, qkind⟩, ⟨keyOk H.key.proto0 H.key.proto1 H.key.src0 H.key.src1 H.key.dst0 H.key.dst1 H.key.sp0 H.key.sp1 H.key.dp0 H.key.dp1, H.kind0, H.kind1, H.flags0, H.flags1, H.type0, H.type1, H.code0, H.code1, H.seqn0, H.seqn1, H.ackn0, H.ackn1, H.window0, H.window1, H.length0, H.length1, keyOk H.quoted.proto0 H.quoted.proto1 H.quoted.src0 H.quoted.src1 H.quoted.dst0 H.quoted.dst1 (show (0 : Int) ≤ (n % 65536) by omega) (show (n % 65536) < 65536 by omega) H.quoted.dp0 H.quoted.dp1, H.qkind0, H.qkind1⟩, rfl, below_setRow hb2 (by omega) _⟩
  · go_enter Tryd.func19, Tryd.ntmps19
    go_upto_region 1 with (fail)
    refine wp_name2 ?_
    intro w1 hb1 hs1 b0 bR
    have hc0 := b0.cell
    have hf0 := b0.frozen
    go_upto_region 39 with (fail)
    have bx : Blk _ _ _ #[.int .u8 k0, .int .u32 k1, .int .u32 k2, .int .u16 k3, .int .u16 k4, .int .u8 kind, .int .u8 flags, .int .u8 type, .int .u8 code, .int .u32 seqn, .int .u32 ackn, .int .i64 window, .int .i64 length, .int .u8 q0, .int .u32 q1, .int .u32 q2, .int .u16 q3, .int .u16 (n % 65536), .int .u8 qkind] := b0.set 17 (.int .u16 (n % 65536))
    have bR2 := bR.far (p := ⟨w.heap.size, 17, none⟩) (by show w.heap.size + 1 ≠ w.heap.size; omega) (.int .u16 (n % 65536))
    have hb2 := hb1.setCell (p := ⟨w.heap.size, 17, none⟩) (Nat.le_refl _) (.int .u16 (n % 65536))
    clear hc0 hf0 b0 bR hb1
    go_wp2_with (first | ((with_reducible refine look_load ?_); refine wpList_load_row rfl _ _ rfl _ rfl _ _ _ _ bx Tryd.underlying27 rfl (by kernel_rfl) ?_) | ((with_reducible refine look_store ?_); refine wpList_store_row rfl _ _ _ rfl _ _ rfl rfl _ _ bR2 (by kernel_rfl) (by simp) (by simp [Value.oneCell']) ?_) | fail)
    have H := Ho.out
    have N := Hn.out
    exact bodyPost_ret (results_cell_row Tryd.results19 _ _ _ _ _ _ _ rfl (setRow_heap _ _ _ _ _ _ bR2) Tryd.underlying27 rfl (by kernel_rfl)) rfl ⟨⟨⟨k0, k1, k2, k3, k4⟩, kind, flags, type, code, seqn, ackn, window, length, ⟨q0, q1, q2, q3, (n % 65536)⟩, qkind⟩, ⟨keyOk H.key.proto0 H.key.proto1 H.key.src0 H.key.src1 H.key.dst0 H.key.dst1 H.key.sp0 H.key.sp1 H.key.dp0 H.key.dp1, H.kind0, H.kind1, H.flags0, H.flags1, H.type0, H.type1, H.code0, H.code1, H.seqn0, H.seqn1, H.ackn0, H.ackn1, H.window0, H.window1, H.length0, H.length1, keyOk H.quoted.proto0 H.quoted.proto1 H.quoted.src0 H.quoted.src1 H.quoted.dst0 H.quoted.dst1 H.quoted.sp0 H.quoted.sp1 (show (0 : Int) ≤ (n % 65536) by omega) (show (n % 65536) < 65536 by omega), H.qkind0, H.qkind1⟩, rfl, below_setRow hb2 (by omega) _⟩
  · go_enter Tryd.func19, Tryd.ntmps19
    go_upto_region 1 with (fail)
    refine wp_name2 ?_
    intro w1 hb1 hs1 b0 bR
    have hc0 := b0.cell
    have hf0 := b0.frozen
    go_upto_region 39 with (fail)
    have bx : Blk _ _ _ #[.int .u8 k0, .int .u32 k1, .int .u32 k2, .int .u16 k3, .int .u16 k4, .int .u8 kind, .int .u8 flags, .int .u8 type, .int .u8 code, .int .u32 seqn, .int .u32 ackn, .int .i64 window, .int .i64 length, .int .u8 q0, .int .u32 q1, .int .u32 q2, .int .u16 q3, .int .u16 q4, .int .u8 (n % 256)] := b0.set 18 (.int .u8 (n % 256))
    have bR2 := bR.far (p := ⟨w.heap.size, 18, none⟩) (by show w.heap.size + 1 ≠ w.heap.size; omega) (.int .u8 (n % 256))
    have hb2 := hb1.setCell (p := ⟨w.heap.size, 18, none⟩) (Nat.le_refl _) (.int .u8 (n % 256))
    clear hc0 hf0 b0 bR hb1
    go_wp2_with (first | ((with_reducible refine look_load ?_); refine wpList_load_row rfl _ _ rfl _ rfl _ _ _ _ bx Tryd.underlying27 rfl (by kernel_rfl) ?_) | ((with_reducible refine look_store ?_); refine wpList_store_row rfl _ _ _ rfl _ _ rfl rfl _ _ bR2 (by kernel_rfl) (by simp) (by simp [Value.oneCell']) ?_) | fail)
    have H := Ho.out
    have N := Hn.out
    exact bodyPost_ret (results_cell_row Tryd.results19 _ _ _ _ _ _ _ rfl (setRow_heap _ _ _ _ _ _ bR2) Tryd.underlying27 rfl (by kernel_rfl)) rfl ⟨⟨⟨k0, k1, k2, k3, k4⟩, kind, flags, type, code, seqn, ackn, window, length, ⟨q0, q1, q2, q3, q4⟩, (n % 256)⟩, ⟨keyOk H.key.proto0 H.key.proto1 H.key.src0 H.key.src1 H.key.dst0 H.key.dst1 H.key.sp0 H.key.sp1 H.key.dp0 H.key.dp1, H.kind0, H.kind1, H.flags0, H.flags1, H.type0, H.type1, H.code0, H.code1, H.seqn0, H.seqn1, H.ackn0, H.ackn1, H.window0, H.window1, H.length0, H.length1, keyOk H.quoted.proto0 H.quoted.proto1 H.quoted.src0 H.quoted.src1 H.quoted.dst0 H.quoted.dst1 H.quoted.sp0 H.quoted.sp1 H.quoted.dp0 H.quoted.dp1, (show (0 : Int) ≤ (n % 256) by omega), (show (n % 256) < 256 by omega)⟩, rfl, below_setRow hb2 (by omega) _⟩

end Go.Proofs.YtebeekjcepjcnaaDoor
