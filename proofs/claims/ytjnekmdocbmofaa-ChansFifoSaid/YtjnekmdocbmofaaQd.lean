/- The iterator over the ring's pieces: for every body that goes on, both pieces come, in order. -/
import Derived.Test.YtjnekmdocbmofaaQf
import Derived.Test.YtjnekmdocbmofaaHd
namespace Go.Proofs.Ytjnekmdocbmofaa
set_option linter.unusedSimpArgs false
set_option linter.unusedVariables false
open Go.RowKit Go.Shelf
attribute [local go_sem] Oper.semAt_some

def Sq (b Bx f n : Nat) (w : World) : Prop := w.cell? ⟨Bx, 0, none⟩ = some (.pointer (some ⟨b, 0, none⟩)) ∧ w.cell? ⟨b, 16, none⟩ = some (.int .i64 f) ∧ w.cell? ⟨b, 17, none⟩ = some (.int .i64 n)

set_option maxRecDepth 100000 in
set_option maxHeartbeats 4000000 in
theorem rows1_a (k : Nat) (hk : 1 ≤ k) (l b Bx : Nat) (r : List Int) (f n m : Nat) (J : List Bool → World → Prop)
    (hY : ∀ pre x W, J pre W → YieldAt Fence.wide (k - 1) Try.prog l (rowEnc b f n m x) W fun e W' => e = .returned (.bool true) ∧ J (pre ++ [x]) W' ∧ Kpq b Bx W W')
    (hJd : ∀ pre W j, J pre W → J pre (W.drewN j))
    (W : World) (hBn : W.cell? ⟨Bx, 0, none⟩ = some (.pointer (some ⟨b, 0, none⟩))) (h : QAt W b r f n m) (hc : f + n ≤ m) (h0 : J [] W) :
    CallsIn Fence.wide k Try.prog 59 #[.func (.yield l) #[] #[], .pointer (some ⟨Bx, 0, none⟩)] W fun e W' => (∃ v, e = .returned v) ∧ J [false, true] W' := by
  have h1 := h.n
  have h2 := h.f
  have h3 := h.m1
  have h4 := h.m16
  have h5 := h.fm
  have h6 := h.m
  have h7 := h.nm
  refine callsIn_of_wp Try.func59 rfl trivial ?_ rfl
  simp only [Try.ntmps59, List.size_toArray, List.length_cons, List.length_nil, Nat.reduceAdd, Nat.reduceSub, Array.replicate_succ, Array.replicate_zero, List.push_toArray, List.append_toArray, List.nil_append, List.cons_append]
  have hmin : min (f + n) m = f + n := Nat.min_eq_left hc
  gi_wp2
  gi_quiet (fail)
  gi_wp2
  have hsl := fun w => run_sliceAt_ring w b f (f + n) ((f : Int) + n) (by omega) (by omega) (by omega) (by omega)
  rw [show f + n - f = n by omega] at hsl
  have hsl2 := fun w => run_sliceAt_ring0 w b 0 (IntKind.i64.wrap (IntKind.i64.wrap ((f : Int) + n) - ((f : Int) + n))) (by rw [IntKind.wrap_i64, IntKind.wrap_i64]; omega) (by omega)
  have hS : Sq b Bx f n (W.drewN (nq + 1)) := ⟨hBn, h2, h1⟩
  obtain ⟨fn, tmps, assign, body, hy, hR⟩ := hY [] false (W.drewN (nq + 1)) (hJd _ _ _ h0)
  have HY := Lib.hid hY
  clear hY h1 h2 h6 hBn
  simp only [rowEnc, rowLen, rowOff, hmin] at hy
  rw [show f + n - f = n by omega] at hy
  refine wpIn_regionS (Sq b Bx f n) (by kernel_rfl) ?_
  refine OrdersS.take 0 ?vv0 rfl (by kernel_rfl) (by kernel_rfl) (by kernel_rfl) (fun _ _ _ h => h) (Or.inl ⟨by kernel_rfl, fun u hu => ?st0⟩) (fun _ => rfl) hS ?_
  case st0 => obtain ⟨s1, s2, s3⟩ := hu; go_simp; with_reducible rfl
  simp only [Act.put, List.setIfInBounds_toArray, List.set_cons_succ, List.set_cons_zero]
  refine OrdersS.take 1 ?vv1 rfl (by kernel_rfl) (by kernel_rfl) (by kernel_rfl) (fun _ _ _ h => h) (Or.inl ⟨by kernel_rfl, fun u hu => ?st1⟩) (fun _ => rfl) hS ?_
  case st1 => obtain ⟨s1, s2, s3⟩ := hu; go_simp; with_reducible rfl
  simp only [Act.put, List.setIfInBounds_toArray, List.set_cons_succ, List.set_cons_zero]
  refine OrdersS.take 2 ?vv2 rfl (by kernel_rfl) (by kernel_rfl) (by kernel_rfl) (fun _ _ _ h => h) (Or.inl ⟨by kernel_rfl, fun u hu => ?st2⟩) (fun _ => rfl) hS ?_
  case st2 => obtain ⟨s1, s2, s3⟩ := hu; go_simp; with_reducible rfl
  simp only [Act.put, List.setIfInBounds_toArray, List.set_cons_succ, List.set_cons_zero]
  refine OrdersS.take 3 ?vv3 rfl (by kernel_rfl) (by kernel_rfl) (by kernel_rfl) (fun _ _ _ h => h) (Or.inl ⟨by kernel_rfl, fun u hu => ?st3⟩) (fun _ => rfl) hS ?_
  case st3 => obtain ⟨s1, s2, s3⟩ := hu; go_simp; with_reducible rfl
  simp only [Act.put, List.setIfInBounds_toArray, List.set_cons_succ, List.set_cons_zero]
  refine OrdersS.take 4 ?vv4 rfl (by kernel_rfl) (by kernel_rfl) (by kernel_rfl) (fun _ _ _ h => h) (Or.inl ⟨by kernel_rfl, fun u hu => ?st4⟩) (fun _ => rfl) hS ?_
  case st4 => obtain ⟨s1, s2, s3⟩ := hu; go_simp; with_reducible rfl
  simp only [Act.put, List.setIfInBounds_toArray, List.set_cons_succ, List.set_cons_zero]
  refine OrdersS.take 5 ?vv5 rfl (by kernel_rfl) (by kernel_rfl) (by kernel_rfl) (fun _ _ _ h => h) (Or.inl ⟨by kernel_rfl, fun u hu => ?st5⟩) (fun _ => rfl) hS ?_
  case st5 => obtain ⟨s1, s2, s3⟩ := hu; go_simp; with_reducible rfl
  simp only [Act.put, List.setIfInBounds_toArray, List.set_cons_succ, List.set_cons_zero]
  refine OrdersS.take 6 ?vv6 rfl (by kernel_rfl) (by kernel_rfl) (by kernel_rfl) (fun _ _ _ h => h) (Or.inl ⟨by kernel_rfl, fun u hu => ?st6⟩) (fun _ => rfl) hS ?_
  case st6 => obtain ⟨s1, s2, s3⟩ := hu; go_simp; with_reducible rfl
  simp only [Act.put, List.setIfInBounds_toArray, List.set_cons_succ, List.set_cons_zero]
  refine OrdersS.take 7 ?vv7 rfl (by kernel_rfl) (by kernel_rfl) (by kernel_rfl) (fun _ _ _ h => h) (Or.inl ⟨by kernel_rfl, fun u hu => ?st7⟩) (fun _ => rfl) hS ?_
  case st7 => obtain ⟨s1, s2, s3⟩ := hu; go_simp; with_reducible rfl
  simp only [Act.put, List.setIfInBounds_toArray, List.set_cons_succ, List.set_cons_zero]
  refine OrdersS.take 8 ?vv8 rfl (by kernel_rfl) (by kernel_rfl) (by kernel_rfl) (fun _ _ _ h => h) (Or.inl ⟨by kernel_rfl, fun u hu => ?st8⟩) (fun _ => rfl) hS ?_
  case st8 => obtain ⟨s1, s2, s3⟩ := hu; go_simp; with_reducible rfl
  simp only [Act.put, List.setIfInBounds_toArray, List.set_cons_succ, List.set_cons_zero]
  refine OrdersS.take 9 ?vv9 rfl (by kernel_rfl) (by kernel_rfl) (by kernel_rfl) (fun _ _ _ h => h) (Or.inl ⟨by kernel_rfl, fun u hu => ?st9⟩) (fun _ => rfl) hS ?_
  case st9 => obtain ⟨s1, s2, s3⟩ := hu; go_simp; with_reducible rfl
  simp only [Act.put, List.setIfInBounds_toArray, List.set_cons_succ, List.set_cons_zero]
  refine OrdersS.one 10 (by kernel_rfl) rfl (by kernel_rfl) (fun K hK => ?_)
  go_simp
  refine hR.mono ?_
  rintro e W3 ⟨rfl, hJ3, hk3⟩
  have hq3 := (h.drewN (nq + 1)).eqb hk3.1
  have hS : Sq b Bx f n W3 := ⟨(World.cell?_of_block (w := W.drewN (nq + 1)) (a := ⟨Bx, 0, none⟩) hk3.2).trans hS.1, hq3.f, hq3.n⟩
  obtain ⟨fn2, tmps2, assign2, body2, hy2, hR2⟩ := HY.out [false] true W3 hJ3
  simp only [rowEnc, rowLen, rowOff, hmin, Nat.sub_self, Nat.sub_zero] at hy2
  refine hK _ _ hS ?_
  refine OrdersS.take 11 ?vv11 rfl (by kernel_rfl) (by kernel_rfl) (by kernel_rfl) (fun _ _ _ h => h) (Or.inl ⟨by kernel_rfl, fun u hu => ?st11⟩) (fun _ => rfl) hS ?_
  case st11 => obtain ⟨s1, s2, s3⟩ := hu; go_simp; with_reducible rfl
  simp only [Act.put, List.setIfInBounds_toArray, List.set_cons_succ, List.set_cons_zero]
  refine OrdersS.take 12 ?vv12 rfl (by kernel_rfl) (by kernel_rfl) (by kernel_rfl) (fun _ _ _ h => h) (Or.inl ⟨by kernel_rfl, fun u hu => ?st12⟩) (fun _ => rfl) hS ?_
  case st12 => obtain ⟨s1, s2, s3⟩ := hu; go_simp; with_reducible rfl
  simp only [Act.put, List.setIfInBounds_toArray, List.set_cons_succ, List.set_cons_zero]
  refine OrdersS.take 13 ?vv13 rfl (by kernel_rfl) (by kernel_rfl) (by kernel_rfl) (fun _ _ _ h => h) (Or.inl ⟨by kernel_rfl, fun u hu => ?st13⟩) (fun _ => rfl) hS ?_
  case st13 => obtain ⟨s1, s2, s3⟩ := hu; go_simp; with_reducible rfl
  simp only [Act.put, List.setIfInBounds_toArray, List.set_cons_succ, List.set_cons_zero]
  refine OrdersS.take 14 ?vv14 rfl (by kernel_rfl) (by kernel_rfl) (by kernel_rfl) (fun _ _ _ h => h) (Or.inl ⟨by kernel_rfl, fun u hu => ?st14⟩) (fun _ => rfl) hS ?_
  case st14 => obtain ⟨s1, s2, s3⟩ := hu; go_simp; with_reducible rfl
  simp only [Act.put, List.setIfInBounds_toArray, List.set_cons_succ, List.set_cons_zero]
  refine OrdersS.take 15 ?vv15 rfl (by kernel_rfl) (by kernel_rfl) (by kernel_rfl) (fun _ _ _ h => h) (Or.inl ⟨by kernel_rfl, fun u hu => ?st15⟩) (fun _ => rfl) hS ?_
  case st15 => obtain ⟨s1, s2, s3⟩ := hu; go_simp; with_reducible rfl
  simp only [Act.put, List.setIfInBounds_toArray, List.set_cons_succ, List.set_cons_zero]
  refine OrdersS.take 16 ?vv16 rfl (by kernel_rfl) (by kernel_rfl) (by kernel_rfl) (fun _ _ _ h => h) (Or.inl ⟨by kernel_rfl, fun u hu => ?st16⟩) (fun _ => rfl) hS ?_
  case st16 => obtain ⟨s1, s2, s3⟩ := hu; go_simp; with_reducible rfl
  simp only [Act.put, List.setIfInBounds_toArray, List.set_cons_succ, List.set_cons_zero]
  refine OrdersS.take 17 ?vv17 rfl (by kernel_rfl) (by kernel_rfl) (by kernel_rfl) (fun _ _ _ h => h) (Or.inl ⟨by kernel_rfl, fun u hu => ?st17⟩) (fun _ => rfl) hS ?_
  case st17 => obtain ⟨s1, s2, s3⟩ := hu; go_simp; with_reducible rfl
  simp only [Act.put, List.setIfInBounds_toArray, List.set_cons_succ, List.set_cons_zero]
  refine OrdersS.take 18 ?vv18 rfl (by kernel_rfl) (by kernel_rfl) (by kernel_rfl) (fun _ _ _ h => h) (Or.inl ⟨by kernel_rfl, fun u hu => ?st18⟩) (fun _ => rfl) hS ?_
  case st18 => obtain ⟨s1, s2, s3⟩ := hu; go_simp; with_reducible rfl
  simp only [Act.put, List.setIfInBounds_toArray, List.set_cons_succ, List.set_cons_zero]
  refine OrdersS.take 19 ?vv19 rfl (by kernel_rfl) (by kernel_rfl) (by kernel_rfl) (fun _ _ _ h => h) (Or.inl ⟨by kernel_rfl, fun u hu => ?st19⟩) (fun _ => rfl) hS ?_
  case st19 => obtain ⟨s1, s2, s3⟩ := hu; go_simp; with_reducible rfl
  simp only [Act.put, List.setIfInBounds_toArray, List.set_cons_succ, List.set_cons_zero]
  refine OrdersS.take 20 ?vv20 rfl (by kernel_rfl) (by kernel_rfl) (by kernel_rfl) (fun _ _ _ h => h) (Or.inl ⟨by kernel_rfl, fun u hu => ?st20⟩) (fun _ => rfl) hS ?_
  case st20 => obtain ⟨s1, s2, s3⟩ := hu; go_simp; with_reducible rfl
  simp only [Act.put, List.setIfInBounds_toArray, List.set_cons_succ, List.set_cons_zero]
  refine OrdersS.take 21 ?vv21 rfl (by kernel_rfl) (by kernel_rfl) (by kernel_rfl) (fun _ _ _ h => h) (Or.inl ⟨by kernel_rfl, fun u hu => ?st21⟩) (fun _ => rfl) hS ?_
  case st21 => obtain ⟨s1, s2, s3⟩ := hu; go_simp; with_reducible rfl
  simp only [Act.put, List.setIfInBounds_toArray, List.set_cons_succ, List.set_cons_zero]
  refine OrdersS.take 22 ?vv22 rfl (by kernel_rfl) (by kernel_rfl) (by kernel_rfl) (fun _ _ _ h => h) (Or.inl ⟨by kernel_rfl, fun u hu => ?st22⟩) (fun _ => rfl) hS ?_
  case st22 => obtain ⟨s1, s2, s3⟩ := hu; go_simp; with_reducible rfl
  simp only [Act.put, List.setIfInBounds_toArray, List.set_cons_succ, List.set_cons_zero]
  refine OrdersS.take 23 ?vv23 rfl (by kernel_rfl) (by kernel_rfl) (by kernel_rfl) (fun _ _ _ h => h) (Or.inl ⟨by kernel_rfl, fun u hu => ?st23⟩) (fun _ => rfl) hS ?_
  case st23 => obtain ⟨s1, s2, s3⟩ := hu; go_simp; with_reducible rfl
  simp only [Act.put, List.setIfInBounds_toArray, List.set_cons_succ, List.set_cons_zero]
  refine OrdersS.take 24 ?vv24 rfl (by kernel_rfl) (by kernel_rfl) (by kernel_rfl) (fun _ _ _ h => h) (Or.inl ⟨by kernel_rfl, fun u hu => ?st24⟩) (fun _ => rfl) hS ?_
  case st24 => obtain ⟨s1, s2, s3⟩ := hu; go_simp; with_reducible rfl
  simp only [Act.put, List.setIfInBounds_toArray, List.set_cons_succ, List.set_cons_zero]
  refine OrdersS.take 25 ?vv25 rfl (by kernel_rfl) (by kernel_rfl) (by kernel_rfl) (fun _ _ _ h => h) (Or.inl ⟨by kernel_rfl, fun u hu => ?st25⟩) (fun _ => rfl) hS ?_
  case st25 => obtain ⟨s1, s2, s3⟩ := hu; go_simp; with_reducible rfl
  simp only [Act.put, List.setIfInBounds_toArray, List.set_cons_succ, List.set_cons_zero]
  refine OrdersS.take 26 ?vv26 rfl (by kernel_rfl) (by kernel_rfl) (by kernel_rfl) (fun _ _ _ h => h) (Or.inl ⟨by kernel_rfl, fun u hu => ?st26⟩) (fun _ => rfl) hS ?_
  case st26 => obtain ⟨s1, s2, s3⟩ := hu; go_simp; with_reducible rfl
  simp only [Act.put, List.setIfInBounds_toArray, List.set_cons_succ, List.set_cons_zero]
  refine OrdersS.take 27 ?vv27 rfl (by kernel_rfl) (by kernel_rfl) (by kernel_rfl) (fun _ _ _ h => h) (Or.inl ⟨by kernel_rfl, fun u hu => ?st27⟩) (fun _ => rfl) hS ?_
  case st27 => obtain ⟨s1, s2, s3⟩ := hu; go_simp; with_reducible rfl
  simp only [Act.put, List.setIfInBounds_toArray, List.set_cons_succ, List.set_cons_zero]
  refine OrdersS.one 28 (by kernel_rfl) rfl (by kernel_rfl) (fun K2 hK2 => ?_)
  go_simp
  refine hR2.mono ?_
  rintro e W4 ⟨rfl, hJ4, hk4⟩
  have hq4 := hq3.eqb hk4.1
  have hS : Sq b Bx f n W4 := ⟨(World.cell?_of_block (w := W3) (a := ⟨Bx, 0, none⟩) hk4.2).trans hS.1, hq4.f, hq4.n⟩
  refine hK2 _ _ hS ?_
  refine OrdersS.take 29 ?vv29 rfl (by kernel_rfl) (by kernel_rfl) (by kernel_rfl) (fun _ _ _ h => h) (Or.inl ⟨by kernel_rfl, fun u hu => ?st29⟩) (fun _ => rfl) hS ?_
  case st29 => obtain ⟨s1, s2, s3⟩ := hu; go_simp; with_reducible rfl
  simp only [Act.put, List.setIfInBounds_toArray, List.set_cons_succ, List.set_cons_zero]
  refine OrdersS.done (by kernel_rfl) ?_
  go_end0
  exact ⟨⟨_, rfl⟩, hJ4⟩

set_option maxRecDepth 100000 in
set_option maxHeartbeats 4000000 in
theorem rows1_b (k : Nat) (hk : 1 ≤ k) (l b Bx : Nat) (r : List Int) (f n m : Nat) (J : List Bool → World → Prop)
    (hY : ∀ pre x W, J pre W → YieldAt Fence.wide (k - 1) Try.prog l (rowEnc b f n m x) W fun e W' => e = .returned (.bool true) ∧ J (pre ++ [x]) W' ∧ Kpq b Bx W W')
    (hJd : ∀ pre W j, J pre W → J pre (W.drewN j))
    (W : World) (hBn : W.cell? ⟨Bx, 0, none⟩ = some (.pointer (some ⟨b, 0, none⟩))) (h : QAt W b r f n m) (hc : ¬ f + n ≤ m) (h0 : J [] W) :
    CallsIn Fence.wide k Try.prog 59 #[.func (.yield l) #[] #[], .pointer (some ⟨Bx, 0, none⟩)] W fun e W' => (∃ v, e = .returned v) ∧ J [false, true] W' := by
  have h1 := h.n
  have h2 := h.f
  have h3 := h.m1
  have h4 := h.m16
  have h5 := h.fm
  have h6 := h.m
  have h7 := h.nm
  refine callsIn_of_wp Try.func59 rfl trivial ?_ rfl
  simp only [Try.ntmps59, List.size_toArray, List.length_cons, List.length_nil, Nat.reduceAdd, Nat.reduceSub, Array.replicate_succ, Array.replicate_zero, List.push_toArray, List.append_toArray, List.nil_append, List.cons_append]
  have hmin : min (f + n) m = m := Nat.min_eq_right (by omega)
  gi_wp2
  gi_quiet (fail)
  gi_wp2
  have hsl := fun w => run_sliceAt_ring w b f m (m : Int) (by omega) (by omega) (by omega) (by omega)
  have hsl2 := fun w => run_sliceAt_ring0 w b (f + n - m) (IntKind.i64.wrap (IntKind.i64.wrap ((f : Int) + n) - (m : Int))) (by rw [IntKind.wrap_i64, IntKind.wrap_i64]; omega) (by omega)
  have hS : Sq b Bx f n (W.drewN (nq + 1)) := ⟨hBn, h2, h1⟩
  obtain ⟨fn, tmps, assign, body, hy, hR⟩ := hY [] false (W.drewN (nq + 1)) (hJd _ _ _ h0)
  have HY := Lib.hid hY
  clear hY h1 h2 h6 hBn
  simp only [rowEnc, rowLen, rowOff, hmin] at hy
  refine wpIn_regionS (Sq b Bx f n) (by kernel_rfl) ?_
  refine OrdersS.take 0 ?vv0 rfl (by kernel_rfl) (by kernel_rfl) (by kernel_rfl) (fun _ _ _ h => h) (Or.inl ⟨by kernel_rfl, fun u hu => ?st0⟩) (fun _ => rfl) hS ?_
  case st0 => obtain ⟨s1, s2, s3⟩ := hu; go_simp; with_reducible rfl
  simp only [Act.put, List.setIfInBounds_toArray, List.set_cons_succ, List.set_cons_zero]
  refine OrdersS.take 1 ?vv1 rfl (by kernel_rfl) (by kernel_rfl) (by kernel_rfl) (fun _ _ _ h => h) (Or.inl ⟨by kernel_rfl, fun u hu => ?st1⟩) (fun _ => rfl) hS ?_
  case st1 => obtain ⟨s1, s2, s3⟩ := hu; go_simp; with_reducible rfl
  simp only [Act.put, List.setIfInBounds_toArray, List.set_cons_succ, List.set_cons_zero]
  refine OrdersS.take 2 ?vv2 rfl (by kernel_rfl) (by kernel_rfl) (by kernel_rfl) (fun _ _ _ h => h) (Or.inl ⟨by kernel_rfl, fun u hu => ?st2⟩) (fun _ => rfl) hS ?_
  case st2 => obtain ⟨s1, s2, s3⟩ := hu; go_simp; with_reducible rfl
  simp only [Act.put, List.setIfInBounds_toArray, List.set_cons_succ, List.set_cons_zero]
  refine OrdersS.take 3 ?vv3 rfl (by kernel_rfl) (by kernel_rfl) (by kernel_rfl) (fun _ _ _ h => h) (Or.inl ⟨by kernel_rfl, fun u hu => ?st3⟩) (fun _ => rfl) hS ?_
  case st3 => obtain ⟨s1, s2, s3⟩ := hu; go_simp; with_reducible rfl
  simp only [Act.put, List.setIfInBounds_toArray, List.set_cons_succ, List.set_cons_zero]
  refine OrdersS.take 4 ?vv4 rfl (by kernel_rfl) (by kernel_rfl) (by kernel_rfl) (fun _ _ _ h => h) (Or.inl ⟨by kernel_rfl, fun u hu => ?st4⟩) (fun _ => rfl) hS ?_
  case st4 => obtain ⟨s1, s2, s3⟩ := hu; go_simp; with_reducible rfl
  simp only [Act.put, List.setIfInBounds_toArray, List.set_cons_succ, List.set_cons_zero]
  refine OrdersS.take 5 ?vv5 rfl (by kernel_rfl) (by kernel_rfl) (by kernel_rfl) (fun _ _ _ h => h) (Or.inl ⟨by kernel_rfl, fun u hu => ?st5⟩) (fun _ => rfl) hS ?_
  case st5 => obtain ⟨s1, s2, s3⟩ := hu; go_simp; with_reducible rfl
  simp only [Act.put, List.setIfInBounds_toArray, List.set_cons_succ, List.set_cons_zero]
  refine OrdersS.take 6 ?vv6 rfl (by kernel_rfl) (by kernel_rfl) (by kernel_rfl) (fun _ _ _ h => h) (Or.inl ⟨by kernel_rfl, fun u hu => ?st6⟩) (fun _ => rfl) hS ?_
  case st6 => obtain ⟨s1, s2, s3⟩ := hu; go_simp; with_reducible rfl
  simp only [Act.put, List.setIfInBounds_toArray, List.set_cons_succ, List.set_cons_zero]
  refine OrdersS.take 7 ?vv7 rfl (by kernel_rfl) (by kernel_rfl) (by kernel_rfl) (fun _ _ _ h => h) (Or.inl ⟨by kernel_rfl, fun u hu => ?st7⟩) (fun _ => rfl) hS ?_
  case st7 => obtain ⟨s1, s2, s3⟩ := hu; go_simp; with_reducible rfl
  simp only [Act.put, List.setIfInBounds_toArray, List.set_cons_succ, List.set_cons_zero]
  refine OrdersS.take 8 ?vv8 rfl (by kernel_rfl) (by kernel_rfl) (by kernel_rfl) (fun _ _ _ h => h) (Or.inl ⟨by kernel_rfl, fun u hu => ?st8⟩) (fun _ => rfl) hS ?_
  case st8 => obtain ⟨s1, s2, s3⟩ := hu; go_simp; with_reducible rfl
  simp only [Act.put, List.setIfInBounds_toArray, List.set_cons_succ, List.set_cons_zero]
  refine OrdersS.take 9 ?vv9 rfl (by kernel_rfl) (by kernel_rfl) (by kernel_rfl) (fun _ _ _ h => h) (Or.inl ⟨by kernel_rfl, fun u hu => ?st9⟩) (fun _ => rfl) hS ?_
  case st9 => obtain ⟨s1, s2, s3⟩ := hu; go_simp; with_reducible rfl
  simp only [Act.put, List.setIfInBounds_toArray, List.set_cons_succ, List.set_cons_zero]
  refine OrdersS.one 10 (by kernel_rfl) rfl (by kernel_rfl) (fun K hK => ?_)
  go_simp
  refine hR.mono ?_
  rintro e W3 ⟨rfl, hJ3, hk3⟩
  have hq3 := (h.drewN (nq + 1)).eqb hk3.1
  have hS : Sq b Bx f n W3 := ⟨(World.cell?_of_block (w := W.drewN (nq + 1)) (a := ⟨Bx, 0, none⟩) hk3.2).trans hS.1, hq3.f, hq3.n⟩
  obtain ⟨fn2, tmps2, assign2, body2, hy2, hR2⟩ := HY.out [false] true W3 hJ3
  simp only [rowEnc, rowLen, rowOff, hmin, Nat.sub_self, Nat.sub_zero] at hy2
  refine hK _ _ hS ?_
  refine OrdersS.take 11 ?vv11 rfl (by kernel_rfl) (by kernel_rfl) (by kernel_rfl) (fun _ _ _ h => h) (Or.inl ⟨by kernel_rfl, fun u hu => ?st11⟩) (fun _ => rfl) hS ?_
  case st11 => obtain ⟨s1, s2, s3⟩ := hu; go_simp; with_reducible rfl
  simp only [Act.put, List.setIfInBounds_toArray, List.set_cons_succ, List.set_cons_zero]
  refine OrdersS.take 12 ?vv12 rfl (by kernel_rfl) (by kernel_rfl) (by kernel_rfl) (fun _ _ _ h => h) (Or.inl ⟨by kernel_rfl, fun u hu => ?st12⟩) (fun _ => rfl) hS ?_
  case st12 => obtain ⟨s1, s2, s3⟩ := hu; go_simp; with_reducible rfl
  simp only [Act.put, List.setIfInBounds_toArray, List.set_cons_succ, List.set_cons_zero]
  refine OrdersS.take 13 ?vv13 rfl (by kernel_rfl) (by kernel_rfl) (by kernel_rfl) (fun _ _ _ h => h) (Or.inl ⟨by kernel_rfl, fun u hu => ?st13⟩) (fun _ => rfl) hS ?_
  case st13 => obtain ⟨s1, s2, s3⟩ := hu; go_simp; with_reducible rfl
  simp only [Act.put, List.setIfInBounds_toArray, List.set_cons_succ, List.set_cons_zero]
  refine OrdersS.take 14 ?vv14 rfl (by kernel_rfl) (by kernel_rfl) (by kernel_rfl) (fun _ _ _ h => h) (Or.inl ⟨by kernel_rfl, fun u hu => ?st14⟩) (fun _ => rfl) hS ?_
  case st14 => obtain ⟨s1, s2, s3⟩ := hu; go_simp; with_reducible rfl
  simp only [Act.put, List.setIfInBounds_toArray, List.set_cons_succ, List.set_cons_zero]
  refine OrdersS.take 15 ?vv15 rfl (by kernel_rfl) (by kernel_rfl) (by kernel_rfl) (fun _ _ _ h => h) (Or.inl ⟨by kernel_rfl, fun u hu => ?st15⟩) (fun _ => rfl) hS ?_
  case st15 => obtain ⟨s1, s2, s3⟩ := hu; go_simp; with_reducible rfl
  simp only [Act.put, List.setIfInBounds_toArray, List.set_cons_succ, List.set_cons_zero]
  refine OrdersS.take 16 ?vv16 rfl (by kernel_rfl) (by kernel_rfl) (by kernel_rfl) (fun _ _ _ h => h) (Or.inl ⟨by kernel_rfl, fun u hu => ?st16⟩) (fun _ => rfl) hS ?_
  case st16 => obtain ⟨s1, s2, s3⟩ := hu; go_simp; with_reducible rfl
  simp only [Act.put, List.setIfInBounds_toArray, List.set_cons_succ, List.set_cons_zero]
  refine OrdersS.take 17 ?vv17 rfl (by kernel_rfl) (by kernel_rfl) (by kernel_rfl) (fun _ _ _ h => h) (Or.inl ⟨by kernel_rfl, fun u hu => ?st17⟩) (fun _ => rfl) hS ?_
  case st17 => obtain ⟨s1, s2, s3⟩ := hu; go_simp; with_reducible rfl
  simp only [Act.put, List.setIfInBounds_toArray, List.set_cons_succ, List.set_cons_zero]
  refine OrdersS.take 18 ?vv18 rfl (by kernel_rfl) (by kernel_rfl) (by kernel_rfl) (fun _ _ _ h => h) (Or.inl ⟨by kernel_rfl, fun u hu => ?st18⟩) (fun _ => rfl) hS ?_
  case st18 => obtain ⟨s1, s2, s3⟩ := hu; go_simp; with_reducible rfl
  simp only [Act.put, List.setIfInBounds_toArray, List.set_cons_succ, List.set_cons_zero]
  refine OrdersS.take 19 ?vv19 rfl (by kernel_rfl) (by kernel_rfl) (by kernel_rfl) (fun _ _ _ h => h) (Or.inl ⟨by kernel_rfl, fun u hu => ?st19⟩) (fun _ => rfl) hS ?_
  case st19 => obtain ⟨s1, s2, s3⟩ := hu; go_simp; with_reducible rfl
  simp only [Act.put, List.setIfInBounds_toArray, List.set_cons_succ, List.set_cons_zero]
  refine OrdersS.take 20 ?vv20 rfl (by kernel_rfl) (by kernel_rfl) (by kernel_rfl) (fun _ _ _ h => h) (Or.inl ⟨by kernel_rfl, fun u hu => ?st20⟩) (fun _ => rfl) hS ?_
  case st20 => obtain ⟨s1, s2, s3⟩ := hu; go_simp; with_reducible rfl
  simp only [Act.put, List.setIfInBounds_toArray, List.set_cons_succ, List.set_cons_zero]
  refine OrdersS.take 21 ?vv21 rfl (by kernel_rfl) (by kernel_rfl) (by kernel_rfl) (fun _ _ _ h => h) (Or.inl ⟨by kernel_rfl, fun u hu => ?st21⟩) (fun _ => rfl) hS ?_
  case st21 => obtain ⟨s1, s2, s3⟩ := hu; go_simp; with_reducible rfl
  simp only [Act.put, List.setIfInBounds_toArray, List.set_cons_succ, List.set_cons_zero]
  refine OrdersS.take 22 ?vv22 rfl (by kernel_rfl) (by kernel_rfl) (by kernel_rfl) (fun _ _ _ h => h) (Or.inl ⟨by kernel_rfl, fun u hu => ?st22⟩) (fun _ => rfl) hS ?_
  case st22 => obtain ⟨s1, s2, s3⟩ := hu; go_simp; with_reducible rfl
  simp only [Act.put, List.setIfInBounds_toArray, List.set_cons_succ, List.set_cons_zero]
  refine OrdersS.take 23 ?vv23 rfl (by kernel_rfl) (by kernel_rfl) (by kernel_rfl) (fun _ _ _ h => h) (Or.inl ⟨by kernel_rfl, fun u hu => ?st23⟩) (fun _ => rfl) hS ?_
  case st23 => obtain ⟨s1, s2, s3⟩ := hu; go_simp; with_reducible rfl
  simp only [Act.put, List.setIfInBounds_toArray, List.set_cons_succ, List.set_cons_zero]
  refine OrdersS.take 24 ?vv24 rfl (by kernel_rfl) (by kernel_rfl) (by kernel_rfl) (fun _ _ _ h => h) (Or.inl ⟨by kernel_rfl, fun u hu => ?st24⟩) (fun _ => rfl) hS ?_
  case st24 => obtain ⟨s1, s2, s3⟩ := hu; go_simp; with_reducible rfl
  simp only [Act.put, List.setIfInBounds_toArray, List.set_cons_succ, List.set_cons_zero]
  refine OrdersS.take 25 ?vv25 rfl (by kernel_rfl) (by kernel_rfl) (by kernel_rfl) (fun _ _ _ h => h) (Or.inl ⟨by kernel_rfl, fun u hu => ?st25⟩) (fun _ => rfl) hS ?_
  case st25 => obtain ⟨s1, s2, s3⟩ := hu; go_simp; with_reducible rfl
  simp only [Act.put, List.setIfInBounds_toArray, List.set_cons_succ, List.set_cons_zero]
  refine OrdersS.take 26 ?vv26 rfl (by kernel_rfl) (by kernel_rfl) (by kernel_rfl) (fun _ _ _ h => h) (Or.inl ⟨by kernel_rfl, fun u hu => ?st26⟩) (fun _ => rfl) hS ?_
  case st26 => obtain ⟨s1, s2, s3⟩ := hu; go_simp; with_reducible rfl
  simp only [Act.put, List.setIfInBounds_toArray, List.set_cons_succ, List.set_cons_zero]
  refine OrdersS.take 27 ?vv27 rfl (by kernel_rfl) (by kernel_rfl) (by kernel_rfl) (fun _ _ _ h => h) (Or.inl ⟨by kernel_rfl, fun u hu => ?st27⟩) (fun _ => rfl) hS ?_
  case st27 => obtain ⟨s1, s2, s3⟩ := hu; go_simp; with_reducible rfl
  simp only [Act.put, List.setIfInBounds_toArray, List.set_cons_succ, List.set_cons_zero]
  refine OrdersS.one 28 (by kernel_rfl) rfl (by kernel_rfl) (fun K2 hK2 => ?_)
  go_simp
  refine hR2.mono ?_
  rintro e W4 ⟨rfl, hJ4, hk4⟩
  have hq4 := hq3.eqb hk4.1
  have hS : Sq b Bx f n W4 := ⟨(World.cell?_of_block (w := W3) (a := ⟨Bx, 0, none⟩) hk4.2).trans hS.1, hq4.f, hq4.n⟩
  refine hK2 _ _ hS ?_
  refine OrdersS.take 29 ?vv29 rfl (by kernel_rfl) (by kernel_rfl) (by kernel_rfl) (fun _ _ _ h => h) (Or.inl ⟨by kernel_rfl, fun u hu => ?st29⟩) (fun _ => rfl) hS ?_
  case st29 => obtain ⟨s1, s2, s3⟩ := hu; go_simp; with_reducible rfl
  simp only [Act.put, List.setIfInBounds_toArray, List.set_cons_succ, List.set_cons_zero]
  refine OrdersS.done (by kernel_rfl) ?_
  go_end0
  exact ⟨⟨_, rfl⟩, hJ4⟩

theorem rowsSaid : RowsSaid := fun k hk l b Bx r f n m J hY hJd W hBn h h0 => by
  by_cases hc : f + n ≤ m
  · exact rows1_a k hk l b Bx r f n m J hY hJd W hBn h hc h0
  · exact rows1_b k hk l b Bx r f n m J hY hJd W hBn h hc h0
#print axioms rowsSaid
end Go.Proofs.Ytjnekmdocbmofaa
