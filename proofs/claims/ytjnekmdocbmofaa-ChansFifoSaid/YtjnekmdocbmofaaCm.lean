/- The examples of channels, walked. -/
import Derived.Test.YtjnekmdocbmofaaCl
namespace Go.Proofs.Ytjnekmdocbmofaa
set_option linter.unusedSimpArgs false
set_option linter.unusedVariables false
open Go.RowKit Go.Shelf

set_option maxRecDepth 100000 in
set_option maxHeartbeats 4000000 in
theorem works21 (w : World) : Calls Try.prog 23 #[] w fun e w' => e = .returned (.bool true) ∧ Below w.heap.size w w' := by
  go_enter Try.func23, Try.ntmps23
  go_wp2_with fail
  refine (chNew_ok 2 2 w (by omega) (by omega) (by omega) (by omega)).mono ?_
  rintro e w1 ⟨rfl, h1, t⟩
  have b1 : Below w.heap.size w w1 := below_turn_n (Below.refl _ _) t (Nat.le_refl _)
  have h1 : TabIs w1 (w.heap.size + 1) w.heap.size 2 2 [none, none] := h1
  clear t
  go_wp2_with fail
  refine (make_any h1 (show makeT [none, none] w1.heap.size = (0, 0, [some ⟨w1.heap.size, true, true, [], []⟩, none]) from rfl)).mono ?_
  rintro e w2 ⟨rfl, h2, t⟩
  have b2 := below_turn_t b1 h1 t (Nat.le_refl _)
  clear t h1 b1
  generalize w1.heap.size = q0 at h2
  go_wp2_with fail
  refine (make_any h2 (show makeT [some ⟨q0, true, true, [], []⟩, none] w2.heap.size = (1, 0, [some ⟨q0, true, true, [], []⟩, some ⟨w2.heap.size, true, true, [], []⟩]) from rfl)).mono ?_
  rintro e w3 ⟨rfl, h3, t⟩
  have b3 := below_turn_t b2 h2 t (Nat.le_refl _)
  clear t h2 b2
  generalize w2.heap.size = q1 at h3
  go_wp2_with fail
  refine (make_any h3 (show makeT [some ⟨q0, true, true, [], []⟩, some ⟨q1, true, true, [], []⟩] w3.heap.size = (-1, 22, [some ⟨q0, true, true, [], []⟩, some ⟨q1, true, true, [], []⟩]) from rfl)).mono ?_
  rintro e w4 ⟨rfl, h4, t⟩
  have b4 := below_turn_t b3 h3 t (Nat.le_refl _)
  clear t h3 b3
  go_wp2_with fail
  refine (put_any h4 (show putT [some ⟨q0, true, true, [], []⟩, some ⟨q1, true, true, [], []⟩] 2 0 5 = (0, [some ⟨q0, true, true, [5], []⟩, some ⟨q1, true, true, [], []⟩]) from rfl)).mono ?_
  rintro e w5 ⟨rfl, h5, t⟩
  have b5 := below_turn_t b4 h4 t (Nat.le_refl _)
  clear t h4 b4
  go_wp2_with fail
  refine (put_any h5 (show putT [some ⟨q0, true, true, [5], []⟩, some ⟨q1, true, true, [], []⟩] 2 0 6 = (0, [some ⟨q0, true, true, [5, 6], []⟩, some ⟨q1, true, true, [], []⟩]) from rfl)).mono ?_
  rintro e w6 ⟨rfl, h6, t⟩
  have b6 := below_turn_t b5 h5 t (Nat.le_refl _)
  clear t h5 b5
  go_wp2_with fail
  refine (put_any h6 (show putT [some ⟨q0, true, true, [5, 6], []⟩, some ⟨q1, true, true, [], []⟩] 2 0 7 = (22, [some ⟨q0, true, true, [5, 6], []⟩, some ⟨q1, true, true, [], []⟩]) from rfl)).mono ?_
  rintro e w7 ⟨rfl, h7, t⟩
  have b7 := below_turn_t b6 h6 t (Nat.le_refl _)
  clear t h6 b6
  go_wp2_with fail
  refine (take_any h7 (show takeT [some ⟨q0, true, true, [5, 6], []⟩, some ⟨q1, true, true, [], []⟩] 1 = (5, 0, [some ⟨q0, true, true, [6], []⟩, some ⟨q1, true, true, [], []⟩]) from rfl)).mono ?_
  rintro e w8 ⟨rfl, h8, t⟩
  have b8 := below_turn_t b7 h7 t (Nat.le_refl _)
  clear t h7 b7
  go_wp2_with fail
  refine (take_any h8 (show takeT [some ⟨q0, true, true, [6], []⟩, some ⟨q1, true, true, [], []⟩] 0 = (0, 23, [some ⟨q0, true, true, [6], []⟩, some ⟨q1, true, true, [], []⟩]) from rfl)).mono ?_
  rintro e w9 ⟨rfl, h9, t⟩
  have b9 := below_turn_t b8 h8 t (Nat.le_refl _)
  clear t h8 b8
  go_wp2_with fail
  refine (close_any h9 (show closeT [some ⟨q0, true, true, [6], []⟩, some ⟨q1, true, true, [], []⟩] 0 = (0, [some ⟨q0, false, true, [6], []⟩, some ⟨q1, true, true, [], []⟩]) from rfl)).mono ?_
  rintro e w10 ⟨rfl, h10, t⟩
  have b10 := below_turn_t b9 h9 t (Nat.le_refl _)
  clear t h9 b9
  go_wp2_with fail
  refine (put_any h10 (show putT [some ⟨q0, false, true, [6], []⟩, some ⟨q1, true, true, [], []⟩] 2 0 1 = (24, [some ⟨q0, false, true, [6], []⟩, some ⟨q1, true, true, [], []⟩]) from rfl)).mono ?_
  rintro e w11 ⟨rfl, h11, t⟩
  have b11 := below_turn_t b10 h10 t (Nat.le_refl _)
  clear t h10 b10
  go_wp2_with fail
  refine (take_any h11 (show takeT [some ⟨q0, false, true, [6], []⟩, some ⟨q1, true, true, [], []⟩] 1 = (6, 0, [some ⟨q0, false, true, [], []⟩, some ⟨q1, true, true, [], []⟩]) from rfl)).mono ?_
  rintro e w12 ⟨rfl, h12, t⟩
  have b12 := below_turn_t b11 h11 t (Nat.le_refl _)
  clear t h11 b11
  go_wp2_with fail
  refine (put_any h12 (show putT [some ⟨q0, false, true, [], []⟩, some ⟨q1, true, true, [], []⟩] 2 1 9 = (0, [some ⟨q0, false, true, [], [9]⟩, some ⟨q1, true, true, [], []⟩]) from rfl)).mono ?_
  rintro e w13 ⟨rfl, h13, t⟩
  have b13 := below_turn_t b12 h12 t (Nat.le_refl _)
  clear t h12 b12
  go_wp2_with fail
  refine (live_any h13).mono ?_
  rintro e w' ⟨rfl, rfl⟩
  rw [show ((liveA [some ⟨q0, false, true, [], [9]⟩, some ⟨q1, true, true, [], []⟩] : Nat) : Int) = 2 from rfl]
  go_wp2_with fail
  refine (close_any h13 (show closeT [some ⟨q0, false, true, [], [9]⟩, some ⟨q1, true, true, [], []⟩] 1 = (0, [none, some ⟨q1, true, true, [], []⟩]) from rfl)).mono ?_
  rintro e w14 ⟨rfl, h14, t⟩
  have b14 := below_turn_t b13 h13 t (Nat.le_refl _)
  clear t h13 b13
  go_wp2_with fail
  refine (live_any h14).mono ?_
  rintro e w' ⟨rfl, rfl⟩
  rw [show ((liveA [none, some ⟨q1, true, true, [], []⟩] : Nat) : Int) = 1 from rfl]
  go_wp2_with fail
  refine (make_any h14 (show makeT [none, some ⟨q1, true, true, [], []⟩] w14.heap.size = (0, 0, [some ⟨w14.heap.size, true, true, [], []⟩, some ⟨q1, true, true, [], []⟩]) from rfl)).mono ?_
  rintro e w15 ⟨rfl, h15, t⟩
  have b15 := below_turn_t b14 h14 t (Nat.le_refl _)
  clear t h14 b14
  generalize w14.heap.size = q2 at h15
  go_wp2_with fail
  refine (take_any h15 (show takeT [some ⟨q2, true, true, [], []⟩, some ⟨q1, true, true, [], []⟩] 4 = (0, 24, [some ⟨q2, true, true, [], []⟩, some ⟨q1, true, true, [], []⟩]) from rfl)).mono ?_
  rintro e w16 ⟨rfl, h16, t⟩
  have b16 := below_turn_t b15 h15 t (Nat.le_refl _)
  clear t h15 b15
  go_wp2_with fail
  refine (waiting_any h16 1).mono ?_
  rintro e w17 ⟨⟨v, nb, rfl, nv, _⟩, t⟩
  rw [show waitA [some ⟨q2, true, true, [], []⟩, some ⟨q1, true, true, [], []⟩] 1 = [] from rfl] at nv
  have b17 := below_turn_n b16 t (Nat.le_refl _)
  obtain ⟨a7, c7, rfl⟩ : ∃ a c, v = .slice a 0 c := by
    rcases nv with ⟨_, rfl⟩ | ⟨⟨h0, rfl⟩, _⟩
    · exact ⟨_, _, rfl⟩
    · exact absurd rfl h0
  clear t nv h16
  go_wp2_with fail
  go_ret
  exact ⟨rfl, b17⟩
end Go.Proofs.Ytjnekmdocbmofaa
