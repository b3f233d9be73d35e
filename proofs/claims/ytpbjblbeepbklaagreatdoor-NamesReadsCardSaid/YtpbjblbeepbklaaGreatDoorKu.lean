/- The frame of a law: true is handed back, what was there has not turned. What a row's condition gives the walks; a world that meets it; the row's wrap. Arguments that came in: a slice of bytes, an array of three of them, an act. -/
import Derived.Test.YtpbjblbeepbklaaGreatDoorRows
import Derived.WalkKit
import Derived.ProofKit
import Derived.OpenShut
import Derived.Carry
import Derived.Test.YtpbjblbeepbklaaGreatDoorKd
import Derived.Lay
import Derived.LaidHandle
import Derived.LaidLaws
import Derived.LaidMore
import Derived.Shelf.Vars
import Derived.Lib.LaidTab
import Derived.Stop.Joined
import Derived.JoinedOf
import Derived.SizedLaws
import Derived.Test.YtpbjblbeepbklaaGreatDoorKq
import Derived.Test.YtpbjblbeepbklaaGreatDoorKs
namespace Go.Proofs.YtpbjblbeepbklaaGreatDoor
set_option linter.unusedSimpArgs false
set_option linter.unusedVariables false
section
open Go.ChangeShapes Go.WideShapes Go.ChangeAt Go.RowKit

/-- Behind a call that has left below the heap's old size all as it was, and hands back no place: the post, the arguments read as they did. -/
theorem post_of_below {H : Type} {enc : TypeId × Value → H} {P : Program} {f : Func} {s : ChangeSpec} {apart fresh handsOn again : Bool} {W W' : World} {args : Array Value} {v : Value} {ds gs : List (DataW H)} {before pa pv : List MemPlace}
    (hW : DataW.Whole enc P f.params.toList s.vars apart W args.toList ds gs before)
    (hres : ∀ (b : Nat) (sp : Nat → Bool) (hd : Bool), DataW.TrodAll enc P W' b sp hd f.resultTypes.toList (v.resultList f.resultTypes.size) (s.fn H (ds ++ gs)).results [])
    (hargs : ∀ sp : Nat → Bool, (∀ p ∈ before, sp p.block = true) → DataW.TrodAll enc P W' 0 sp true f.params.toList args.toList (s.fn H (ds ++ gs)).args pa)
    (hvars : ∀ sp : Nat → Bool, (∀ p ∈ before, sp p.block = true) → DataW.TrodVars enc P W' sp s.vars (s.fn H (ds ++ gs)).vars pv)
    (hps : before = pa ++ pv) (hb : Below W.heap.size W W')
    (hok : ∀ (j : Nat) (t : TypeId) (r : Value), f.resultTypes[j]? = some t → (v.resultList f.resultTypes.size)[j]? = some r → Value.okWide P W' .any 0 t r) :
    s.post enc P f apart fresh handsOn again W args v W' := by
  have hlt : ∀ p ∈ before, p.block < W.heap.size := fun p hp => by simpa using hW.lt p hp
  have hold : ∀ p ∈ before, (fun b => decide (b < W.heap.size)) p.block = true := fun p hp => by simpa using hlt p hp
  refine ⟨ds, gs, before, [], pa, pv, hW, hres _ _ _, hargs _ hold, hvars _ hold, World.keptBut_mono (fun p hp => ⟨hp, ?_⟩) (hb.frame (· ∈ before)), fun _ => ?_⟩
  · rw [hps, List.mem_append] at hp
    exact Or.inr hp
  · obtain ⟨_, _, _, _, _, hz, hn⟩ := hW
    refine ⟨hok, _, _, ([] ++ pa) ++ pv, ⟨[] ++ pa, pv, trodAll_append (hargs _ (fun _ _ => rfl)) (hres _ _ _), hvars _ (fun _ _ => rfl), rfl, ?_, ?_⟩, ?_⟩
    · intro b off hp
      have hp' : MemPlace.cell b off ∈ before := by rw [hps]; simpa using hp
      rw [hb.frozen (hlt _ hp')]
      exact hz b off hp'
    · intro ha
      have := hn ha
      rw [hps] at this
      simpa using this
    · intro p hp _
      rw [hps]
      simpa using hp
theorem own : ownKnob Tryz.prog.godebug = none := by kernel_rfl
theorem laidOut : laidOutB Tryz.prog = true := by kernel_rfl
end
section
set_option maxRecDepth 100000
open Go.ChangeShapes Go.WideShapes Go.ChangeAt Go.RowKit

theorem laid_tail {P : Program} {x : String × DataW Unit} {r : List (String × DataW Unit)} {W : World} (h : laidMet P (x :: r) W) : laidMet P r W := by
  obtain ⟨nm, d⟩ := x
  obtain ⟨ps, ⟨g, t, cs, fuel, p, q, hg, ht, hv, hd, hr, rfl⟩, hn, hc⟩ := h
  exact ⟨q, hr, (List.nodup_append.1 hn).2.1, fun b off hb => hc b off (List.mem_append_right _ hb)⟩
theorem pow_eq : Rows.laid_internal_strconv_uint64pow10 = (Lib.tabData .u64 Lib.pow10Tab : DataW Unit) := by kernel_rfl
theorem gPow : Tryz.prog.globalNamed "internal/strconv.uint64pow10" = some 1 := by kernel_rfl
theorem gSyn : Tryz.prog.globalNamed "strconv.ErrSyntax" = some 2 := by kernel_rfl
theorem gRng : Tryz.prog.globalNamed "strconv.ErrRange" = some 3 := by kernel_rfl
theorem tSyn : (Tryz.prog.globals[2]?).map (·.type) = some 85 := by kernel_rfl
theorem tRng : (Tryz.prog.globals[3]?).map (·.type) = some 85 := by kernel_rfl
theorem laid_split {W : World} (h : laidMetH Tryz.prog Rows.namesOrderRow.laid W) :
    laidMet Tryz.prog [("math/bits.deBruijn32tab", Rows.laid_math_bits_deBruijn32tab), ("math/bits.deBruijn64tab", Rows.laid_math_bits_deBruijn64tab), ("internal/strconv.uint64pow10", Rows.laid_internal_strconv_uint64pow10), ("unicode/utf8.acceptRanges", Rows.laid_unicode_utf8_acceptRanges), ("strconv.ErrRange", Rows.laid_strconv_ErrRange), ("strconv.ErrSyntax", Rows.laid_strconv_ErrSyntax), ("unicode/utf8.first", Rows.laid_unicode_utf8_first)] W := h
theorem var_iface {W : World} {nm : String} {g : Nat} {d : DataW Unit} {tn : String} {r : List (String × DataW Unit)} (hg : Tryz.prog.globalNamed nm = some g) (ht : (Tryz.prog.globals[g]?).map (·.type) = some 85)
    (h : laidMet Tryz.prog ((nm, .iface tn d) :: r) W) : ∃ te pe, W.cell? ⟨g, 0, none⟩ = some (.iface te pe) := by
  obtain ⟨ps, ⟨g', t, cs, fuel, p, q, hg', ht', hv, hd, hr, rfl⟩, hn, hc⟩ := h
  obtain rfl := Option.some.inj (hg.symm.trans hg')
  obtain rfl := Option.some.inj (ht.symm.trans ht')
  obtain ⟨_, u, v, hcs, _, _⟩ := iface_of_trod Tryz.underlying85 hd
  refine ⟨u, v, ?_⟩
  have := World.var?_cell hg hv 0
  rw [Array.eq_one_of_toList hcs] at this
  simpa using this
theorem Laid.of {W : World} (h : laidMetH Tryz.prog Rows.namesOrderRow.laid W) (hs : W.ShapedOpen Tryz.prog) : Laid W := by
  have h3 := laid_tail (laid_tail (laid_split h))
  have h5 := laid_tail (laid_tail h3)
  refine ⟨cell_of_shapedOpen_int (g := 0) (t := 3) (zero := #[.int .i64 0]) hs (of_decide_eq_true (by kernel_rfl)) (by kernel_rfl) rfl (by kernel_rfl) (by kernel_rfl) Tryz.underlying3, ?_, var_iface gSyn tSyn (laid_tail h5), var_iface gRng tRng h5⟩
  rw [pow_eq] at h3
  exact Lib.tabIs_of_head (t := 143) (e := 111) (n := 20) gPow (by kernel_rfl) (by kernel_rfl) (by kernel_rfl) (by kernel_rfl) (by kernel_rfl) h3
/-- A world that meets the condition. -/
noncomputable def handWorld (os : Os) : World := World.holding Tryz.prog os ⟨#[], #[], []⟩
noncomputable def plainLaid : List (String × DataW Unit) := Rows.namesOrderRow.laid
noncomputable def laidWorld (os : Os) : World := (handWorld os).layVars Tryz.prog plainLaid
theorem laidWorld_os (os : Os) : (laidWorld os).os = os := World.layVars_os _ _ _
theorem laid_fits (os : Os) : (handWorld os).layFits Tryz.prog plainLaid [] = true := by kernel_rfl
theorem laid_ifaces (os : Os) : (handWorld os).layIfaces Tryz.prog plainLaid (laidWorld os) = true := by kernel_rfl
theorem laidWorld_met (os : Os) (args : Array Value) : laidMetH Tryz.prog Rows.namesOrderRow.laid ((laidWorld os).forCall (fun _ _ => 0) ⟨#[], args, []⟩).memory := by
  have e1 : (plainLaid.filter fun x => (plainLaid.map (·.1)).contains x.1) = plainLaid := List.filter_eq_self.2 fun x hx => List.contains_iff_mem.2 (List.mem_map.2 ⟨x, hx, rfl⟩)
  have e2 : (plainLaid.filter fun x => !(plainLaid.map (·.1)).contains x.1) = [] := List.filter_eq_nil_iff.2 fun x hx => by rw [List.contains_iff_mem.2 (List.mem_map.2 ⟨x, hx, rfl⟩)]; simp
  have h : laidMet Tryz.prog plainLaid (laidWorld os) := laidMet_layVars (w0 := handWorld os) (plainLaid.map (·.1)) [] (by rw [e1]; rfl) (by rw [e1]; exact laid_fits os) (by rw [e1]; exact laid_ifaces os) (by rw [e2]; exact LaidIn.none)
  have hm : laidMetH Tryz.prog Rows.namesOrderRow.laid (laidWorld os) := h
  exact hm.of_heap (by simp [World.memory, World.forCall, Input.heap])
/-- The wrap of a row that lists variables, the world's shape kept. -/
theorem row_wrap {H : Type} {enc : TypeId × Value → H} {a : Assume} {C : Checked} {os : Os} {f : FuncId} {fn : Func} {s : ChangeSpec} {conds : List PathCond} {apart fresh handsOn again : Bool} {X : World → Array Value → Prop}
    (hX : ∀ (w w' : World) (args : Array Value), w.heap = w'.heap → X w args → X w' args)
    (ow : ownKnob C.prog.godebug = none) (started : os.Started) (noInit : C.prog.inits.idxOf? f = none) (hfn : C.prog.funcs[f]? = some fn)
    (witness : ∃ (w : World) (tape : Tape) (i : Input), w.os = os ∧ (w.forCall tape i).Shaped C.prog ∧ i.vars = [] ∧ Input.okWide C.prog (w.forCall tape i) .any w.heap.size f i ∧
      ((s.pre enc C.prog fn conds apart (w.forCall tape i).memory i.args ∧ X (w.forCall tape i).memory i.args) ∧ sizedMet enc C.prog fn (OpenSpec.ofChange s) apart (w.forCall tape i).memory i.args) ∧ a.holds C.prog (lone (Frame.enter C.prog f i.args .normal) [] (w.forCall tape i)))
    (contract : ∀ (W : World) (base : Nat) (args : Array Value) (ds gs : List (DataW H)) (before : List MemPlace),
      (∀ (j : Nat) t v, fn.params[j]? = some t → args[j]? = some v → Value.okWide C.prog W .any base t v) →
      DataW.Whole enc C.prog fn.params.toList s.vars apart W args.toList ds gs before →
      X W args → W.ShapedOpen C.prog →
      Calls C.prog f args W fun e W' => ∃ v, e = .returned v ∧ s.post enc C.prog fn apart fresh handsOn again W args v W') :
    ReturnsInHanded a C os f .any (fun w args => (s.pre enc C.prog fn conds apart w args ∧ X w args) ∧ sizedMet enc C.prog fn (OpenSpec.ofChange s) apart w args) (s.post enc C.prog fn apart fresh handsOn again) := by
  refine returnsInHanded_of_calls ow started noInit witness ?_
  intro w tape i _ hsh _ hok hpre hholds
  obtain ⟨_, _, _, fn', hfn', _, _, _, _, hval⟩ := hok
  have e : fn' = fn := Option.some.inj (hfn'.symm.trans hfn)
  subst e
  obtain ⟨⟨⟨ds, gs, before, hw, hc⟩, hx⟩, hz⟩ := hpre
  have hw' := DataW.Whole.of_heap (w' := w.forCall tape i) (by rfl) hw
  refine (contract (w.forCall tape i) w.heap.size i.args ds gs before hval hw' (hX _ _ _ (by rfl) hx) hsh).mono fun e W' ⟨v, he, hp⟩ => ?_
  subst he
  exact ChangeSpec.post_blind hp
end
section
open Go.ChangeShapes Go.WideShapes Go.ChangeAt Go.RowKit

theorem cellsOf5 : Tryz.prog.cellsOf 5 = 1 := by kernel_rfl
theorem cellsOf2 : Tryz.prog.cellsOf 2 = 1 := by kernel_rfl
theorem cellsOf22 : Tryz.prog.cellsOf 22 = 1 := by kernel_rfl
theorem cellsOf36 : Tryz.prog.cellsOf 36 = 8 := by kernel_rfl
theorem add_none (b o k : Nat) : (⟨b, o, none⟩ : Addr).add k = ⟨b, o + k, none⟩ := by unfold Addr.add; split <;> simp_all
theorem addr_none {W : World} {a : Addr} {v : Value} (h : W.cell? a = some v) : a.spot = none := by
  unfold World.cell? at h
  split at h
  · split at h
    · cases h
    · rename_i h2; cases hs : a.spot with
      | none => rfl
      | some x => rw [hs] at h2; simp at h2
  · cases h
theorem cells_one0 {W : World} {x : Addr} {cs : List Value} (h : W.cells? 0 x 1 = some cs) : ∃ c, cs = [c] ∧ W.cell? x = some c := by
  unfold World.cells? at h
  simp only [Nat.zero_le, if_true] at h
  have e : x.add 0 = x := by unfold Addr.add; simp
  cases k0 : W.cell? x with
  | none => simp [List.range, List.range.loop, e, k0] at h
  | some c0 =>
    simp [List.range, List.range.loop, e, k0] at h
    exact ⟨c0, h.symm, rfl⟩
set_option maxRecDepth 100000 in
theorem ByteSl.came {H : Type} {enc : TypeId × Value → H} {W : World} {fuel : Nat} {v : Value} {x : DataW H × List MemPlace}
    (hf : DataW.trod enc Tryz.prog W 0 (fun _ => true) true fuel 22 [v] = some x) : ∃ l, ByteSl W v l := by
  rcases DataW.trod_slice Tryz.underlying22 hf with ⟨hcs, hx⟩ | ⟨a, len, cap, elems, rest, n, _, hcs, _, hb, hl, hm, hlen, hel, _, _⟩
  · obtain rfl : v = .slice none 0 0 := List.head_eq_of_cons_eq hcs
    exact ⟨[], by simp, by simp, .inl ⟨rfl, rfl⟩⟩
  · obtain rfl : v = .slice (some a) len cap := List.head_eq_of_cons_eq hcs
    have key : ∀ i, i < len → ∃ z : Nat, z < 256 ∧ W.cell? (a.add i) = some (.int .u8 (z : Int)) := by
      intro i hi
      have he := hel i hi
      rw [List.getElem?_eq_getElem (by omega), cellsOf5, Nat.mul_one] at he
      obtain ⟨cs, h1, h2⟩ := Option.bind_eq_some_iff.1 he
      obtain ⟨c, rfl, hc⟩ := cells_one0 h1
      obtain ⟨z, e0, _, w0⟩ := DataW.trod_int Tryz.underlying5 h2
      obtain rfl : c = .int .u8 z := List.head_eq_of_cons_eq e0
      obtain ⟨x1, x2⟩ := bounds_u8 w0
      exact ⟨z.toNat, by omega, by rw [Int.toNat_of_nonneg x1]; exact hc⟩
    have hz : ∃ g : Nat → Nat, ∀ i, i < len → g i < 256 ∧ W.cell? (a.add i) = some (.int .u8 (g i : Int)) :=
      ⟨fun i => if h : i < len then (key i h).choose else 0, fun i hi => by simp only [hi, dif_pos]; exact (key i hi).choose_spec⟩
    obtain ⟨g, hg⟩ := hz
    by_cases h0 : len = 0
    · subst h0
      exact ⟨[], by simp, by simp, .inr (.inl ⟨a, cap, rfl, rfl⟩)⟩
    · have hs : a.spot = none := by
        have h := addr_none (hg 0 (by omega)).2
        simpa [Addr.add] using h
      obtain ⟨b, o, s⟩ := a
      simp only at hs
      subst hs
      refine ⟨(List.range len).map g, ?_, by simp; unfold maxLen at *; omega, .inr (.inr ⟨b, o, cap, by simp, by simpa using hl, fun i hi => ?_⟩)⟩
      · intro n hn
        obtain ⟨i, hi, rfl⟩ := List.mem_map.1 hn
        exact (hg i (List.mem_range.1 hi)).1
      · have hi' : i < len := by simpa using hi
        have hc := (hg i hi').2
        rw [add_none] at hc
        simp [hi', hc]
theorem okWide_arr {P : Program} {w : World} {r : Reach} {base : Nat} {t e : TypeId} {n : Nat} {v : Value} (ht : P.underlying t = some (.array e n)) (h : Value.okWide P w r base t v) : ∃ cs, v = .agg cs ∧ cs.size = P.cellsOf t := by
  simp only [Value.okWide, ht] at h
  obtain ⟨cs, h1, h2, _⟩ := h
  exact ⟨cs, h1, h2⟩
set_option maxRecDepth 100000 in
/-- An act that came in. -/
theorem act_came {H : Type} {enc : TypeId × Value → H} {W : World} {base : Nat} {v : Value} {d : DataW H} {ps : List MemPlace}
    (hv : Value.okWide Tryz.prog W .any base 36 v) (h : DataW.Trod enc Tryz.prog W 0 (fun _ => true) true 36 v d ps) :
    ∃ (x : ActD) (va vc vn : Value), v = .agg #[.int .u8 (x.kind : Int), va, vc, vn, .int .u8 (x.side : Int), .int .u8 (x.tag : Int), .int .i64 x.word, .int .u8 (x.odd : Int)] ∧ ActOk x ∧ ByteSl W va x.actor ∧ ByteSl W vc x.chan ∧ ByteSl W vn x.name := by
  obtain ⟨⟨L⟩, rfl, hsz⟩ := okWide_struct Tryz.underlying36 hv
  obtain ⟨fuel, hf⟩ := h
  rw [cellsOf36] at hsz
  have hL : L.length = 8 := by simpa using hsz
  match L, hL with
  | [c0, c1, c2, c3, c4, c5, c6, c7], _ =>
    replace hf : DataW.trod enc Tryz.prog W 0 (fun _ => true) true fuel 36 [c0, c1, c2, c3, c4, c5, c6, c7] = some (d, ps) := hf
    obtain ⟨xs, n, _, _, hl, hlen, hfld⟩ := DataW.trod_struct Tryz.underlying36 hf
    match xs, hlen with
    | [y0, y1, y2, y3, y4, y5, y6, y7], _ =>
      have g0 : DataW.trod enc Tryz.prog W 0 (fun _ => true) true n 5 [c0] = some y0 := by simpa [cellsOf5, cellsOf22, cellsOf2] using hfld 0 _ rfl
      have g1 : DataW.trod enc Tryz.prog W 0 (fun _ => true) true n 22 [c1] = some y1 := by simpa [cellsOf5, cellsOf22, cellsOf2] using hfld 1 _ rfl
      have g2 : DataW.trod enc Tryz.prog W 0 (fun _ => true) true n 22 [c2] = some y2 := by simpa [cellsOf5, cellsOf22, cellsOf2] using hfld 2 _ rfl
      have g3 : DataW.trod enc Tryz.prog W 0 (fun _ => true) true n 22 [c3] = some y3 := by simpa [cellsOf5, cellsOf22, cellsOf2] using hfld 3 _ rfl
      have g4 : DataW.trod enc Tryz.prog W 0 (fun _ => true) true n 5 [c4] = some y4 := by simpa [cellsOf5, cellsOf22, cellsOf2] using hfld 4 _ rfl
      have g5 : DataW.trod enc Tryz.prog W 0 (fun _ => true) true n 5 [c5] = some y5 := by simpa [cellsOf5, cellsOf22, cellsOf2] using hfld 5 _ rfl
      have g6 : DataW.trod enc Tryz.prog W 0 (fun _ => true) true n 2 [c6] = some y6 := by simpa [cellsOf5, cellsOf22, cellsOf2] using hfld 6 _ rfl
      have g7 : DataW.trod enc Tryz.prog W 0 (fun _ => true) true n 5 [c7] = some y7 := by simpa [cellsOf5, cellsOf22, cellsOf2] using hfld 7 _ rfl
      obtain ⟨x0, e0, _, w0⟩ := DataW.trod_int Tryz.underlying5 g0
      obtain ⟨x4, e4, _, w4⟩ := DataW.trod_int Tryz.underlying5 g4
      obtain ⟨x5, e5, _, w5⟩ := DataW.trod_int Tryz.underlying5 g5
      obtain ⟨x6, e6, _, w6⟩ := DataW.trod_int Tryz.underlying2 g6
      obtain ⟨x7, e7, _, w7⟩ := DataW.trod_int Tryz.underlying5 g7
      simp at e0 e4 e5 e6 e7
      subst e0 e4 e5 e6 e7
      obtain ⟨p0, q0⟩ := bounds_u8 w0
      obtain ⟨p4, q4⟩ := bounds_u8 w4
      obtain ⟨p5, q5⟩ := bounds_u8 w5
      obtain ⟨p7, q7⟩ := bounds_u8 w7
      obtain ⟨p6, q6⟩ := bounds_i64 w6
      obtain ⟨l1, h1⟩ := ByteSl.came g1
      obtain ⟨l2, h2⟩ := ByteSl.came g2
      obtain ⟨l3, h3⟩ := ByteSl.came g3
      refine ⟨⟨x0.toNat, l1, l2, l3, x4.toNat, x5.toNat, x6, x7.toNat⟩, c1, c2, c3, ?_, ⟨by show x0.toNat < 256; omega, h1.1, h2.1, h3.1, by show x4.toNat < 256; omega, by show x5.toNat < 256; omega, ⟨by omega, by omega⟩, by show x7.toNat < 256; omega⟩, h1, h2, h3⟩
      rw [Int.toNat_of_nonneg p0, Int.toNat_of_nonneg p4, Int.toNat_of_nonneg p5, Int.toNat_of_nonneg p7]
end
end Go.Proofs.YtpbjblbeepbklaaGreatDoor
