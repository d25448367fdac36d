/- The argument Step, opened to cells. -/
import Derived.Test.YtmheonaddidbjaaGreatDoorLa
import Derived.Test.YtmheonaddidbjaaGreatDoorLw
import Derived.Test.YtmheonaddidbjaaGreatDoorNm
import Derived.Deep.Slices
import Derived.Deep.Strs
import Derived.Deep.Fields
import Derived.ChangeSame
import Derived.Lib.SmallJoins
set_option linter.unusedVariables false
set_option linter.unusedSimpArgs false
namespace Go.Proofs.YtmheonaddidbjaaGreatDoor
open Go.ChangeShapes Go.WideShapes Go.ChangeAt Go.RowKit Go.Deep

theorem cell_lt {W : World} {a : Addr} {i : Nat} {v : Value} (h : W.cell? (a.add i) = some v) : a.block < W.heap.size := by
  rcases Nat.lt_or_ge a.block W.heap.size with h1 | h1
  · exact h1
  · have e2 : (a.add i).block = a.block := by unfold Addr.add; split <;> rfl
    rw [← e2] at h1
    simp [World.cell?, Array.getElem?_eq_none h1] at h

section
variable {H : Type} {enc : TypeId × Value → H} {P : Program} {w : World} {base : Nat} {sp : Nat → Bool} {hd : Bool}

theorem fld {n : Nat} {cs : List Value} {xs : List (DataW H × List MemPlace)} {fs : Array Field} (hf : ∀ (i : Nat) (f : Field), fs[i]? = some f → DataW.trod enc P w base sp hd n f.type ((cs.drop f.offset).take (P.cellsOf f.type)) = xs[i]?) (hl : xs.length = fs.size) (i : Nat) (f : Field) (hi : fs[i]? = some f) :
    ∃ y, DataW.trod enc P w base sp hd n f.type ((cs.drop f.offset).take (P.cellsOf f.type)) = some y := by
  have h1 : i < fs.size := (Array.getElem?_eq_some_iff.1 hi).1
  exact ⟨xs[i]'(by omega), by rw [hf i f hi]; exact List.getElem?_eq_getElem (by omega)⟩

theorem slice_one {t e : TypeId} {n : Nat} {c : Value} {x : DataW H × List MemPlace} (ht : P.underlying t = some (.slice e)) (h : DataW.trod enc P w base sp hd n t [c] = some x) : ∃ a l k, c = .slice a l k := by
  rcases open_slice ht h with ⟨h0, _⟩ | ⟨a, len, cap, m, n, D, Pl, hcs, _⟩
  · exact ⟨none, 0, 0, by simpa using h0⟩
  · exact ⟨some a, len, cap, by simpa using hcs⟩
end

section
variable {H : Type} {enc : TypeId × Value → H} {w : World} {base : Nat} {sp : Nat → Bool} {hd : Bool}

theorem names_one {n : Nat} {c : Value} {x : DataW H × List MemPlace} (h : DataW.trod enc Tryz.prog w base sp hd n 23 [c] = some x) : ∃ a l k, c = .slice a l k ∧ Strs w a l 1 ∧ l ≤ 9223372036854775807 := by
  rcases open_strs Tryz.underlying23 Tryz.underlying9 (by kernel_rfl) h with ⟨h0, _⟩ | ⟨a, len, cap, m, Sx, hcs, _, h1, h2, h3, _, h4⟩
  · exact ⟨none, 0, 0, by simpa using h0, fun i hi => by omega, by omega⟩
  · refine ⟨some a, len, cap, by simpa using hcs, fun i hi => ⟨a, Sx i, rfl, ?_, ?_⟩, by unfold maxLen at h2; omega⟩
    · rw [Nat.mul_one]; exact (h4 i (by rw [h3]; split <;> omega)).1
    · exact cell_lt (h4 i (by rw [h3]; split <;> omega)).1

theorem pieces_one {n : Nat} {c : Value} {x : DataW H × List MemPlace} (h : DataW.trod enc Tryz.prog w base sp hd n 42 [c] = some x) : ∃ a l k, c = .slice a l k ∧ Strs w a l 3 ∧ l ≤ 9223372036854775807 := by
  have hc3 : Tryz.prog.cellsOf 91 = 3 := by kernel_rfl
  have hcs9 : Tryz.prog.cellsOf 9 = 1 := by kernel_rfl
  rcases open_slice Tryz.underlying42 h with ⟨h0, _⟩ | ⟨a, len, cap, m, n', D, Pl, hcs, _, h1, h2, h3, _, h4⟩
  · exact ⟨none, 0, 0, by simpa using h0, fun i hi => by omega, by omega⟩
  · have key : ∀ i, i < len → ∃ s, w.cell? (a.add (i * 3)) = some (.string s) := fun i hi => by
      obtain ⟨cs', hc, ht'⟩ := h4 i (by rw [h3]; split <;> omega)
      rw [hc3] at hc
      obtain ⟨_, hcl, hat⟩ := World.cells?_some hc
      obtain ⟨ys, n2, _, _, hlen, hyl, hf⟩ := DataW.trod_struct Tryz.underlying91 ht'
      obtain ⟨y, hy⟩ := fld hf hyl 0 _ rfl
      change DataW.trod enc Tryz.prog w base sp hd n2 9 ((cs'.drop 0).take (Tryz.prog.cellsOf 9)) = some y at hy
      rw [hcs9, List.drop_zero] at hy
      obtain ⟨s, hs, _, _⟩ := DataW.trod_string Tryz.underlying9 hy
      refine ⟨s, ?_⟩
      have h0 : w.cell? (a.add (i * 3 + 0)) = cs'[0]? := by rw [← Go.Deep.add_add]; exact hat 0 (by omega)
      have e0 : cs'[0]? = some (.string s) := by
        have : (cs'.take 1)[0]? = some (Value.string s) := by rw [hs]; rfl
        rw [List.getElem?_take] at this
        simpa using this
      rw [e0] at h0
      simpa using h0
    refine ⟨some a, len, cap, by simpa using hcs, fun i hi => ?_, by unfold maxLen at h2; omega⟩
    obtain ⟨s, hs⟩ := key i hi
    exact ⟨a, s, rfl, hs, cell_lt hs⟩

theorem type_six {n : Nat} {c1 c2 c3 c4 c5 c6 : Value} {x : DataW H × List MemPlace} (h : DataW.trod enc Tryz.prog w base sp hd n 38 [c1, c2, c3, c4, c5, c6] = some x) :
    ∃ (tk tn : Int) (tt : ByteArray) (pa na ma : Option Addr) (pn pc nn nc mn mc : Nat), c1 = .int .i64 tk ∧ c2 = .int .i64 tn ∧ c3 = .string tt ∧ c4 = .slice pa pn pc ∧ c5 = .slice na nn nc ∧ c6 = .slice ma mn mc ∧ Strs w na nn 1 ∧ nn ≤ 9223372036854775807 := by
  have k3 : Tryz.prog.cellsOf 3 = 1 := by kernel_rfl
  have k9 : Tryz.prog.cellsOf 9 = 1 := by kernel_rfl
  have ki : Tryz.prog.cellsOf 36 = 1 := by kernel_rfl
  have ks : Tryz.prog.cellsOf 23 = 1 := by kernel_rfl
  have kb : Tryz.prog.cellsOf 24 = 1 := by kernel_rfl
  obtain ⟨ys, n2, _, _, hlen, hyl, hf⟩ := DataW.trod_struct Tryz.underlying38 h
  obtain ⟨y0, h0⟩ := fld hf hyl 0 _ rfl
  change DataW.trod enc Tryz.prog w base sp hd n2 3 ((([c1, c2, c3, c4, c5, c6] : List Value).drop 0).take (Tryz.prog.cellsOf 3)) = some y0 at h0
  rw [k3] at h0
  obtain ⟨y1, h1⟩ := fld hf hyl 1 _ rfl
  change DataW.trod enc Tryz.prog w base sp hd n2 3 ((([c1, c2, c3, c4, c5, c6] : List Value).drop 1).take (Tryz.prog.cellsOf 3)) = some y1 at h1
  rw [k3] at h1
  obtain ⟨y2, h2⟩ := fld hf hyl 2 _ rfl
  change DataW.trod enc Tryz.prog w base sp hd n2 9 ((([c1, c2, c3, c4, c5, c6] : List Value).drop 2).take (Tryz.prog.cellsOf 9)) = some y2 at h2
  rw [k9] at h2
  obtain ⟨y3, h3⟩ := fld hf hyl 3 _ rfl
  change DataW.trod enc Tryz.prog w base sp hd n2 36 ((([c1, c2, c3, c4, c5, c6] : List Value).drop 3).take (Tryz.prog.cellsOf 36)) = some y3 at h3
  rw [ki] at h3
  obtain ⟨y4, h4⟩ := fld hf hyl 4 _ rfl
  change DataW.trod enc Tryz.prog w base sp hd n2 23 ((([c1, c2, c3, c4, c5, c6] : List Value).drop 4).take (Tryz.prog.cellsOf 23)) = some y4 at h4
  rw [ks] at h4
  obtain ⟨y5, h5⟩ := fld hf hyl 5 _ rfl
  change DataW.trod enc Tryz.prog w base sp hd n2 24 ((([c1, c2, c3, c4, c5, c6] : List Value).drop 5).take (Tryz.prog.cellsOf 24)) = some y5 at h5
  rw [kb] at h5
  obtain ⟨tk, e1, _, _⟩ := DataW.trod_int Tryz.underlying3 h0
  obtain ⟨tn, e2, _, _⟩ := DataW.trod_int Tryz.underlying3 h1
  obtain ⟨tt, e3, _, _⟩ := DataW.trod_string Tryz.underlying9 h2
  obtain ⟨pa, pn, pc, e4⟩ := slice_one Tryz.underlying36 h3
  obtain ⟨na, nn, nc, e5, hN, hn⟩ := names_one h4
  obtain ⟨ma, mn, mc, e6⟩ := slice_one Tryz.underlying24 h5
  exact ⟨tk, tn, tt, pa, na, ma, pn, pc, nn, nc, mn, mc, by simpa using e1, by simpa using e2, by simpa using e3, e4, e5, e6, hN, hn⟩

set_option maxRecDepth 100000 in
theorem open_step {r : Reach} {b0 : Nat} {v : Value} {d : DataW H} {p : List MemPlace} (hv : Value.okWide Tryz.prog w r b0 44 v) (h : DataW.Trod enc Tryz.prog w base sp hd 44 v d p) :
    ∃ (k tk tn id nd : Int) (tt : ByteArray) (pa na ma ia va qa : Option Addr) (pn pc nn nc mn mc in_ ic vn vc qn qc : Nat), v = .agg (stepC k tk tn id nd tt (.slice pa pn pc) (.slice na nn nc) (.slice ma mn mc) (.slice ia in_ ic) (.slice va vn vc) (.slice qa qn qc)) ∧ Strs w na nn 1 ∧ Strs w qa qn 3 ∧ nn ≤ 9223372036854775807 ∧ qn ≤ 9223372036854775807 := by
  have k3 : Tryz.prog.cellsOf 3 = 1 := by kernel_rfl
  have ki : Tryz.prog.cellsOf 36 = 1 := by kernel_rfl
  have kp : Tryz.prog.cellsOf 42 = 1 := by kernel_rfl
  have kt : Tryz.prog.cellsOf 38 = 6 := by kernel_rfl
  have kS : Tryz.prog.cellsOf 44 = 12 := by kernel_rfl
  obtain ⟨⟨l⟩, rfl, hsz⟩ := okWide_struct Tryz.underlying44 hv
  rw [kS] at hsz
  match l, hsz with
  | [c0, c1, c2, c3, c4, c5, c6, c7, c8, c9, c10, c11], _ =>
  obtain ⟨fuel, hf0⟩ := h
  obtain ⟨ys, n2, _, _, hlen, hyl, hf⟩ := DataW.trod_struct Tryz.underlying44 hf0
  obtain ⟨y0, h0⟩ := fld hf hyl 0 _ rfl
  change DataW.trod enc Tryz.prog w base sp hd n2 3 ((([c0, c1, c2, c3, c4, c5, c6, c7, c8, c9, c10, c11] : List Value).drop 0).take (Tryz.prog.cellsOf 3)) = some y0 at h0
  rw [k3] at h0
  obtain ⟨y1, h1⟩ := fld hf hyl 1 _ rfl
  change DataW.trod enc Tryz.prog w base sp hd n2 38 ((([c0, c1, c2, c3, c4, c5, c6, c7, c8, c9, c10, c11] : List Value).drop 1).take (Tryz.prog.cellsOf 38)) = some y1 at h1
  rw [kt] at h1
  obtain ⟨y2, h2⟩ := fld hf hyl 2 _ rfl
  change DataW.trod enc Tryz.prog w base sp hd n2 3 ((([c0, c1, c2, c3, c4, c5, c6, c7, c8, c9, c10, c11] : List Value).drop 7).take (Tryz.prog.cellsOf 3)) = some y2 at h2
  rw [k3] at h2
  obtain ⟨y3, h3⟩ := fld hf hyl 3 _ rfl
  change DataW.trod enc Tryz.prog w base sp hd n2 36 ((([c0, c1, c2, c3, c4, c5, c6, c7, c8, c9, c10, c11] : List Value).drop 8).take (Tryz.prog.cellsOf 36)) = some y3 at h3
  rw [ki] at h3
  obtain ⟨y4, h4⟩ := fld hf hyl 4 _ rfl
  change DataW.trod enc Tryz.prog w base sp hd n2 3 ((([c0, c1, c2, c3, c4, c5, c6, c7, c8, c9, c10, c11] : List Value).drop 9).take (Tryz.prog.cellsOf 3)) = some y4 at h4
  rw [k3] at h4
  obtain ⟨y5, h5⟩ := fld hf hyl 5 _ rfl
  change DataW.trod enc Tryz.prog w base sp hd n2 36 ((([c0, c1, c2, c3, c4, c5, c6, c7, c8, c9, c10, c11] : List Value).drop 10).take (Tryz.prog.cellsOf 36)) = some y5 at h5
  rw [ki] at h5
  obtain ⟨y6, h6⟩ := fld hf hyl 6 _ rfl
  change DataW.trod enc Tryz.prog w base sp hd n2 42 ((([c0, c1, c2, c3, c4, c5, c6, c7, c8, c9, c10, c11] : List Value).drop 11).take (Tryz.prog.cellsOf 42)) = some y6 at h6
  rw [kp] at h6
  obtain ⟨k, e0, _, _⟩ := DataW.trod_int Tryz.underlying3 h0
  obtain ⟨tk, tn, tt, pa, na, ma, pn, pc, nn, nc, mn, mc, rfl, rfl, rfl, rfl, rfl, rfl, hN, hn⟩ := type_six h1
  obtain ⟨id, e7, _, _⟩ := DataW.trod_int Tryz.underlying3 h2
  obtain ⟨ia, in_, ic, e8⟩ := slice_one Tryz.underlying36 h3
  obtain ⟨nd, e9, _, _⟩ := DataW.trod_int Tryz.underlying3 h4
  obtain ⟨va, vn, vc, e10⟩ := slice_one Tryz.underlying36 h5
  obtain ⟨qa, qn, qc, e11, hQ, hq⟩ := pieces_one h6
  obtain rfl : c0 = .int .i64 k := by simpa using e0
  obtain rfl : c7 = .int .i64 id := by simpa using e7
  obtain rfl : c9 = .int .i64 nd := by simpa using e9
  subst e8 e10 e11
  exact ⟨k, tk, tn, id, nd, tt, pa, na, ma, ia, va, qa, pn, pc, nn, nc, mn, mc, in_, ic, vn, vc, qn, qc, rfl, hN, hQ, hn, hq⟩
end
end Go.Proofs.YtmheonaddidbjaaGreatDoor
