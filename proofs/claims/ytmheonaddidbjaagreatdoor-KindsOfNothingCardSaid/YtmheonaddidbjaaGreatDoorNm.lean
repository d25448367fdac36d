/- KindsOfNothing's walk. -/
import Derived.Test.YtmheonaddidbjaaGreatDoorNt
set_option linter.unusedVariables false
set_option linter.unusedSimpArgs false
namespace Go.Proofs.YtmheonaddidbjaaGreatDoor
open Go.RowKit

set_option maxRecDepth 100000 in
set_option maxHeartbeats 2000000 in
theorem nothing_any (w : World) (z k tk tn id nd : Int) (tt : ByteArray) (pa na ma ia va qa : Option Addr) (pn pc nn nc mn mc in_ ic vn vc qn qc : Nat)
    (hN : Strs w na nn 1) (hQ : Strs w qa qn 3) (hn : nn ≤ 9223372036854775807) (hq : qn ≤ 9223372036854775807) :
    Calls Tryz.prog 4 #[.int .i64 z, .agg (stepC k tk tn id nd tt (.slice pa pn pc) (.slice na nn nc) (.slice ma mn mc) (.slice ia in_ ic) (.slice va vn vc) (.slice qa qn qc))] w fun e w' => e = .returned (.bool true) ∧ Old w w' := by
  have HV : Hid (∀ W R, Old w W → W.heap[R]? = some (.cells (stepC k tk tn id nd tt (.slice pa pn pc) (.slice na nn nc) (.slice ma mn mc) (.slice ia in_ ic) (.slice va vn vc) (.slice qa qn qc)) 44 (0, 0)) → Calls Tryz.prog 15 #[.slice (some ⟨R, 0, none⟩) 1 1] W fun e w' => ∃ b, e = .returned (.bool b) ∧ Old W w') := Lib.hid (fun W R hO hR => heavy_any W R k tk tn id nd tt pa na ma ia va qa pn pc nn nc mn mc in_ ic vn vc qn qc hR (hN.old hO) (hQ.old hO) hn hq)
  clear hN hQ hn hq
  go_enter Tryz.func4, Tryz.ntmps4
  have hx := heapAlloc (heapNew w (.cells (stepC k tk tn id nd tt (.slice pa pn pc) (.slice na nn nc) (.slice ma mn mc) (.slice ia in_ ic) (.slice va vn vc) (.slice qa qn qc)) 44)) (.cells (stepC k tk tn id nd tt (.slice pa pn pc) (.slice na nn nc) (.slice ma mn mc) (.slice ia in_ ic) (.slice va vn vc) (.slice qa qn qc)) 44)
  have hy := heapNew1 w (.cells (stepC k tk tn id nd tt (.slice pa pn pc) (.slice na nn nc) (.slice ma mn mc) (.slice ia in_ ic) (.slice va vn vc) (.slice qa qn qc)) 44) (.cells (stepC k tk tn id nd tt (.slice pa pn pc) (.slice na nn nc) (.slice ma mn mc) (.slice ia in_ ic) (.slice va vn vc) (.slice qa qn qc)) 44)
  have hO0 : Old w ((w.alloc (.cells (stepC k tk tn id nd tt (.slice pa pn pc) (.slice na nn nc) (.slice ma mn mc) (.slice ia in_ ic) (.slice va vn vc) (.slice qa qn qc)) 44)).alloc (.cells (stepC k tk tn id nd tt (.slice pa pn pc) (.slice na nn nc) (.slice ma mn mc) (.slice ia in_ ic) (.slice va vn vc) (.slice qa qn qc)) 44)) := ((Fr.refl _ _).alloc _).alloc _
  have HX := Lib.hid hx; clear hx
  have HY := Lib.hid hy; clear hy
  have HO0 := Lib.hid hO0; clear hO0
  go_wp2_with (first
    | (go_at_call 15; refine Calls.mono (HV.out _ _ HO0.out HY.out) ?_; rintro e wa ⟨hb, rfl, hOa⟩; have hxa := hOa.at HX.out (fun f => f); have c0 := cellOf hxa 0 _ rfl; have c1 := cellOf hxa 1 _ rfl; have c2 := cellOf hxa 2 _ rfl; have c3 := cellOf hxa 3 _ rfl; have c4 := cellOf hxa 4 _ rfl; have c5 := cellOf hxa 5 _ rfl; have c6 := cellOf hxa 6 _ rfl; have c7 := cellOf hxa 7 _ rfl; have c8 := cellOf hxa 8 _ rfl; have c9 := cellOf hxa 9 _ rfl; have c10 := cellOf hxa 10 _ rfl; have c11 := cellOf hxa 11 _ rfl; have HXa := Lib.hid hxa; have HA := Lib.hid hOa; clear hOa hxa)
    | (go_at_call 8; refine Calls.mono (known_true _) ?_; rintro e wk ⟨rfl, hOk⟩; have HK := Lib.hid hOk; clear hOk)
    | (go_at_call 11; refine Calls.mono (find_nil wa _ _ _ _ _ _) ?_; rintro e w1 ⟨rfl, h1⟩; have hxh1 := h1.at HXa.out (fun f => f); have dh18 := cellOf hxh1 8 _ rfl; have dh110 := cellOf hxh1 10 _ rfl; have dh111 := cellOf hxh1 11 _ rfl; have HXh1 := Lib.hid hxh1; clear hxh1; have Hh1 := Lib.hid h1; clear h1)
    | (go_at_call 13; refine Calls.mono (subst_nil w2 _ _ _) ?_; rintro e w3 ⟨rfl, h3⟩; have hxh3 := h3.at HXh2.out (fun f => f); have dh38 := cellOf hxh3 8 _ rfl; have dh310 := cellOf hxh3 10 _ rfl; have dh311 := cellOf hxh3 11 _ rfl; have HXh3 := Lib.hid hxh3; clear hxh3; have Hh3 := Lib.hid h3; clear h3)
    | (go_at_call 19; refine Calls.mono (define_nil w6 _ _ _) ?_; rintro e w7 ⟨rfl, h7⟩; have ht7 := h7.at HT6.out (fun f => f); have t7 := cellOf ht7 0 _ rfl; clear ht7; have Hh7 := Lib.hid h7; clear h7)
    | (go_at_call 16; refine Calls.mono (union_nil w1 _) ?_; rintro e w2 ⟨rfl, h2⟩; have hxh2 := h2.at HXh1.out (fun f => f); have dh28 := cellOf hxh2 8 _ rfl; have dh210 := cellOf hxh2 10 _ rfl; have dh211 := cellOf hxh2 11 _ rfl; have HXh2 := Lib.hid hxh2; clear hxh2; have Hh2 := Lib.hid h2; clear h2)
    | (go_at_call 12; first | ((with_reducible refine Calls.mono (widen_nil w3 _) ?_); rintro e w4 ⟨rfl, h4⟩; have hxh4 := h4.at HXh3.out (fun f => f); have HXh4 := Lib.hid hxh4; clear hxh4; have dh48 := cellOf HXh4.out 8 _ rfl; have dh410 := cellOf HXh4.out 10 _ rfl; have dh411 := cellOf HXh4.out 11 _ rfl; have Hh4 := Lib.hid h4; clear h4) | ((with_reducible refine Calls.mono (widen_zero w10 _ _ HZ10.out) ?_); rintro e w11 ⟨rfl, h11⟩; have HZ11 := Lib.hid (h11.at HZ10.out (fun f => f)); have Hh11 := Lib.hid h11; clear h11))
    | (go_at_call 17; first | ((with_reducible refine Calls.mono (at_nil w4 _) ?_); rintro e w5 ⟨rfl, h5⟩; have HXh5 := Lib.hid (h5.at HXh4.out (fun f => f)); have HT5 := Lib.hid (heapNew w5 (.cells #[.int .i64 0, .int .i64 0, .string ⟨#[]⟩, .slice none 0 0, .slice none 0 0, .slice none 0 0] 38)); have Hh5 := Lib.hid h5; clear h5) | ((with_reducible refine Calls.mono (at_zero (w9.alloc (.cells #[.slice none 0 0, .map none, .map none] 59)) _ _ (heapNew w9 _)) ?_); rintro e w10 ⟨rfl, h10⟩; have HZ10 := Lib.hid (h10.at (heapNew w9 (.cells #[.slice none 0 0, .map none, .map none] 59)) (fun f => f)); have Hh10 := Lib.hid h10; clear h10))
    | (go_at_call 18; first | ((with_reducible refine Calls.mono (pieces_nil (w5.alloc (.cells #[.int .i64 0, .int .i64 0, .string ⟨#[]⟩, .slice none 0 0, .slice none 0 0, .slice none 0 0] 38)) _) ?_); rintro e w6 ⟨rfl, h6⟩; have hxh6 := h6.at (heapAlloc HXh5.out (.cells #[.int .i64 0, .int .i64 0, .string ⟨#[]⟩, .slice none 0 0, .slice none 0 0, .slice none 0 0] 38)) (fun f => f); have dh68 := cellOf hxh6 8 _ rfl; have dh610 := cellOf hxh6 10 _ rfl; have dh611 := cellOf hxh6 11 _ rfl; have HXh6 := Lib.hid hxh6; clear hxh6; have HT6 := Lib.hid (h6.at HT5.out (fun f => f)); have Hh6 := Lib.hid h6; clear h6) | ((with_reducible refine Calls.mono (pieces_zero w11 _ _ HZ11.out) ?_); rintro e w12 ⟨rfl, h12⟩; have HZ12 := Lib.hid (h12.at HZ11.out (fun f => f)); have Hh12 := Lib.hid h12; clear h12))
    | (go_at_call 20; first | ((with_reducible refine Calls.mono (len_nil w7) ?_); rintro e w8 ⟨rfl, h8⟩; have Hh8 := Lib.hid h8; clear h8) | ((with_reducible refine Calls.mono (len_zero w12 _ HZ12.out) ?_); rintro e w13 ⟨rfl, h13⟩; have HZ13 := Lib.hid (h13.at HZ12.out (fun f => f)); have Hh13 := Lib.hid h13; clear h13))
    | (go_at_call 21; first | ((with_reducible refine Calls.mono (text_nil w8 _) ?_); rintro e w9 ⟨rfl, h9⟩; have Hh9 := Lib.hid h9; clear h9) | ((with_reducible refine Calls.mono (text_zero w13 _ _ HZ13.out) ?_); rintro e w14 ⟨rfl, h14⟩; have Hh14 := Lib.hid h14; clear h14)))
  · go_ret
    exact ⟨rfl, (HO0.out.old HA.out).old HK.out⟩
  · go_ret
    exact ⟨rfl, (((((((((((((((((HO0.out.old HA.out).old Hh1.out).old Hh2.out).old Hh3.out).old Hh4.out).old Hh5.out).alloc _).old Hh6.out).old Hh7.out).old Hh8.out).old Hh9.out).alloc _).old Hh10.out).old Hh11.out).old Hh12.out).old Hh13.out).old Hh14.out).old HK.out⟩
end Go.Proofs.YtmheonaddidbjaaGreatDoor
