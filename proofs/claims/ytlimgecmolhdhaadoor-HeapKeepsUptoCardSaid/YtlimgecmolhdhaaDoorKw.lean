/- HeapKeeps. -/
import Derived.Test.YtlimgecmolhdhaaDoorKt
import Derived.Test.YtlimgecmolhdhaaDoorRm
set_option linter.unusedVariables false
set_option linter.unusedSimpArgs false
namespace Go.Proofs.YtlimgecmolhdhaaDoor
open Go.RowKit

theorem cell_old {w W : World} (h : Old w W) {ad : Addr} (hb : ad.block < w.heap.size) {i : Nat} {v : Value} (hc : w.cell? (ad.add i) = some v) : W.cell? (ad.add i) = some v :=
  (World.cell?_of_block (h.block (ad.add i).block (by rw [add_block]; exact hb) (fun f => f))).trans hc

set_option maxRecDepth 100000 in
set_option maxHeartbeats 2000000 in
theorem keeps_law (w : World) (A B : Option Addr) (n c m c' : Nat) (ss : Nat → ByteArray) (vs : Nat → Int)
    (hss : ∀ i, i < n → ∃ ad, A = some ad ∧ ad.block < w.heap.size ∧ w.cell? (ad.add i) = some (.string (ss i)) ∧ (ss i).size ≤ 140737488351232)
    (hvs : ∀ i, i < m → ∃ ad, B = some ad ∧ ad.block < w.heap.size ∧ w.cell? (ad.add i) = some (.int .i64 (vs i))) (hn : n ≤ 9223372036854775807) (hm : m ≤ 9223372036854775807) :
    Calls Tryd.prog 5 #[.slice A n c, .slice B m c'] w fun e w' => e = .returned (.bool true) ∧ Old w w' := by
  have HSS := Lib.hid hss; clear hss
  have HVS := Lib.hid hvs; clear hvs
  go_enter Tryd.func5, Tryd.ntmps5
  rcases Nat.lt_or_ge 60 n with hout | hn1
  · go_wp2_with (first | (go_at_call 8; refine (new_ok 1048576 _ (by decide) (by decide)).mono ?_; rintro e w1 ⟨rfl, rfl⟩) | (go_at_call 7; refine (known_true _).mono ?_; rintro e w' ⟨rfl, hO⟩))
    all_goals (first | (go_ret; exact ⟨rfl, ((Fr.refl _ _).alloc _).old hO⟩) | omega)
  · have hI0 := Lib.hid (KM.start w)
    go_wp2_with (first | (go_at_call 8; refine (new_ok 1048576 _ (by decide) (by decide)).mono ?_; rintro e w1 ⟨rfl, rfl⟩) | (go_at_call 10; first | (refine ((HM3.out).nil (by decide)).mono ?_; rintro e w4 ⟨rfl, bc, tv3, hI3⟩; have HK := Lib.hid hI3.ks; clear hI3 HM3) | (refine ((HM2.out).keep (p := 0) (by decide) (by decide) rfl).mono ?_; rintro e w3 ⟨rfl, bb, tv2, hI2⟩; have HM3 := Lib.hid hI2; clear hI2 HM2) | (refine ((hI0.out).nil (by decide)).mono ?_; rintro e w2 ⟨rfl, ba, tv1, hI1⟩; have HM2 := Lib.hid hI1; clear hI1)))
    go_loopw [13, 14] (fun s13 s14 wr => ∃ (i : Nat) (t : Int), s13 = .int .i64 t ∧ s14 = .int .i64 ((i : Nat) : Int) ∧ i ≤ n ∧ 0 ≤ t ∧ t ≤ (i : Int) * 140737488351232 ∧ KS w wr w.heap.size ba bb bc 3 [] 0 tv3) (fun _ s14 _ => n - (intOf s14).toNat)
    case atStart => exact ⟨0, 0, rfl, rfl, Nat.zero_le _, by decide, by decide, HK.out⟩
    case round =>
      obtain ⟨i, t, rfl, rfl, hin, ht0, ht1, hK⟩ := hrel
      clear HK hI0
      have HK := Lib.hid hK; clear hK
      rcases Nat.lt_or_ge i n with hlt | hge
      · obtain ⟨ad, rfl, hb, hcell, hsz⟩ := HSS.out i hlt
        have hcell' := cell_old (HK.out).old hb hcell
        clear hcell
        go_wp2
        exact ⟨⟨i + 1, t + ((ss i).size : Int), rfl, by push_cast; rfl, by omega, by omega, by push_cast; omega, HK.out⟩, by simp [intOf]; omega⟩
      · have hin' : i = n := by omega
        subst hin'
        rcases (show 8000 < t ∨ t ≤ 8000 by omega) with hbig | hsmall
        · go_wp2_with (go_at_call 7; refine (known_true _).mono ?_; rintro e w' ⟨rfl, hO⟩)
          go_ret
          exact ⟨rfl, ((HK.out).old).old hO⟩
        · go_wp2
          go_loopw [15] (fun s15 wr => ∃ (j : Nat) (kvs : List (ByteArray × Value)) (used nk : Nat), s15 = .int .i64 ((j : Nat) : Int) ∧ j ≤ i ∧ used ≤ 3 + j ∧ nk ≤ j ∧ KS w wr w.heap.size ba bb bc used kvs nk tv3) (fun s15 _ => i - (intOf s15).toNat)
          case atStart => exact ⟨0, [], 3, 0, rfl, Nat.zero_le _, by decide, by decide, HK.out⟩
          case round =>
            obtain ⟨j, kvs, used, nk, rfl, hji, hu, hnk, hK⟩ := hrel
            clear HK
            have HK := Lib.hid hK; clear hK
            rcases Nat.lt_or_ge j i with hlt | hge
            · obtain ⟨ad, rfl, hb, hcell, hsz⟩ := HSS.out j hlt
              have HC := Lib.hid hcell; clear hcell
              rcases Nat.lt_or_ge j m with hjm | hjm
              · obtain ⟨ad2, rfl, hb2, hcell2⟩ := HVS.out j hjm
                have hcell2' := cell_old (HK.out).old hb2 hcell2
                clear hcell2
                have hv1 : -1000 < (vs j).tmod 1000 := Int.lt_tmod_of_pos _ (by decide)
                have hv2 : (vs j).tmod 1000 < 1000 := Int.tmod_lt_of_pos _ (by decide)
                have hc2 : ∀ o, (wr.alloc o).cell? (ad2.add j) = some (.int .i64 (vs j)) := fun o => cell_old ((HK.out).old.alloc o) hb2 (by have := hcell2'; rw [← hcell2']; exact (World.cell?_of_block ((HK.out).old.block _ (by rw [add_block]; exact hb2) (fun f => f))).symm)
                go_wp2_with fail
                have hx1 : -9007199254740991 < ((vs j).tmod 1000) := by omega
                have hx2 : ((vs j).tmod 1000) < 9007199254740991 := by omega
                have b16 := heapNew wr (.cells #[.int .i64 3, .int .i64 ((vs j).tmod 1000), .string ⟨#[]⟩] 35)
                have hK3 := (HK.out).later ((Fr.refl (fun _ => False) wr).alloc (.cells #[.int .i64 3, .int .i64 ((vs j).tmod 1000), .string ⟨#[]⟩] 35))
                have hc3 : (wr.alloc (.cells #[.int .i64 3, .int .i64 ((vs j).tmod 1000), .string ⟨#[]⟩] 35)).cell? (ad.add j) = some (.string (ss j)) := cell_old hK3.old hb HC.out
                generalize wr.alloc (.cells #[.int .i64 3, .int .i64 ((vs j).tmod 1000), .string ⟨#[]⟩] 35) = W3 at *
                obtain ⟨d0, d1, d2, _, _, _⟩ := cells3 b16
                have B16 := Lib.hid b16; clear b16
                have HK3 := Lib.hid hK3; clear hK3
                go_region_with (go_at_call 11; refine (KS.set ((HK3.out).later ((Fr.refl _ _).drew)) ?_ ?_ (ss j) ((vs j).tmod 1000) ?_ ?_).mono ?_; (omega); (omega); (exact hx1); (exact hx2); rintro e w5 ⟨rfl, used', n', hu', hn', hK5, hbes⟩; have HB5 := Lib.hid (hbes _ _ (heapDrew B16.out)); clear hbes; have hc5 := cell_old hK5.old hb HC.out; have HK5 := Lib.hid hK5; clear hK5)
                all_goals (go_wp2_with (first | (go_at_call 12; first | (refine (KS.getB (((HK5.out).later hO6).later ((Fr.refl _ _).alloc _)) (ss j) ⟨3, ((vs j).tmod 1000), ⟨#[]⟩⟩ (look_put_self _ _ _)).mono ?_; rintro e w7 ⟨rfl, hO7⟩; have hcA7 := fun o => cell_old ((((((HK5.out).later hO6).later ((Fr.refl (fun _ => False) w6).alloc (.cells #[.int .i64 3, .int .i64 ((vs j).tmod 1000), .string ⟨#[]⟩] 35))).later hO7).old).alloc o) hb HC.out; clear hcA6) | (refine (KS.getA (HK5.out) (ss j) ⟨3, ((vs j).tmod 1000), ⟨#[]⟩⟩ (look_put_self _ _ _)).mono ?_; rintro e w6 ⟨rfl, hO6⟩; have hcA6 := fun o => cell_old ((((HK5.out).later hO6).old).alloc o) hb HC.out)) | (go_at_call 13; refine (KS.hasC (((((HK5.out).later hO6).later ((Fr.refl _ _).alloc _)).later hO7).later ((Fr.refl _ _).alloc _)) (ss j)).mono ?_; rintro e w8 ⟨rfl, hO8⟩; have bx := hO8.at (heapAlloc (hO7.at (heapNew w6 (.cells #[.int .i64 3, .int .i64 ((vs j).tmod 1000), .string ⟨#[]⟩] 35)) (fun f => f)) (.cells #[.int .i64 3, .int .i64 ((vs j).tmod 1000), .string ⟨#[]⟩] 35)) (fun f => f); have by_ := hO8.at (heapNew w7 (.cells #[.int .i64 3, .int .i64 ((vs j).tmod 1000), .string ⟨#[]⟩] 35)) (fun f => f); have b8 := hO8.at (heapAlloc (hO7.at (heapAlloc (hO6.at HB5.out (fun f => f)) (.cells #[.int .i64 3, .int .i64 ((vs j).tmod 1000), .string ⟨#[]⟩] 35)) (fun f => f)) (.cells #[.int .i64 3, .int .i64 ((vs j).tmod 1000), .string ⟨#[]⟩] 35)) (fun f => f); obtain ⟨p0, p1, p2, _, _, _⟩ := cells3 bx; obtain ⟨r0, r1, r2, _, _, _⟩ := cells3 by_; obtain ⟨t0, t1, t2, _, _, _⟩ := cells3 b8; clear bx by_ b8 hcA7)))
                all_goals exact ⟨⟨j + 1, _, used', n', by push_cast; rfl, by omega, by omega, by omega, (((((HK5.out).later hO6).later ((Fr.refl _ _).alloc _)).later hO7).later ((Fr.refl _ _).alloc _)).later hO8⟩, by simp [intOf]; omega⟩
              · go_wp2_with fail
                have hx1 : -9007199254740991 < (j : Int) := by omega
                have hx2 : (j : Int) < 9007199254740991 := by omega
                have b16 := heapNew wr (.cells #[.int .i64 3, .int .i64 (j : Int), .string ⟨#[]⟩] 35)
                have hK3 := (HK.out).later ((Fr.refl (fun _ => False) wr).alloc (.cells #[.int .i64 3, .int .i64 (j : Int), .string ⟨#[]⟩] 35))
                have hc3 : (wr.alloc (.cells #[.int .i64 3, .int .i64 (j : Int), .string ⟨#[]⟩] 35)).cell? (ad.add j) = some (.string (ss j)) := cell_old hK3.old hb HC.out
                generalize wr.alloc (.cells #[.int .i64 3, .int .i64 (j : Int), .string ⟨#[]⟩] 35) = W3 at *
                obtain ⟨d0, d1, d2, _, _, _⟩ := cells3 b16
                have B16 := Lib.hid b16; clear b16
                have HK3 := Lib.hid hK3; clear hK3
                go_region_with (go_at_call 11; refine (KS.set ((HK3.out).later ((Fr.refl _ _).drew)) ?_ ?_ (ss j) (j : Int) ?_ ?_).mono ?_; (omega); (omega); (exact hx1); (exact hx2); rintro e w5 ⟨rfl, used', n', hu', hn', hK5, hbes⟩; have HB5 := Lib.hid (hbes _ _ (heapDrew B16.out)); clear hbes; have hc5 := cell_old hK5.old hb HC.out; have HK5 := Lib.hid hK5; clear hK5)
                all_goals (go_wp2_with (first | (go_at_call 12; first | (refine (KS.getB (((HK5.out).later hO6).later ((Fr.refl _ _).alloc _)) (ss j) ⟨3, (j : Int), ⟨#[]⟩⟩ (look_put_self _ _ _)).mono ?_; rintro e w7 ⟨rfl, hO7⟩; have hcA7 := fun o => cell_old ((((((HK5.out).later hO6).later ((Fr.refl (fun _ => False) w6).alloc (.cells #[.int .i64 3, .int .i64 (j : Int), .string ⟨#[]⟩] 35))).later hO7).old).alloc o) hb HC.out; clear hcA6) | (refine (KS.getA (HK5.out) (ss j) ⟨3, (j : Int), ⟨#[]⟩⟩ (look_put_self _ _ _)).mono ?_; rintro e w6 ⟨rfl, hO6⟩; have hcA6 := fun o => cell_old ((((HK5.out).later hO6).old).alloc o) hb HC.out)) | (go_at_call 13; refine (KS.hasC (((((HK5.out).later hO6).later ((Fr.refl _ _).alloc _)).later hO7).later ((Fr.refl _ _).alloc _)) (ss j)).mono ?_; rintro e w8 ⟨rfl, hO8⟩; have bx := hO8.at (heapAlloc (hO7.at (heapNew w6 (.cells #[.int .i64 3, .int .i64 (j : Int), .string ⟨#[]⟩] 35)) (fun f => f)) (.cells #[.int .i64 3, .int .i64 (j : Int), .string ⟨#[]⟩] 35)) (fun f => f); have by_ := hO8.at (heapNew w7 (.cells #[.int .i64 3, .int .i64 (j : Int), .string ⟨#[]⟩] 35)) (fun f => f); have b8 := hO8.at (heapAlloc (hO7.at (heapAlloc (hO6.at HB5.out (fun f => f)) (.cells #[.int .i64 3, .int .i64 (j : Int), .string ⟨#[]⟩] 35)) (fun f => f)) (.cells #[.int .i64 3, .int .i64 (j : Int), .string ⟨#[]⟩] 35)) (fun f => f); obtain ⟨p0, p1, p2, _, _, _⟩ := cells3 bx; obtain ⟨r0, r1, r2, _, _, _⟩ := cells3 by_; obtain ⟨t0, t1, t2, _, _, _⟩ := cells3 b8; clear bx by_ b8 hcA7)))
                all_goals exact ⟨⟨j + 1, _, used', n', by push_cast; rfl, by omega, by omega, by omega, (((((HK5.out).later hO6).later ((Fr.refl _ _).alloc _)).later hO7).later ((Fr.refl _ _).alloc _)).later hO8⟩, by simp [intOf]; omega⟩
            · have hji' : j = i := by omega
              subst hji'
              go_wp2_with (go_at_call 7; refine (known_true _).mono ?_; rintro e w' ⟨rfl, hO⟩)
              go_ret
              exact ⟨rfl, ((HK.out).old).old hO⟩
end Go.Proofs.YtlimgecmolhdhaaDoor
