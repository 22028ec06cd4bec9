/- The law SpongeNone, walked. -/
import Derived.Test.YtgjlclihgpahbaaSpL
namespace Go.Proofs.Ytgjlclihgpahbaa
open Go.RowKit
set_option linter.unusedVariables false
set_option maxRecDepth 100000
attribute [local irreducible] permB kBytes kPerm kFrom

set_option maxHeartbeats 2000000 in
theorem spongeNone_walk (A : Option Addr) (n c : Nat) (q : List UInt8) (m : Int) (w : World) (hR : Rd w 1 A n (q.map vb)) (hn : n ≤ 140737488351232) (h1 : -9223372036854775808 ≤ m) (h2 : m ≤ 9223372036854775807) :
    Calls Try.prog 6 #[.slice A n c, .int .i64 m] w fun e w' => e = .returned (.bool true) ∧ Below w.heap.size w w' := by
  have H := St.start_lay w []
  have hl : q.length = n := by simpa using hR.1
  have HL := Lib.hid hl
  clear hl
  by_cases hbig : 6000 < n
  · have hb : decide ((n : Int) > 6000) = true := by simp; omega
    clear hbig
    go_enter Try.func6, Try.ntmps6
    go_wp2
    go_ret
    exact ⟨rfl, H.below⟩
  · have hb : decide ((n : Int) > 6000) = false := by simp; omega
    have hn6 : n ≤ 6000 := by omega
    clear hbig hn
    go_enter Try.func6, Try.ntmps6
    go_wp2_with fail
    refine (rateOf_s m h1 h2).mono ?_
    rintro e w1 ⟨⟨r, rfl, r1, r2, r3, -⟩, rfl⟩
    go_wp2_with fail
    refine (spNew_s r 6 H 0 rfl r1 r2 r3).mono ?_
    rintro e w1 ⟨g, rfl, H1⟩
    replace H1 := H1.push_mk rfl
    have hx : Hid (Sp.new r.toNat 6).Ok := Sp.new_ok _ _ (by omega) (by omega)
    have hxs : Hid ((Sp.new r.toNat 6).s = false) := rfl
    generalize Sp.new r.toNat 6 = x at H1 hx hxs
    clear H hb
    go_wp2_with fail
    refine (ledger_new H1 1 rfl).mono ?_
    rintro e w2 ⟨l, rfl, H2⟩
    replace H2 := H2.push_mk rfl |>.ledNil 2 rfl |>.push_mk rfl
    clear H1
    unfold lptr
    go_wp2_with fail
    refine (spWrite_s (.pointer none) none 0 0 g x A n c q H2 2 0 (by omega) rfl rfl (LW.none _ _) (by omega) (by omega) hx.out hxs.out (fun w' X Y h => h.arg0 hR) (by omega)).mono ?_
    rintro e w3 ⟨rfl, H3⟩
    rw [upd_laid (by simp), upd_laid (by simp)] at H3
    clear H2
    have hy : Hid (x.write q).Ok := (Sp.write_ok q hx.out (hx.out.op hxs.out)).1
    generalize x.write q = y at H3 hy
    go_wp2_with fail
    refine (spWipe_s l (some []) 0 0 g y H3 1 0 (by omega) rfl rfl LW.nil (by omega) (by omega) hy.out).mono ?_
    rintro e w4 ⟨rfl, H4⟩
    rw [upd_laid (by simp), upd_laid (by simp), show noteN (some []) 8 203 1 = some [(8, 203, 1)] from rfl] at H4
    clear H3
    go_wp2_with fail
    refine (ledger_runs_w 1 1 H4 1 rfl (LW.nil.noteN 8 203 1) (by omega) 3 rfl).mono ?_
    rintro e w5 ⟨v, rfl, H5⟩
    replace H5 := H5.push_mk rfl
    obtain ⟨A5, c5, rfl, -, -⟩ := row_shape (H5.row 3 rfl)
    clear H4
    go_wp2_with fail
    refine absorb_calls (H5.allocAt 4 rfl w5.heap.size rfl #[.int .u8 8, .int .i64 203, .int .i64 1] 43 |>.push_mk rfl) ?_
    intro w6 H6
    clear H5
    generalize w5.heap.size = g6 at H6 ⊢
    refine (sameRuns_any A5 (some ⟨g6, 0, none⟩) c5 1 [(8, 203, 1)] [(8, 203, 1)] (H6.rd 3 rfl) (H6.rdBlk 4 rfl 3 1 rfl) (by simp) (by simp)).mono ?_
    rintro e w7 ⟨rfl, k7, rfl⟩
    replace H6 := H6.drewN k7
    rw [decide_eq_true rfl]
    generalize w6.drewN k7 = w7 at H6 ⊢
    go_wp2_with fail
    refine (lives_s).mono ?_
    rintro e w8 ⟨rfl, hb8⟩
    replace H6 := H6.call hb8
    clear hb8
    go_wp2_with fail
    refine (empty_s (.pointer none) _ m (.inl rfl)).mono ?_
    rintro e w9 ⟨rfl, hb9⟩
    replace H6 := H6.call hb9
    clear hb9
    have hz0 := zero_sp
    go_wp2_with fail
    rw [spZero_eq]
    refine absorb_calls (H6.allocAt 5 rfl w9.heap.size rfl spZero.toArray 71 |>.push_mk rfl) ?_
    clear H6 hz0
    intro w10 H7
    generalize w9.heap.size = g9 at H7 ⊢
    refine (empty_s (lptr g9) _ m (H7.spNo 5 rfl)).mono ?_
    rintro e w11 ⟨rfl, hb11⟩
    replace H7 := H7.call hb11
    clear hb11
    go_wp2_with fail
    refine (empty_s (lptr g) _ m (H7.spNo 0 rfl)).mono ?_
    rintro e w12 ⟨rfl, hb12⟩
    replace H7 := H7.call hb12
    clear hb12
    go_wp2
    go_ret
    exact ⟨rfl, H7.below⟩
end Go.Proofs.Ytgjlclihgpahbaa
