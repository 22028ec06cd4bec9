/- SHA-256: a state's words as bytes; its digest, walked. -/
import Derived.Test.YtcnphkmcgefjoaaSh2N
import Derived.Test.YtcnphkmcgefjoaaWLay
namespace Go.Proofs.Ytcnphkmcgefjoaa
open Go.RowKit
set_option linter.unusedVariables false
set_option maxRecDepth 100000

attribute [local irreducible] comp2 hTo

def laid4 (l : List UInt32) (k : Nat) : List UInt8 := ((l.take k).map fun x => beL 4 x.toNat).flatten

theorem laid4_succ {l : List UInt32} {k : Nat} (hk : k < l.length) : laid4 l (k + 1) = laid4 l k ++ beL 4 (at32 l k).toNat := by
  unfold laid4
  rw [List.take_add_one, at32_some hk]
  simp

theorem laid4_length {l : List UInt32} {k : Nat} (hk : k ≤ l.length) : (laid4 l k).length = 4 * k := by
  induction k with
  | zero => rfl
  | succ k ih => rw [laid4_succ (by omega), List.length_append, ih (by omega), beL_length]; omega

theorem h8_ix (h : List UInt32) (hh : h.length = 8) (k : Nat) (hk : k < 8) (w : World) : (Instr.index 40 (.agg (h.map u32v).toArray) (.int .i64 (k : Int))).run Try.prog w = .ok (.int .u32 ((at32 h k).toNat : Int)) w :=
  run_index_agg (P := Try.prog) 40 39 8 (h.map u32v).toArray k _ Try.underlying40 h8_size u32_notAgg hk (by have := u32_get (l := h) (k := k) (by omega); simpa using this) w

theorem St.newRow' {w w' : World} {E : Env} {e : TypeId} {size n : Nat} {v : Value} {xs : List Value} (H : St w [] w' E) (k : Nat) (hk : E k = some (.row e size v n xs)) : w'.ownsRow w.heap.size e size v n xs := by
  obtain ⟨F, ⟨h, eF⟩, hF, -⟩ := H.change k hk
  exact ownsRow_base h fun g hg => by have := hF g (by rw [eF]; exact hg); simpa using this

theorem h8size : (Try.prog.info? 40).map (·.size) = some 8 := by kernel_rfl

section
variable {w0 w : World} {F0 : List Nat} {E : Env}

theorem sh_front {g : Nat} {T : TypeId} {h : List UInt32} {n : Nat} {b : List UInt8} (H : St w0 F0 w E) (j : Nat) (hj : E j = some (.blk g T (shVs h n b))) : w.rangeAt g 0 (h.map u32v) := fun k v hv => by
  rw [Nat.zero_add]
  refine H.cell j hj ?_
  unfold shVs
  rw [List.getElem?_append_left (List.getElem?_eq_some_iff.1 hv).1]
  exact hv

set_option maxHeartbeats 2000000 in
theorem sh2Words_s (g : Nat) (h : List UInt32) (n : Nat) (b : List UInt8) (H : St w0 F0 w E) (j : Nat) (hj : E j = some (.blk g 77 (shVs h n b))) (hh : h.length = 8) :
    Calls Try.prog 45 #[lptr g] w fun e w' => ∃ v, e = .returned v ∧ OwnB w' w.heap.size v (laid4 h 8) ∧ Below w.heap.size w w' := by
  obtain ⟨i0, hi0, hz0, hz1, hz2⟩ := info_parts u8_info
  have HI := Lib.hid (⟨hi0, hz0, hz1, hz2⟩ : _ ∧ _ ∧ _ ∧ _)
  clear hi0 hz0 hz1 hz2
  have hr := sh_front H j hj
  have HH := Lib.hid hh
  clear H hj hh
  have H := (St.start_lay w []).nilRow 0 rfl 5 1 |>.push_mk rfl
  unfold lptr
  go_enter Try.func45, Try.ntmps45
  go_wp2_with (refine wpList_load_mid rfl 40 (.tmp 8) rfl g 0 rfl (h.map u32v) _ hr Try.underlying40 rfl (by rw [h8size, List.length_map, HH.out]) ?_)
  go_loopw [3, 10] (fun v i wr => ∃ k : Nat, k ≤ 8 ∧ i = .int .i64 k ∧ St w [] wr (lay [.row 5 1 v (4 * k) ((laid4 h k).map vb)])) (fun _ i _ => 8 - (intOf i).toNat)
  case atStart => exact ⟨0, by omega, rfl, H⟩
  case round =>
    clear H hr
    obtain ⟨k, hk, rfl, H⟩ := hrel
    obtain ⟨AV, cV, rfl, -, -⟩ := row_form (H.row 0 rfl)
    by_cases hlt : k < 8
    · have hk1 : (k : Int) < 8 := by omega
      have hi := h8_ix h HH.out k hlt
      have HS := Lib.hid (laid4_succ (l := h) (k := k) (by rw [HH.out]; exact hlt))
      generalize at32 h k = x at hi HS
      go_wp2_with fail
      refine (lay_u32 x.toNat wr x.toNat_lt).mono ?_
      rintro e w2 ⟨v2, rfl, ho, hb⟩
      replace H := (H.pushRow 1 rfl hb ho).push_mk rfl
      clear ho hb
      rw [beL_length] at H
      obtain ⟨A2, c2, rfl, -, -⟩ := row_form (H.row 1 rfl)
      go_wp2_with (at_builtin; refine hold_here' ?_)
      refine Lib.hid ?_
      obtain ⟨hi0, hz0, hz1, hz2⟩ := HI.out
      refine wpList_append_any _ rfl (.tmp 13) (.tmp 15) _ rfl 0 5 i0 _ 1 1 Try.underlying22 hi0 hz0 hz1 hz2 rfl (by omega) (.slice AV (4 * k) cV) (4 * k) ((laid4 h k).map vb) rfl (H.row 0 rfl) A2 4 c2 ((beL 4 x.toNat).map vb) rfl (H.rd 1 rfl) (vb_one _) (by simp only [maxLen]; omega) (by omega) (by omega) ?_
      intro v6 w6 hown6 hg6 hat6
      replace H := ((H.grow 0 rfl hown6 hg6 hat6).upd_mk (by simp)).front 1
      clear hown6 hg6 hat6 hi0 hz0 hz1 hz2
      have H7 : St w [] w6 (lay [.row 5 1 v6 (4 * (k + 1)) ((laid4 h (k + 1)).map vb)]) := by rw [HS.out, List.map_append]; exact H
      clear H
      go_wp2
      go_roundw
      case rel => exact ⟨k + 1, by omega, by go_num, H7⟩
      case measure => simp [intOf]; omega
    · obtain rfl : k = 8 := by omega
      go_wp2
      go_ret
      exact ⟨_, rfl, (by unfold OwnB; rw [laid4_length (by rw [HH.out]; omega)]; exact H.newRow' 0 rfl), H.below⟩
end
end Go.Proofs.Ytcnphkmcgefjoaa
