import Derived.Test.YtdpkhijbikbhnaaT40
namespace Go.Proofs.Ytdpkhijbikbhnaa
open Go Abs Plain
set_option linter.unusedSimpArgs false
set_option linter.unusedVariables false

theorem srt_eq {l m : List Int} (h : l.Perm m) (hm : m.Pairwise (· ≤ ·)) : srt l = m :=
  List.Perm.eq_of_pairwise (fun x y _ _ h1 h2 => Int.le_antisymm h1 h2) (srt_up l) hm ((List.mergeSort_perm _ _).trans h)
theorem ban_SA : SA ban banA := ⟨by decide, by decide⟩
theorem ban_dbl : dblL ban = banA := by decide +kernel
theorem ban_skew : skL 3 ban = banA := by decide +kernel
theorem ban_sais : saisF 2 ban 256 = banA := by decide +kernel
theorem ban_skok : SkewOk 3 (sqL ban) (ban.length + 1) :=
  ⟨by decide +kernel, by decide +kernel, by decide +kernel, fun _ _ => ⟨⟨by decide +kernel, by decide +kernel, by decide +kernel, fun _ h => absurd (by decide +kernel) h⟩, by decide +kernel, by decide +kernel, by decide +kernel, by decide +kernel⟩⟩
instance (s : List Nat) (p : PS) (m : Nat) : Decidable (lgAll s p m) := by unfold lgAll; infer_instance
instance (s : List Nat) (p : PS) (m : Nat) : Decidable (smAll s p m) := by unfold smAll; infer_instance
theorem indOk_of {s : List Nat} {k : Nat} {first : List Nat} (h1 : ∀ q, q < first.length → leOk s (inRun s (endsL (cntL s k), List.replicate s.length (-1)) first q) (byt first (first.length - 1 - q)))
    (h2 : lgOk s (startsL (cntL s k), indRow1 s k first) (s.length - 1)) (h3 : lgAll s (lg1 s (startsL (cntL s k), indRow1 s k first) (s.length - 1)) s.length) (h4 : ∀ j ∈ indRow2 s k first, 0 ≤ j → j.toNat < s.length) (h5 : smAll s (endsL (cntL s k), clrL s (indRow2 s k first)) s.length) : IndOk s k first := ⟨h1, h2, h3, h4, h5⟩

theorem ban_saok : SaisOk 2 ban 256 :=
  ⟨by decide +kernel, by decide +kernel, srt_eq (List.Perm.refl _) (by decide +kernel), fun _ => indOk_of (by decide +kernel) (by decide +kernel) (by decide +kernel) (by decide +kernel) (by decide +kernel), by decide +kernel, fun _ =>
    ⟨by decide +kernel, by decide +kernel,
      ⟨by decide +kernel, by decide +kernel, srt_eq (List.Perm.refl _) (by decide +kernel), fun _ => indOk_of (by decide +kernel) (by decide +kernel) (by decide +kernel) (by decide +kernel) (by decide +kernel), by decide +kernel, fun h => absurd (by decide +kernel) h⟩,
      by decide +kernel, srt_eq (by decide +kernel) (by decide +kernel), fun _ => indOk_of (by decide +kernel) (by decide +kernel) (by decide +kernel) (by decide +kernel) (by decide +kernel), by decide +kernel⟩⟩
set_option maxRecDepth 100000 in
theorem known_ok (g : Heap) : FnSpec Try.prog 10 [] g { v := .bool true } := by
  have hb : ∀ x ∈ ban, x < 256 := by decide
  refine known_spec ban_SA (fun v g j h => ?_) (fun v g j h => ?_) (fun v g j h => ?_) g
  · have := saisB_spec 2 v ban g j (by decide) hb ban_saok h
    rwa [ban_sais] at this
  · have := skB_spec 3 v ban g j (by decide) hb ban_skok h
    rw [ban_skew] at this
    have e : rnE banA 0 (srcBlk v) j = ieE banA (srcBlk v) j := by unfold rnE ieE; rw [newE_own (by decide)]; rfl
    rwa [e] at this
  · have := dBytes_spec v ban g j (by decide) hb h
    rwa [ban_dbl] at this
end Go.Proofs.Ytdpkhijbikbhnaa
