/- params: the plain law of any order. -/
import Derived.Test.YtooneejimladdaaPrmD
namespace Go.Proofs.Ytooneejimladdaa
open Go.RowKit
set_option linter.unusedVariables false

/-- the six rows -/
def rowsM (p : Pm) (odd : List Int) (t : Nat) : List Int :=
  match t with
  | 0 => oneM 1 p.i
  | 1 => oneM 4 p.d
  | 2 => oneM 5 p.s
  | 3 => oneM 8 p.m
  | 4 => item 0 p.f
  | _ => item 63 odd
def allM (p : Pm) (odd : List Int) (k j : Nat) : List Int := (List.range j).flatMap fun i => rowsM p odd ((i + k) % 6)
theorem allM_succ (p : Pm) (odd : List Int) (k j : Nat) : allM p odd k (j + 1) = allM p odd k j ++ rowsM p odd ((j + k) % 6) := by
  unfold allM; rw [List.range_succ, List.flatMap_append]; simp
theorem app_not {came : List Int} {y z : Int} (h : y ∉ came) (h2 : y ≠ z) : y ∉ came ++ [z] := by simp [h, h2]
theorem dec_all (p : Pm) (odd R : List Int) (hs : p.small) (ho : odd.length ≤ 1000000) (k : Nat) (hk : k < 6) : ∃ came, (0 : Int) ∈ came ∧ dec (allM p odd k 6 ++ R) zeroPm [] = dec R p came := by
  obtain ⟨i, d, s, m, f⟩ := p
  obtain ⟨h1, h2, h3, h4, h5⟩ := hs
  simp only at h1 h2 h3 h4 h5
  rcases (by omega : k = 0 ∨ k = 1 ∨ k = 2 ∨ k = 3 ∨ k = 4 ∨ k = 5) with rfl | rfl | rfl | rfl | rfl | rfl
  · have he : allM ⟨i, d, s, m, f⟩ odd 0 6 ++ R = oneM 1 i ++ (oneM 4 d ++ (oneM 5 s ++ (oneM 8 m ++ (item 0 f ++ (item 63 odd ++ R))))) := by
      simp [allM, List.range_succ, rowsM]
    refine ⟨_, ?_, by rw [he]; rw [dec_one 1 i _ _ _ (.inl rfl) h1 (by repeat (first | exact List.not_mem_nil | (refine addC_not _ _ _ _ ?_ (by decide)) | (refine app_not ?_ (by decide)))) rfl]; rw [dec_one 4 d _ _ _ (.inr (.inl rfl)) h2 (by repeat (first | exact List.not_mem_nil | (refine addC_not _ _ _ _ ?_ (by decide)) | (refine app_not ?_ (by decide)))) rfl]; rw [dec_one 5 s _ _ _ (.inr (.inr (.inl rfl))) h3 (by repeat (first | exact List.not_mem_nil | (refine addC_not _ _ _ _ ?_ (by decide)) | (refine app_not ?_ (by decide)))) rfl]; rw [dec_one 8 m _ _ _ (.inr (.inr (.inr rfl))) h4 (by repeat (first | exact List.not_mem_nil | (refine addC_not _ _ _ _ ?_ (by decide)) | (refine app_not ?_ (by decide)))) rfl]; rw [dec_name f _ _ _ h5 rfl (by repeat (first | exact List.not_mem_nil | (refine addC_not _ _ _ _ ?_ (by decide)) | (refine app_not ?_ (by decide))))]; rw [dec_odd odd _ _ _ ho]; rfl⟩
    repeat (first | (apply addC_old) | exact List.mem_append_right _ (List.mem_singleton_self 0) | (apply List.mem_append_left))
  · have he : allM ⟨i, d, s, m, f⟩ odd 1 6 ++ R = oneM 4 d ++ (oneM 5 s ++ (oneM 8 m ++ (item 0 f ++ (item 63 odd ++ (oneM 1 i ++ R))))) := by
      simp [allM, List.range_succ, rowsM]
    refine ⟨_, ?_, by rw [he]; rw [dec_one 4 d _ _ _ (.inr (.inl rfl)) h2 (by repeat (first | exact List.not_mem_nil | (refine addC_not _ _ _ _ ?_ (by decide)) | (refine app_not ?_ (by decide)))) rfl]; rw [dec_one 5 s _ _ _ (.inr (.inr (.inl rfl))) h3 (by repeat (first | exact List.not_mem_nil | (refine addC_not _ _ _ _ ?_ (by decide)) | (refine app_not ?_ (by decide)))) rfl]; rw [dec_one 8 m _ _ _ (.inr (.inr (.inr rfl))) h4 (by repeat (first | exact List.not_mem_nil | (refine addC_not _ _ _ _ ?_ (by decide)) | (refine app_not ?_ (by decide)))) rfl]; rw [dec_name f _ _ _ h5 rfl (by repeat (first | exact List.not_mem_nil | (refine addC_not _ _ _ _ ?_ (by decide)) | (refine app_not ?_ (by decide))))]; rw [dec_odd odd _ _ _ ho]; rw [dec_one 1 i _ _ _ (.inl rfl) h1 (by repeat (first | exact List.not_mem_nil | (refine addC_not _ _ _ _ ?_ (by decide)) | (refine app_not ?_ (by decide)))) rfl]; rfl⟩
    repeat (first | (apply addC_old) | exact List.mem_append_right _ (List.mem_singleton_self 0) | (apply List.mem_append_left))
  · have he : allM ⟨i, d, s, m, f⟩ odd 2 6 ++ R = oneM 5 s ++ (oneM 8 m ++ (item 0 f ++ (item 63 odd ++ (oneM 1 i ++ (oneM 4 d ++ R))))) := by
      simp [allM, List.range_succ, rowsM]
    refine ⟨_, ?_, by rw [he]; rw [dec_one 5 s _ _ _ (.inr (.inr (.inl rfl))) h3 (by repeat (first | exact List.not_mem_nil | (refine addC_not _ _ _ _ ?_ (by decide)) | (refine app_not ?_ (by decide)))) rfl]; rw [dec_one 8 m _ _ _ (.inr (.inr (.inr rfl))) h4 (by repeat (first | exact List.not_mem_nil | (refine addC_not _ _ _ _ ?_ (by decide)) | (refine app_not ?_ (by decide)))) rfl]; rw [dec_name f _ _ _ h5 rfl (by repeat (first | exact List.not_mem_nil | (refine addC_not _ _ _ _ ?_ (by decide)) | (refine app_not ?_ (by decide))))]; rw [dec_odd odd _ _ _ ho]; rw [dec_one 1 i _ _ _ (.inl rfl) h1 (by repeat (first | exact List.not_mem_nil | (refine addC_not _ _ _ _ ?_ (by decide)) | (refine app_not ?_ (by decide)))) rfl]; rw [dec_one 4 d _ _ _ (.inr (.inl rfl)) h2 (by repeat (first | exact List.not_mem_nil | (refine addC_not _ _ _ _ ?_ (by decide)) | (refine app_not ?_ (by decide)))) rfl]; rfl⟩
    repeat (first | (apply addC_old) | exact List.mem_append_right _ (List.mem_singleton_self 0) | (apply List.mem_append_left))
  · have he : allM ⟨i, d, s, m, f⟩ odd 3 6 ++ R = oneM 8 m ++ (item 0 f ++ (item 63 odd ++ (oneM 1 i ++ (oneM 4 d ++ (oneM 5 s ++ R))))) := by
      simp [allM, List.range_succ, rowsM]
    refine ⟨_, ?_, by rw [he]; rw [dec_one 8 m _ _ _ (.inr (.inr (.inr rfl))) h4 (by repeat (first | exact List.not_mem_nil | (refine addC_not _ _ _ _ ?_ (by decide)) | (refine app_not ?_ (by decide)))) rfl]; rw [dec_name f _ _ _ h5 rfl (by repeat (first | exact List.not_mem_nil | (refine addC_not _ _ _ _ ?_ (by decide)) | (refine app_not ?_ (by decide))))]; rw [dec_odd odd _ _ _ ho]; rw [dec_one 1 i _ _ _ (.inl rfl) h1 (by repeat (first | exact List.not_mem_nil | (refine addC_not _ _ _ _ ?_ (by decide)) | (refine app_not ?_ (by decide)))) rfl]; rw [dec_one 4 d _ _ _ (.inr (.inl rfl)) h2 (by repeat (first | exact List.not_mem_nil | (refine addC_not _ _ _ _ ?_ (by decide)) | (refine app_not ?_ (by decide)))) rfl]; rw [dec_one 5 s _ _ _ (.inr (.inr (.inl rfl))) h3 (by repeat (first | exact List.not_mem_nil | (refine addC_not _ _ _ _ ?_ (by decide)) | (refine app_not ?_ (by decide)))) rfl]; rfl⟩
    repeat (first | (apply addC_old) | exact List.mem_append_right _ (List.mem_singleton_self 0) | (apply List.mem_append_left))
  · have he : allM ⟨i, d, s, m, f⟩ odd 4 6 ++ R = item 0 f ++ (item 63 odd ++ (oneM 1 i ++ (oneM 4 d ++ (oneM 5 s ++ (oneM 8 m ++ R))))) := by
      simp [allM, List.range_succ, rowsM]
    refine ⟨_, ?_, by rw [he]; rw [dec_name f _ _ _ h5 rfl (by repeat (first | exact List.not_mem_nil | (refine addC_not _ _ _ _ ?_ (by decide)) | (refine app_not ?_ (by decide))))]; rw [dec_odd odd _ _ _ ho]; rw [dec_one 1 i _ _ _ (.inl rfl) h1 (by repeat (first | exact List.not_mem_nil | (refine addC_not _ _ _ _ ?_ (by decide)) | (refine app_not ?_ (by decide)))) rfl]; rw [dec_one 4 d _ _ _ (.inr (.inl rfl)) h2 (by repeat (first | exact List.not_mem_nil | (refine addC_not _ _ _ _ ?_ (by decide)) | (refine app_not ?_ (by decide)))) rfl]; rw [dec_one 5 s _ _ _ (.inr (.inr (.inl rfl))) h3 (by repeat (first | exact List.not_mem_nil | (refine addC_not _ _ _ _ ?_ (by decide)) | (refine app_not ?_ (by decide)))) rfl]; rw [dec_one 8 m _ _ _ (.inr (.inr (.inr rfl))) h4 (by repeat (first | exact List.not_mem_nil | (refine addC_not _ _ _ _ ?_ (by decide)) | (refine app_not ?_ (by decide)))) rfl]; rfl⟩
    repeat (first | (apply addC_old) | exact List.mem_append_right _ (List.mem_singleton_self 0) | (apply List.mem_append_left))
  · have he : allM ⟨i, d, s, m, f⟩ odd 5 6 ++ R = item 63 odd ++ (oneM 1 i ++ (oneM 4 d ++ (oneM 5 s ++ (oneM 8 m ++ (item 0 f ++ R))))) := by
      simp [allM, List.range_succ, rowsM]
    refine ⟨_, ?_, by rw [he]; rw [dec_odd odd _ _ _ ho]; rw [dec_one 1 i _ _ _ (.inl rfl) h1 (by repeat (first | exact List.not_mem_nil | (refine addC_not _ _ _ _ ?_ (by decide)) | (refine app_not ?_ (by decide)))) rfl]; rw [dec_one 4 d _ _ _ (.inr (.inl rfl)) h2 (by repeat (first | exact List.not_mem_nil | (refine addC_not _ _ _ _ ?_ (by decide)) | (refine app_not ?_ (by decide)))) rfl]; rw [dec_one 5 s _ _ _ (.inr (.inr (.inl rfl))) h3 (by repeat (first | exact List.not_mem_nil | (refine addC_not _ _ _ _ ?_ (by decide)) | (refine app_not ?_ (by decide)))) rfl]; rw [dec_one 8 m _ _ _ (.inr (.inr (.inr rfl))) h4 (by repeat (first | exact List.not_mem_nil | (refine addC_not _ _ _ _ ?_ (by decide)) | (refine app_not ?_ (by decide)))) rfl]; rw [dec_name f _ _ _ h5 rfl (by repeat (first | exact List.not_mem_nil | (refine addC_not _ _ _ _ ?_ (by decide)) | (refine app_not ?_ (by decide))))]; rfl⟩
    repeat (first | (apply addC_old) | exact List.mem_append_right _ (List.mem_singleton_self 0) | (apply List.mem_append_left))
theorem dec_order (p : Pm) (odd : List Int) (hp : p.ok) (hr : rightM p = true) (ho : odd.length ≤ 1000000) (k : Nat) (hk : k < 6) : decF (allM p odd k 6) = (p, true) ∧ decF (allM p odd k 6 ++ item 0 p.f) = (zeroPm, false) := by
  have hs := hp.small hr
  constructor
  · obtain ⟨came, h0, h⟩ := dec_all p odd [] hs ho k hk
    rw [List.append_nil, dec_nil] at h
    rw [decF_dec, h]
    unfold decC
    simp only
    rw [if_pos ⟨h0, hr⟩]
  · obtain ⟨came, h0, h⟩ := dec_all p odd (item 0 p.f) hs ho k hk
    have h2 := dec_name2 p.f [] p came hs.f h0
    rw [List.append_nil] at h2
    rw [decF_dec, h, h2]
    rfl
end Go.Proofs.Ytooneejimladdaa
