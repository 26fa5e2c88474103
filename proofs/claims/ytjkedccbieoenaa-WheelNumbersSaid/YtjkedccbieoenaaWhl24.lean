/- wheel: the law's without. -/
import Derived.Test.YtjkedccbieoenaaWhl21
namespace Go.Proofs.Ytjkedccbieoenaa
open Go.RowKit
set_option linter.unusedVariables false
set_option linter.unusedSimpArgs false

set_option maxRecDepth 100000 in
theorem tmL : TmTy 70 64 := ⟨Try.underlying64, by kernel_rfl⟩
/-- a row of timers in a block of its own, above a base. -/
def TsR (B : Nat) (w : World) (l : List Tm) (v : Value) : Prop := ∃ a cap, v = .slice a l.length cap ∧ l.length ≤ cap ∧ cap ≤ 9223372036854775807 ∧ Tms w a l.length l ∧ ∀ x, a = some x → B ≤ x.block ∧ x.block < w.heap.size
theorem own_capT {w : World} {base e n size : Nat} {v : Value} {xs : List Value} (h : w.ownsRow base e size v n xs) : ∀ b l c, v = .slice b l c → c ≤ 9223372036854775807 := by
  intro b l c hv
  rcases h.2 with ⟨h1, _⟩ | ⟨g, cap, cur, h1, hg, hrow, hn, hc, hsz, htk⟩
  · rw [h1] at hv; injection hv with h1 h2 h3; omega
  · rw [h1] at hv; injection hv with h1 h2 h3; unfold maxLen at hc; omega
theorem TsR.of {B : Nat} {w : World} {l : List Tm} {v : Value} {E n : Nat} (h : w.ownsRow B E 2 v n (rowV l)) (hw : ∀ x ∈ l, tmwf x) : TsR B w l v := by
  have hn : n = l.length := by have := h.1; rw [rowV_len] at this; omega
  subst hn
  obtain ⟨a, cap, rfl, hle⟩ := own_slice h
  exact ⟨a, cap, rfl, hle, own_capT h _ _ _ rfl, Tms.of_own h hw, fun x hx => h.lt x.block (by rw [hx]; rfl)⟩
theorem take_drop_dropT {l : List Tm} {i : Nat} {x : Tm} (hn : (l.map Prod.fst).Nodup) (hx : l[i]? = some x) : l.take i ++ l.drop (i + 1) = dropT l x.1 := by
  have hk := List.getElem?_eq_some_iff.1 hx
  have hs : l = l.take i ++ x :: l.drop (i + 1) := by rw [← hk.2, ← List.drop_eq_getElem_cons hk.1, List.take_append_drop]
  rw [hs, List.map_append, List.map_cons, List.nodup_append, List.nodup_cons] at hn
  unfold dropT
  conv => rhs; rw [hs]
  rw [List.filter_append, List.filter_cons_of_neg (by simp)]
  congr 1
  · symm; rw [List.filter_eq_self]
    intro y hy
    have := hn.2.2 _ (List.mem_map_of_mem (f := Prod.fst) hy) x.1 (List.mem_cons_self ..)
    simpa using this
  · symm; rw [List.filter_eq_self]
    intro y hy
    have h2 : y.1 ≠ x.1 := fun e => hn.2.1.1 (by rw [← e]; exact List.mem_map_of_mem hy)
    simpa using h2
theorem Tms.rest {w : World} {b off n cap : Nat} {l : List Tm} (h : Tms w (some ⟨b, off, none⟩) n l) (k : Nat) (hk : k ≤ n) (hc : n ≤ cap) : Tms w (if cap = k then some ⟨b, off, none⟩ else some ⟨b, off + k * 2, none⟩) (n - k) (l.drop k) := by
  split
  · have e : n = k := by omega
    subst e
    rw [Nat.sub_self, List.drop_of_length_le (by rw [h.1]; exact Nat.le_refl _)]
    exact Tms.nil _ _
  · rw [Nat.mul_comm]; exact h.suf k hk
theorem mk_own (B : Nat) (w : World) (hB : B ≤ w.heap.size) : (w.alloc (.cells #[] 70)).ownsRow B 70 2 (.slice (some ⟨w.heap.size, 0, none⟩) 0 0) 0 (rowV []) :=
  World.ownsRow_made (base := B) (e := 70) (size := 2) w #[] 0 hB (by unfold maxLen; omega) rfl
/-- what without tells. -/
def WoR (w : World) (a : Option Addr) (n cap : Nat) (l : List Tm) (id : Int) (e : Ending) (w' : World) : Prop :=
  (id ∉ l.map Prod.fst ∧ e = .returned (.tuple #[.slice a n cap, .bool false]) ∧ w' = w) ∨
  (id ∈ l.map Prod.fst ∧ ∃ v, e = .returned (.tuple #[v, .bool true]) ∧ TsR w.heap.size w' (dropT l id) v ∧ Below w.heap.size w w')
set_option maxRecDepth 100000 in
set_option maxHeartbeats 8000000 in
theorem without_any (w : World) (a : Option Addr) (n cap : Nat) (l : List Tm) (id : Int) (hI : Tms w a n l) (hnd : (l.map Prod.fst).Nodup) (hn : n ≤ 1000) (hc : n ≤ cap ∧ cap ≤ 9223372036854775807) :
    Calls Try.prog 28 #[.slice a n cap, .int .i64 id] w (WoR w a n cap l id) := by
  have HI := Lib.hid hI; have HND := Lib.hid hnd; have HC := Lib.hid hc
  clear hI hnd hc
  go_enter Try.func28, Try.ntmps28
  go_wp2_with fail
  go_loopw [6] (fun i wr => ∃ (k : Nat), i = .int .i64 k ∧ k ≤ n ∧ Hid (wr = w) ∧ Hid (∀ x ∈ l.take k, x.1 ≠ id)) (fun i _ => n - (intOf i).toNat)
  case atStart => exact ⟨0, rfl, by omega, Lib.hid rfl, Lib.hid (fun x hx => by simp at hx)⟩
  case round =>
    obtain ⟨k, rfl, hk, hwr, HM⟩ := hrel
    obtain rfl := hwr.out
    by_cases hlt : k < n
    · obtain ⟨b, off, x, rfl, hbl, hx, hxw, c0, c1⟩ := HI.out.at hlt
      have hk2 : off + k * 2 = off + 2 * k := by omega
      have c0' : wr.cell? ⟨b, off + k * 2, none⟩ = some (.int .i64 x.1) := by rw [hk2]; exact c0
      have HX := Lib.hid hx; have HXW := Lib.hid hxw
      clear c0 c1 hk2 hx hxw
      by_cases he : x.1 = id
      · have HE := Lib.hid he
        have he2 : (x.1 == id) = true := by simpa using he
        go_upto_region 5 with fail
        clear c0' he2
        refine wp_plan (.t 1 (.t 2 (.t 3 (.t 5 (.t 6 (.t 7 (.t 8 (.u 0 (.u 4 (.u 9 (.t 10 (.t 11 .done)))))))))))) (fun y => Below wr.heap.size wr y) (by kernel_rfl) (by kernel_rfl) (by kernel_rfl) (fun c a d v w h => by cases d <;> exact h) (Below.refl _ _).drew ?_
        have hcc := HC.out.1; have hcm := HC.out.2
        have hS : (fun y => Below wr.heap.size wr y) wr.drew := (Below.refl _ _).drew
        haveI hne : Nonempty (In (fun y => Below wr.heap.size wr y)) := ⟨⟨wr, Below.refl _ _⟩⟩
        repeat (first | (refine plan_t (by rfl) ?_; (first | go_big_quiet_skip | (go_big_quiet_want; go_big_quiet_op; go_big_quiet_on)); refine wpQuiet_nil ?_))
        obtain ⟨bs, hbs⟩ : ∃ z, (if cap = k + 1 then some (⟨b, off, none⟩ : Addr) else some ⟨b, off + (k + 1) * 2, none⟩) = z := ⟨_, rfl⟩
        have hrest : ∀ W, Below wr.heap.size wr W → Tms W bs (n - (k + 1)) (l.drop (k + 1)) := fun W hb => by rw [← hbs]; exact (HI.out.below hb).rest (k + 1) (by omega) hcc
        rw [hbs]
        clear hcc hcm hbs
        generalize wr.drew = W3 at hS ⊢
        refine plan_us (by rfl) (by kernel_rfl) ?_
        intro K hK
        go_wp2_with fail
        have hal := (Below.refl W3.heap.size W3).alloc (Nat.le_refl _) (.cells #[] 70)
        have ho4 := mk_own wr.heap.size W3 hS.size
        have hS4 := bl_next hS hS.size hal
        refine ⟨hS4, ?_⟩
        clear hal
        have hg0 := hS.size
        generalize W3.alloc (.cells #[] 70) = W4 at hS4 ho4 ⊢
        generalize W3.heap.size = g0 at ho4 hg0 ⊢
        clear hS
        have hn1 : (l.take k).length = k := by rw [List.length_take, ← HI.out.1]; omega
        refine plan_us (by rfl) (by kernel_rfl) ?_
        intro K hK
        refine wp_append_tm tmL _ _ rfl wr.heap.size 0 (.slice (some ⟨g0, 0, none⟩) 0 0) [] rfl ho4 _ k cap (l.take k) rfl ((HI.out.below hS4).pre k (by omega)) (by omega) hS4.size ?_
        intro v1 W5 ho5 hg5 hor5
        have hS5 : Below wr.heap.size wr W5 := hS4.grown hg5 hS4.size (by intro q hq; simp [Value.ownBlock] at hq; omega)
        refine hK _ _ ⟨hS5, ?_⟩
        simp only [Act.put, List.setIfInBounds_toArray, List.set_cons_succ, List.set_cons_zero]
        clear hK hS4 ho4
        rw [List.nil_append, Nat.zero_add] at ho5
        have hl5 := ho5.lt
        clear hg5 hor5
        refine plan_us (by rfl) (by kernel_rfl) ?_
        intro K hK
        refine wp_append_tm tmL _ _ rfl wr.heap.size k v1 (l.take k) rfl ho5 _ (n - (k + 1)) (cap - (k + 1)) (l.drop (k + 1)) rfl (hrest _ hS5) (by omega) hS5.size ?_
        intro v2 W6 ho6 hg6 hor6
        have hS6 : Below wr.heap.size wr W6 := hS5.grown hg6 hS5.size (by intro q hq; exact (hl5 q hq).1)
        refine hK _ _ ⟨hS6, ?_⟩
        simp only [Act.put, List.setIfInBounds_toArray, List.set_cons_succ, List.set_cons_zero]
        clear hK hS5 ho5 hl5 hg6 hor6
        repeat (first | (refine plan_t (by rfl) ?_; (first | go_big_quiet_skip | (go_big_quiet_want; go_big_quiet_op; go_big_quiet_on)); refine wpQuiet_nil ?_))
        clear hne
        show Exit.then _ _ _ _ _
        have hnot : (x.1 ∈ l.map Prod.fst) := List.mem_map_of_mem (List.mem_of_getElem? HX.out)
        rw [take_drop_dropT HND.out HX.out] at ho6
        have hR : TsR wr.heap.size W6 (dropT l x.1) v2 := TsR.of ho6 (fun y hy => HI.out.2.1 y (List.mem_filter.1 hy).1)
        rw [HE.out] at hnot hR
        have HR := Lib.hid (And.intro hnot (And.intro hR hS6))
        clear hnot hR hS6 ho6 hn1 hg0
        go_wp2_with fail
        go_ret2
        exact .inr ⟨HR.out.1, _, rfl, HR.out.2.1, HR.out.2.2⟩
      · have HE := Lib.hid he
        have he2 : (x.1 == id) = false := by simpa using he
        go_wp2_with fail
        go_roundw
        case rel => exact ⟨k + 1, by go_num, by omega, by first | exact Lib.hid rfl | trivial, Lib.hid (fun y hy => by rw [List.take_add_one, HX.out] at hy; rcases List.mem_append.1 hy with hy | hy; (exact HM.out y hy); (simp at hy; rw [hy]; exact HE.out))⟩
        case measure => simp [intOf]; omega
    · obtain rfl : k = n := by omega
      go_wp2_with fail
      go_ret2
      refine .inl ⟨fun hm => ?_, rfl, rfl⟩
      obtain ⟨x, hx, e⟩ := List.mem_map.1 hm
      exact HM.out x (by rw [HI.out.1, List.take_length]; exact hx) e
end Go.Proofs.Ytjkedccbieoenaa
