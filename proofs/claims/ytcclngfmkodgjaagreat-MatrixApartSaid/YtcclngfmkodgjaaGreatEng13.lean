/- The engine, part 13: code, loops, functions. -/
import Derived.Test.YtcclngfmkodgjaaGreatEngN
import Derived.Scope
set_option linter.unusedVariables false
set_option linter.unusedSectionVars false
set_option linter.unusedSimpArgs false
namespace Go.Eng
open Go
variable {D : Den} [Gl D]

def exitOf : Ex → Exit
  | .nor => .normal
  | .exit id => .exit id
  | .ret => .ret

def ExecOK (P : Program) (U : Univ D) (k N : Nat) (c : Code) (fr : Fr D) (hp : Heap D) (ex : Ex) (fr' : Fr D) (hp' : Heap D) : Prop :=
  ∀ (w : World) (E : Emb) (a : Act), Inv U w E hp → FrOk U w E hp N a fr → ∀ Q : Exit → Act → World → Prop,
    (∀ a' w' E', Inv U w' E' hp' → StepK k U w E hp w' E' hp' → FrOk U w' E' hp' N a' fr' → Q (exitOf ex) a' w') → c.wp P Q a w

def normF (live ids : List Nat) (fr : Fr D) : Fr D := live.map fun s => (s, ren (idx ids) 8 (look fr s))
def idsOk : Nat → Nat → List Nat → Bool
  | 0, _, _ => true
  | k + 1, j, i :: r => Nat.beq i j && idsOk k (j + 1) r
  | _ + 1, _, [] => false
def normH (k : Nat) (ids : List Nat) (hp : Heap D) : Option (Heap D) :=
  match idsOk k 0 ids, nodup ids with
  | true, true => sub hp (idx ids) ids
  | _, _ => none

abbrev Out (D : Den) := List Prop × Ex × Fr D × Heap D × List (Ans D)

def sumA (P : Program) (U : Univ D) (k N : Nat) (c : Code) (fr : Fr D) (hp : Heap D) : List (Ans D) → Option (Out D)
  | .sum live ids ex fr' hp' :: π => match normH k ids hp with
    | some h => some ([ExecOK P U k N c (normF live ids fr) h ex fr' hp'], ex, fr', hp', π)
    | none => none
  | _ => none

def unCut : List (Ans D) → Option (List (Ans D))
  | .cut live ids ex fr hp :: π => some (.sum live ids ex fr hp :: π)
  | _ => none
def unSkp : List (Ans D) → List (Ans D)
  | .skp :: π => π
  | π => π

def splitQ (ms : List Nat) : Nat → Nat
  | 0 => 0
  | n + 1 => match (List.range n).all fun j => ((ms[n]?).getD 0).testBit j with
    | true => splitQ ms n
    | false => n + 1

def unrA : List (Ans D) → Option (Nat × List (Ans D))
  | .frz [n] :: π => some (n, π)
  | _ => none
def iterL (f : Fr D → Heap D → List (Ans D) → Option (Out D)) : Nat → Fr D → Heap D → List (Ans D) → Option (Out D)
  | 0, _, _, _ => none
  | n + 1, fr, hp, π => match f fr hp π with
    | some (ps, .nor, fr1, hp1, π1) => match iterL f n fr1 hp1 π1 with
      | some (qs, ex, fr2, hp2, π2) => some (ps ++ qs, ex, fr2, hp2, π2)
      | none => none
    | r => r

def exec (P : Program) (U : Univ D) (k N : Nat) : Code → Fr D → Heap D → List (Ans D) → Option (Out D)
  | .skip, fr, hp, π => some ([], .nor, fr, hp, π)
  | .label _, fr, hp, π => some ([], .nor, fr, hp, π)
  | .ret, fr, hp, π => some ([], .ret, fr, hp, π)
  | .exit id, fr, hp, π => some ([], .exit id, fr, hp, π)
  | .region _ ops false, fr, hp, π => match ghosts U π hp with
    | some (gs, hp0, π0) => match runOps P U N ops.toList ops.toList fr hp0 π0 with
      | some (ps, fr', hp1, π1) => match ghosts U π1 hp1 with
        | some (qs, hp', π') => some (gs ++ (ps ++ qs), .nor, fr', hp', π')
        | none => none
      | none => none
    | none => none
  | .region _ ops true, fr, hp, π => match ghosts U π hp with
    | some (gs, hp0, π0) => match runDraw P U N ops.toList fr hp0 (splitQ (masks ops.toList []) ops.size) π0 with
      | some (ps, fr', hp1, π1) => match ghosts U π1 hp1 with
        | some (qs, hp', π') => some (gs ++ (ps ++ qs), .nor, fr', hp', π')
        | none => none
      | none => none
    | none => none
  | .seq a b, fr, hp, π => match (match unCut π with | some π0 => sumA P U k N a fr hp π0 | none => exec P U k N a fr hp (unSkp π)) with
    | some (ps, .nor, fr1, hp1, π1) => match exec P U k N b fr1 hp1 π1 with
      | some (qs, ex, fr2, hp2, π2) => some (ps ++ qs, ex, fr2, hp2, π2)
      | none => none
    | some (ps, .exit id, fr1, hp1, π1) => some (ps, .exit id, fr1, hp1, π1)
    | some (ps, .ret, fr1, hp1, π1) => some (ps, .ret, fr1, hp1, π1)
    | none => none
  | .cond c a b, fr, hp, π => match evalC P fr 0 c with
    | .db t => match t with
      | true => exec P U k N a fr hp π
      | false => exec P U k N b fr hp π
    | .v (.bool t) => match π with
      | .dec true :: π' => match exec P U k N a fr hp π' with
        | some (qs, ex, fr2, hp2, π2) => some ((t = true) :: qs, ex, fr2, hp2, π2)
        | none => none
      | .dec false :: π' => match exec P U k N b fr hp π' with
        | some (qs, ex, fr2, hp2, π2) => some ((t = false) :: qs, ex, fr2, hp2, π2)
        | none => none
      | π => sumA P U k N (.cond c a b) fr hp π
    | _ => none
  | .block id b, fr, hp, π => match exec P U k N b fr hp π with
    | some (ps, .exit i, fr1, hp1, π1) => match Nat.beq i id with
      | true => some (ps, .nor, fr1, hp1, π1)
      | false => some (ps, .exit i, fr1, hp1, π1)
    | r => r
  | .scope b, fr, hp, π => exec P U k N b fr hp π
  | .loop b, fr, hp, π => match unrA π with
    | some (n, π') => iterL (exec P U k N b) n fr hp π'
    | none => match sumA P U k N (.loop b) fr hp π with
      | some (ps, ex, fr1, hp1, π1) => match ghosts U π1 hp1 with
        | some (qs, hp2, π2) => some (ps ++ qs, ex, fr1, hp2, π2)
        | none => none
      | none => none
  | _, _, _, _ => none

section
variable {P : Program} {U : Univ D} {a : Act} {w : World} {E : Emb} {hp : Heap D} {k N : Nat}

theorem idsOk_spec : ∀ {k j : Nat} {ids : List Nat}, idsOk k j ids = true → ∀ i, i < k → ids[i]? = some (j + i)
  | 0, j, ids, _, i, h => by omega
  | k + 1, j, [], h, i, _ => by simp [idsOk] at h
  | k + 1, j, q :: r, h, i, hi => by
    simp only [idsOk, Bool.and_eq_true] at h
    have hq : q = j := Nat.eq_of_beq_eq_true h.1
    cases i with
    | zero => simp [hq]
    | succ i =>
      have := idsOk_spec h.2 i (by omega)
      simpa [Nat.add_assoc, Nat.add_comm 1 i] using this

theorem norm_sound {live ids : List Nat} {fr : Fr D} {h : Heap D} (hi : Inv U w E hp) (hf : FrOk U w E hp N a fr) (hn : normH k ids hp = some h) :
    ∃ E2, Inv U w E2 h ∧ StepK k U w E hp w E2 h ∧ FrOk U w E2 h N a (normF live ids fr) ∧ (∀ v c, Rep U w E hp v c → Rep U w E2 h v (ren (idx ids) 8 c)) := by
  unfold normH at hn
  split at hn
  case h_2 => cases hn
  rename_i hok hnd
  obtain ⟨hhl, hsub⟩ := sub_spec ids h hn
  let E2 : Emb := { m := fun j => match ids[j]? with | some i => E.m i | none => none, S := E.S }
  have hE2 : ∀ (j : Nat) i, ids[j]? = some i → E2.m j = E.m i := fun j i hj => by simp only [E2, hj]
  have hget : ∀ (j : Nat) oj, h[j]? = some oj → ∃ (i : Nat) (o : AObj D), ids[j]? = some i ∧ hp[i]? = some o ∧ oj = renO (idx ids) o := by
    intro j oj hj
    have hjl : j < ids.length := by rw [← hhl]; exact (List.getElem?_eq_some_iff.1 hj).1
    obtain ⟨o, ho, h2⟩ := hsub j _ (List.getElem?_eq_getElem hjl)
    rw [h2] at hj; injection hj with hj
    exact ⟨_, o, List.getElem?_eq_getElem hjl, ho, hj.symm⟩
  have hρ : ∀ id j o, idx ids id = some j → hp[id]? = some o → h[j]? = some (renO (idx ids) o) ∧ E2.m j = E.m id := by
    intro id j o hj ho
    have := idx_spec hj
    obtain ⟨o', ho', h2⟩ := hsub j id this
    rw [ho] at ho'; injection ho' with ho'; subst ho'
    exact ⟨h2, hE2 j id this⟩
  have own2 : ∀ b, Own E2 h b → Own E hp b := by
    rintro b ⟨j, oj, hj, hf, hm⟩
    obtain ⟨i, o, hji, ho, rfl⟩ := hget j oj hj
    exact ⟨i, o, ho, by rw [renO_fz] at hf; exact hf, hm.congr (hE2 j i hji).symm⟩
  have rr : ∀ v c, Rep U w E hp v c → Rep U w E2 h v (ren (idx ids) 8 c) := fun v c hr => ren_sound (E := E) (hp := hp) (E2 := E2) (fun _ h => h) hρ 8 v c hr
  refine ⟨E2, ⟨fun j oj hj => ?_, fun j1 j2 o1 o2 b g1 g2 f1 f2 m1 m2 => ?_, hi.sb, hi.gl⟩, ⟨rfl, rfl, rfl, fun _ _ _ => rfl, Nat.le_refl _, fun _ _ _ => rfl, fun b _ h => own2 b h, fun _ h => h, fun _ h => .inl h, fun id o hid ho => ?_⟩, ⟨hf.size, hf.defers, fun s => ?_⟩, rr⟩
  · obtain ⟨i, o, hji, ho, rfl⟩ := hget j oj hj
    rw [hE2 j i hji]
    refine renObj_sound (E := E) (hp := hp) (E2 := E2) (fun _ h => h) hρ (fun b b0 cap hm hb hf => ?_) (hi.obj i o ho)
    exact Own.notS hi ⟨i, o, ho, hf, b0, cap, hm, hb⟩
  · obtain ⟨i1, p1, q1, r1, rfl⟩ := hget j1 o1 g1
    obtain ⟨i2, p2, q2, r2, rfl⟩ := hget j2 o2 g2
    rw [renO_fz] at f1 f2
    have := hi.inj i1 i2 p1 p2 b r1 r2 f1 f2 (m1.congr (hE2 j1 i1 q1).symm) (m2.congr (hE2 j2 i2 q2).symm)
    subst this
    exact nodup_spec hnd q1 q2
  · have hj := idsOk_spec hok id hid
    rw [Nat.zero_add] at hj
    obtain ⟨o', ho', h2⟩ := hsub id id hj
    rw [ho] at ho'; injection ho' with ho'; subst ho'
    exact ⟨_, h2, renO_wid _ _, by rw [renO_len]; exact Nat.le_refl _, fun _ => by rw [hE2 id id hj]⟩
  · have key : ∀ l : List Nat, look (l.map fun s => (s, ren (idx ids) 8 (look fr s))) s = .un ∨ look (l.map fun s => (s, ren (idx ids) 8 (look fr s))) s = ren (idx ids) 8 (look fr s) := by
      intro l
      induction l with
      | nil => exact .inl rfl
      | cons q r ih =>
        simp only [List.map_cons, look]
        split
        · rename_i hqs
          have : q = s := Nat.eq_of_beq_eq_true hqs
          subst this
          exact .inr rfl
        · exact ih
    show Rep U w E2 h _ (look (normF live ids fr) s)
    unfold normF
    rcases key live with e | e
    · rw [e]; exact .un _
    · rw [e]; exact rr _ _ (hf.slots s)

theorem sumA_sound {c : Code} {fr fr' : Fr D} {hp' : Heap D} {π π' : List (Ans D)} {ps : List Prop} {ex : Ex} (h : sumA P U k N c fr hp π = some (ps, ex, fr', hp', π')) (hps : AllP ps) :
    ExecOK P U k N c fr hp ex fr' hp' := by
  unfold sumA at h
  split at h
  case h_2 => cases h
  split at h
  case h_2 => cases h
  rename_i hh hn
  simp only [Option.some.injEq, Prod.mk.injEq] at h
  obtain ⟨rfl, rfl, rfl, rfl, _⟩ := h
  intro w E a hi hf Q hQ
  obtain ⟨E2, i2, s2, f2, _⟩ := norm_sound hi hf hn
  exact hps.1 w E2 a i2 f2 Q fun a' w' E' i3 s3 f3 => hQ a' w' E' i3 (s2.trans s3) f3

theorem wp_loop_idx {c : Code} {Q : Exit → Act → World → Prop} (I : Nat → Act → World → Prop) (n : Nat) (h0 : I n a w)
    (round : ∀ n a w, I n a w → c.wp P (Exit.then (fun a' w' => ∃ m, m < n ∧ I m a' w') Q) a w) : (Code.loop c).wp P Q a w := by
  intro b k cs
  have key : ∀ n a w, I n a w → ∃ e a' w', Q e a' w' ∧ Arrives P (lone (b.at a (.code c :: .inLoop c :: k)) cs w) b k cs e a' w' := by
    intro n
    induction n using Nat.strongRecOn with
    | _ n ih =>
      intro a w hI
      obtain ⟨e, a₁, w₁, hq, harr⟩ := round n a w hI b (.inLoop c :: k) cs
      cases e with
      | normal =>
        obtain ⟨m, hlt, hI₁⟩ := hq
        obtain ⟨e₂, a₂, w₂, hq₂, harr₂⟩ := ih m hlt a₁ w₁ hI₁
        exact ⟨e₂, a₂, w₂, hq₂, .of_steps (Steps.trans harr (.one step_inLoop)) harr₂⟩
      | exit id => exact ⟨_, a₁, w₁, hq, .pass (x := .inLoop c) rfl (fun _ _ => .inl (by simp)) harr⟩
      | goto l => exact ⟨_, a₁, w₁, hq, .pass (x := .inLoop c) rfl (fun _ _ => .inl (by simp)) harr⟩
      | ret => exact ⟨_, a₁, w₁, hq, .pass (x := .inLoop c) rfl (fun _ _ => .inl (by simp)) harr⟩
      | panic ch => exact ⟨_, a₁, w₁, hq, .pass (x := .inLoop c) rfl (fun _ _ => .inl (by simp)) harr⟩
      | outgrown => exact ⟨_, a₁, w₁, hq, .pass (x := .inLoop c) rfl (fun _ _ => .inl (by simp)) harr⟩
  obtain ⟨e, a', w', hq, harr⟩ := key n a w h0
  exact ⟨e, a', w', hq, .of_steps (.one step_loop) harr⟩

inductive Rounds (P : Program) (U : Univ D) (k N : Nat) (b : Code) (ex : Ex) (fr' : Fr D) (hp' : Heap D) : Nat → Fr D → Heap D → Prop where
  | last (n : Nat) (fr : Fr D) (hp : Heap D) (h : ExecOK P U k N b fr hp ex fr' hp') (hne : ex ≠ .nor) : Rounds P U k N b ex fr' hp' n fr hp
  | more (n : Nat) (fr fr1 : Fr D) (hp hp1 : Heap D) (h : ExecOK P U k N b fr hp .nor fr1 hp1) (r : Rounds P U k N b ex fr' hp' n fr1 hp1) : Rounds P U k N b ex fr' hp' (n + 1) fr hp
theorem rounds_sound {b : Code} {ex : Ex} {fr fr' : Fr D} {hp hp' : Heap D} {n : Nat} (h : Rounds P U k N b ex fr' hp' n fr hp) : ExecOK P U k N (.loop b) fr hp ex fr' hp' := by
  intro w E a hi hf Q hQ
  refine wp_loop_idx (fun n a1 w1 => ∃ fr1 hp1 E1, Rounds P U k N b ex fr' hp' n fr1 hp1 ∧ Inv U w1 E1 hp1 ∧ FrOk U w1 E1 hp1 N a1 fr1 ∧ StepK k U w E hp w1 E1 hp1) n
    ⟨fr, hp, E, h, hi, hf, StepK.refl ..⟩ (fun n a1 w1 hI => ?_)
  obtain ⟨fr1, hp1, E1, hr, i1, f1, st1⟩ := hI
  cases hr with
  | last _ _ _ hx hne =>
    refine hx w1 E1 a1 i1 f1 _ fun a2 w2 E2 i2 st2 f2 => ?_
    have := hQ a2 w2 E2 i2 (st1.trans st2) f2
    cases ex with
    | nor => exact absurd rfl hne
    | exit id => exact this
    | ret => exact this
  | more m _ fr2 _ hp2 hx hr =>
    refine hx w1 E1 a1 i1 f1 _ fun a2 w2 E2 i2 st2 f2 => ?_
    exact ⟨m, Nat.lt_succ_self m, fr2, hp2, E2, hr, i2, f2, st1.trans st2⟩
theorem iterL_rounds {b : Code} {f : Fr D → Heap D → List (Ans D) → Option (Out D)} (hf : ∀ fr fr' hp hp' π π' ps ex, f fr hp π = some (ps, ex, fr', hp', π') → AllP ps → ExecOK P U k N b fr hp ex fr' hp') :
    ∀ (n : Nat) (fr fr' : Fr D) (hp hp' : Heap D) (π π' : List (Ans D)) (ps : List Prop) (ex : Ex), iterL f n fr hp π = some (ps, ex, fr', hp', π') → AllP ps → ∃ m, Rounds P U k N b ex fr' hp' m fr hp
  | 0, fr, fr', hp, hp', π, π', ps, ex, h, hps => by simp [iterL] at h
  | n + 1, fr, fr', hp, hp', π, π', ps, ex, h, hps => by
    simp only [iterL] at h
    split at h
    · rename_i qs fr1 hp1 π1 hx
      split at h
      case h_2 => cases h
      rename_i rs ex2 fr2 hp2 π2 hy
      simp only [Option.some.injEq, Prod.mk.injEq] at h
      obtain ⟨rfl, rfl, rfl, rfl, _⟩ := h
      rw [AllP_append] at hps
      obtain ⟨m, hm⟩ := iterL_rounds hf n fr1 fr2 hp1 hp2 π1 π2 rs ex2 hy hps.2
      exact ⟨m + 1, .more m _ _ _ _ (hf _ _ _ _ _ _ _ _ hx hps.1) hm⟩
    · rename_i hne
      refine ⟨0, .last _ _ _ (hf _ _ _ _ _ _ _ _ h hps) ?_⟩
      rintro rfl
      exact hne _ _ _ _ h

theorem exec_sound (hmix : P.follows .mixedOrders = true) : ∀ (c : Code) (fr fr' : Fr D) (hp hp' : Heap D) (π π' : List (Ans D)) (ps : List Prop) (ex : Ex), exec P U k N c fr hp π = some (ps, ex, fr', hp', π') → AllP ps →
    ExecOK P U k N c fr hp ex fr' hp'
  | .skip, fr, fr', hp, hp', π, π', ps, ex, h, hps => by
    simp only [exec, Option.some.injEq, Prod.mk.injEq] at h
    obtain ⟨_, rfl, rfl, rfl, _⟩ := h
    exact fun w E a hi hf Q hQ => wp_skip (hQ a w E hi (StepK.refl ..) hf)
  | .label l, fr, fr', hp, hp', π, π', ps, ex, h, hps => by
    simp only [exec, Option.some.injEq, Prod.mk.injEq] at h
    obtain ⟨_, rfl, rfl, rfl, _⟩ := h
    exact fun w E a hi hf Q hQ => wp_label (hQ a w E hi (StepK.refl ..) hf)
  | .ret, fr, fr', hp, hp', π, π', ps, ex, h, hps => by
    simp only [exec, Option.some.injEq, Prod.mk.injEq] at h
    obtain ⟨_, rfl, rfl, rfl, _⟩ := h
    exact fun w E a hi hf Q hQ => wp_ret (hQ a w E hi (StepK.refl ..) hf)
  | .exit id, fr, fr', hp, hp', π, π', ps, ex, h, hps => by
    simp only [exec, Option.some.injEq, Prod.mk.injEq] at h
    obtain ⟨_, rfl, rfl, rfl, _⟩ := h
    exact fun w E a hi hf Q hQ => wp_exit (hQ a w E hi (StepK.refl ..) hf)
  | .region id ops false, fr, fr', hp, hp', π, π', ps, ex, h, hps => by
    simp only [exec] at h
    split at h
    case h_2 => cases h
    rename_i gs hp0 π0 hg
    split at h
    case h_2 => cases h
    rename_i qs fr1 hp1 π1 hr
    split at h
    case h_2 => cases h
    rename_i rs hp2 π2 hg2
    simp only [Option.some.injEq, Prod.mk.injEq] at h
    obtain ⟨rfl, rfl, rfl, rfl, _⟩ := h
    rw [AllP_append, AllP_append] at hps
    intro w E a hi hf Q hQ
    obtain ⟨E0, i0, s0⟩ := ghosts_sound π π0 hp hp0 E gs hg hps.1 hi
    have f0 : FrOk U w E0 hp0 N a fr := ⟨hf.size, hf.defers, fun s => s0.rep hi (hf.slots s)⟩
    have hQ' : ∀ a' w' E', Inv U w' E' hp1 → Step U w E0 hp0 w' E' hp1 → FrOk U w' E' hp1 N a' fr1 → Q (exitOf .nor) a' w' := fun a' w' E' i1 s1 f1 => by
      obtain ⟨E2, i2, s2⟩ := ghosts_sound π1 π2 hp1 hp2 E' rs hg2 hps.2.2 i1
      exact hQ a' w' E2 i2 ((s0.trans (s1.trans s2)).toK k) ⟨f1.size, f1.defers, fun s => s2.rep i1 (f1.slots s)⟩
    refine wp_region ?_
    have := runOps_sound (Q := Q) ops.toList 0 a w E0 hp0 hp1 fr fr1 π0 π1 qs (fun i => by simp) hr hps.2.1 i0 f0 (fun a' w' E' i1 s1 f1 => hQ' a' w' E' i1 s1 f1)
    rwa [Array.length_toList, ← List.range_eq_range'] at this
  | .region id ops true, fr, fr', hp, hp', π, π', ps, ex, h, hps => by
    simp only [exec] at h
    split at h
    case h_2 => cases h
    rename_i gs hp0 π0 hg
    split at h
    case h_2 => cases h
    rename_i qs fr1 hp1 π1 hr
    split at h
    case h_2 => cases h
    rename_i rs hp2 π2 hg2
    simp only [Option.some.injEq, Prod.mk.injEq] at h
    obtain ⟨rfl, rfl, rfl, rfl, _⟩ := h
    rw [AllP_append, AllP_append] at hps
    intro w E a hi hf Q hQ
    obtain ⟨E0, i0, s0⟩ := ghosts_sound π π0 hp hp0 E gs hg hps.1 hi
    have f0 : FrOk U w E0 hp0 N a fr := ⟨hf.size, hf.defers, fun s => s0.rep hi (hf.slots s)⟩
    have hQ' : ∀ a' w' E', Inv U w' E' hp1 → Step U w E0 hp0 w' E' hp1 → FrOk U w' E' hp1 N a' fr1 → Q (exitOf .nor) a' w' := fun a' w' E' i1 s1 f1 => by
      obtain ⟨E2, i2, s2⟩ := ghosts_sound π1 π2 hp1 hp2 E' rs hg2 hps.2.2 i1
      exact hQ a' w' E2 i2 ((s0.trans (s1.trans s2)).toK k) ⟨f1.size, f1.defers, fun s => s2.rep i1 (f1.slots s)⟩
    exact runDraw_sound hmix hr hps.2.1 i0 f0 (fun a' w' E' i1 s1 f1 => hQ' a' w' E' i1 s1 f1)
  | .seq x y, fr, fr', hp, hp', π, π', ps, ex, h, hps => by
    simp only [exec] at h
    have hx : ∀ qs ex1 fr1 hp1 π1, (match unCut π with | some π0 => sumA P U k N x fr hp π0 | none => exec P U k N x fr hp (unSkp π)) = some (qs, ex1, fr1, hp1, π1) → AllP qs → ExecOK P U k N x fr hp ex1 fr1 hp1 := by
      intro qs ex1 fr1 hp1 π1 hh hq
      split at hh
      · exact sumA_sound hh hq
      · exact exec_sound hmix x fr fr1 hp hp1 (unSkp π) π1 qs ex1 hh hq
    split at h
    · rename_i qs fr1 hp1 π1 hxx
      split at h
      case h_2 => cases h
      rename_i rs ex2 fr2 hp2 π2 hy
      simp only [Option.some.injEq, Prod.mk.injEq] at h
      obtain ⟨rfl, rfl, rfl, rfl, _⟩ := h
      rw [AllP_append] at hps
      have ix := hx _ _ _ _ _ hxx hps.1
      have iy := exec_sound hmix y fr1 fr2 hp1 hp2 π1 π2 rs ex2 hy hps.2
      exact fun w E a hi hf Q hQ => wp_seq (ix w E a hi hf _ fun a1 w1 E1 i1 s1 f1 => iy w1 E1 a1 i1 f1 Q fun a2 w2 E2 i2 s2 f2 => hQ a2 w2 E2 i2 (s1.trans s2) f2)
    · rename_i qs id fr1 hp1 π1 hxx
      simp only [Option.some.injEq, Prod.mk.injEq] at h
      obtain ⟨rfl, rfl, rfl, rfl, _⟩ := h
      have ix := hx _ _ _ _ _ hxx hps
      exact fun w E a hi hf Q hQ => wp_seq (ix w E a hi hf _ hQ)
    · rename_i qs fr1 hp1 π1 hxx
      simp only [Option.some.injEq, Prod.mk.injEq] at h
      obtain ⟨rfl, rfl, rfl, rfl, _⟩ := h
      have ix := hx _ _ _ _ _ hxx hps
      exact fun w E a hi hf Q hQ => wp_seq (ix w E a hi hf _ hQ)
    · cases h
  | .cond c x y, fr, fr', hp, hp', π, π', ps, ex, h, hps => by
    simp only [exec] at h
    have evb : ∀ w E a, Inv U w E hp → FrOk U w E hp N a fr → Rep U w E hp (a.eval c) (evalC P fr 0 c) := fun w E a hi hf => evalC_rep hi hf.slots _ _
    split at h
    · rename_i t ht
      split at h
      · have ix := exec_sound hmix x fr fr' hp hp' π π' ps ex h hps
        exact fun w E a hi hf Q hQ => wp_cond_true (rep_db (ht ▸ evb w E a hi hf)) (ix w E a hi hf Q hQ)
      · have iy := exec_sound hmix y fr fr' hp hp' π π' ps ex h hps
        exact fun w E a hi hf Q hQ => wp_cond_false (rep_db (ht ▸ evb w E a hi hf)) (iy w E a hi hf Q hQ)
    · rename_i t ht
      split at h
      · rename_i π1
        split at h
        case h_2 => cases h
        rename_i qs ex2 fr2 hp2 π2 hx
        simp only [Option.some.injEq, Prod.mk.injEq] at h
        obtain ⟨rfl, rfl, rfl, rfl, _⟩ := h
        have ix := exec_sound hmix x fr fr2 hp hp2 π1 π2 qs ex2 hx hps.2
        intro w E a hi hf Q hQ
        have hb := evb w E a hi hf
        rw [ht] at hb
        have hb2 := rep_bool hb
        rw [hps.1] at hb2
        exact wp_cond_true hb2 (ix w E a hi hf Q hQ)
      · rename_i π1
        split at h
        case h_2 => cases h
        rename_i qs ex2 fr2 hp2 π2 hx
        simp only [Option.some.injEq, Prod.mk.injEq] at h
        obtain ⟨rfl, rfl, rfl, rfl, _⟩ := h
        have iy := exec_sound hmix y fr fr2 hp hp2 π1 π2 qs ex2 hx hps.2
        intro w E a hi hf Q hQ
        have hb := evb w E a hi hf
        rw [ht] at hb
        have hb2 := rep_bool hb
        rw [hps.1] at hb2
        exact wp_cond_false hb2 (iy w E a hi hf Q hQ)
      · exact sumA_sound h hps
    · cases h
  | .block id b, fr, fr', hp, hp', π, π', ps, ex, h, hps => by
    simp only [exec] at h
    split at h
    · rename_i qs i fr1 hp1 π1 hb
      have ib := exec_sound hmix b fr fr1 hp hp1 π π1 qs (.exit i) hb
      split at h
      · rename_i hid
        simp only [Option.some.injEq, Prod.mk.injEq] at h
        obtain ⟨rfl, rfl, rfl, rfl, _⟩ := h
        have hid : i = id := Nat.eq_of_beq_eq_true hid
        exact fun w E a hi hf Q hQ => wp_block (ib hps w E a hi hf _ fun a1 w1 E1 i1 s1 f1 => by
          simp only [exitOf, Exit.inBlock, if_pos hid]; exact hQ a1 w1 E1 i1 s1 f1)
      · rename_i hid
        simp only [Option.some.injEq, Prod.mk.injEq] at h
        obtain ⟨rfl, rfl, rfl, rfl, _⟩ := h
        have hid : i ≠ id := fun e => by subst e; simp at hid
        exact fun w E a hi hf Q hQ => wp_block (ib hps w E a hi hf _ fun a1 w1 E1 i1 s1 f1 => by
          simp only [exitOf, Exit.inBlock, if_neg hid]; exact hQ a1 w1 E1 i1 s1 f1)
    · rename_i r hne
      have ib := exec_sound hmix b fr fr' hp hp' π π' ps ex h hps
      refine fun w E a hi hf Q hQ => wp_block (ib w E a hi hf _ fun a1 w1 E1 i1 s1 f1 => ?_)
      cases ex with
      | nor => exact hQ a1 w1 E1 i1 s1 f1
      | ret => exact hQ a1 w1 E1 i1 s1 f1
      | exit i => exact absurd h (hne _ _ _ _ _)
  | .scope b, fr, fr', hp, hp', π, π', ps, ex, h, hps => by
    simp only [exec] at h
    have ib := exec_sound hmix b fr fr' hp hp' π π' ps ex h hps
    refine fun w E a hi hf Q hQ => wp_scope_straight (ib w E a hi hf _ fun a1 w1 E1 i1 s1 f1 => ?_)
    have := hQ a1 w1 E1 i1 s1 f1
    cases ex <;> exact this
  | .loop b, fr, fr', hp, hp', π, π', ps, ex, h, hps => by
    have ib : ∀ fr fr' hp hp' π π' ps ex, exec P U k N b fr hp π = some (ps, ex, fr', hp', π') → AllP ps → ExecOK P U k N b fr hp ex fr' hp' := fun fr fr' hp hp' π π' ps ex h hps => exec_sound hmix b fr fr' hp hp' π π' ps ex h hps
    simp only [exec] at h
    split at h
    · obtain ⟨m, hm⟩ := iterL_rounds ib _ _ _ _ _ _ _ _ _ h hps
      exact rounds_sound hm
    · split at h
      case h_2 => cases h
      rename_i qs ex1 fr1 hp1 π1 hs
      split at h
      case h_2 => cases h
      rename_i rs hp2 π2 hg2
      simp only [Option.some.injEq, Prod.mk.injEq] at h
      obtain ⟨rfl, rfl, rfl, rfl, _⟩ := h
      rw [AllP_append] at hps
      have ix := sumA_sound hs hps.1
      exact fun w E a hi hf Q hQ => ix w E a hi hf Q fun a1 w1 E1 i1 s1 f1 => by
        obtain ⟨E2, i2, s2⟩ := ghosts_sound π1 π2 hp1 hp2 E1 rs hg2 hps.2 i1
        exact hQ a1 w1 E2 i2 (s1.trans (s2.toK k)) ⟨f1.size, f1.defers, fun s => s2.rep i1 (f1.slots s)⟩
  | .rangeFunc _ _ _ _, fr, fr', hp, hp', π, π', ps, ex, h, hps => by simp [exec] at h
  | .goto _, fr, fr', hp, hp', π, π', ps, ex, h, hps => by simp [exec] at h
  | .refuse _, fr, fr', hp, hp', π, π', ps, ex, h, hps => by simp [exec] at h

end

def iter {σ ρ : Type} (f : σ → Option (σ ⊕ ρ)) (n : Nat) : σ → Option ρ :=
  Nat.rec (fun _ => none) (fun _ ih s => match f s with
    | none => none
    | some (.inl s') => ih s'
    | some (.inr r) => some r) n
theorem iter_zero {σ ρ : Type} (f : σ → Option (σ ⊕ ρ)) (s : σ) : iter f 0 s = none := rfl
theorem iter_succ {σ ρ : Type} (f : σ → Option (σ ⊕ ρ)) (n : Nat) (s : σ) : iter f (n + 1) s = (match f s with
    | none => none
    | some (.inl s') => iter f n s'
    | some (.inr r) => some r) := rfl

def bts (s : ByteArray) : List Int := s.data.toList.map fun b => (b.toNat : Int)
def bytok (l : List Int) : Bool := decide (l.length ≤ 9223372036854775807) && l.all fun n => decide (0 ≤ n ∧ n < 256)
theorem bts_length (s : ByteArray) : (bts s).length = s.size := by
  simp only [bts, List.length_map, Array.length_toList]; rfl
theorem bytok_map {l : List Int} (h : bytok l = true) : l.map (fun n => Value.int .u8 n) = (l.map fun n => UInt8.ofNat n.toNat).map fun x => Value.int .u8 x.toNat := by
  unfold bytok at h
  have h := (Bool.and_eq_true_iff.1 h).2
  rw [List.map_map]
  refine List.map_congr_left fun n hn => ?_
  have := of_decide_eq_true (List.all_eq_true.1 h n hn)
  simp only [Function.comp_apply]
  congr 1
  rw [UInt8.toNat_ofNat']
  omega
def loopM {σ ρ : Type} (f : σ → Option (σ ⊕ ρ)) (s : σ) : Option ρ := iter f 18446744073709551616 s

section
variable {P : Program} {U : Univ D} {a : Act} {w : World} {E : Emb} {hp : Heap D} {k N : Nat}

theorem loop_sound {σ ρ : Type} {b : Code} (f : σ → Option (σ ⊕ ρ)) (embF : σ → Fr D) (embH : σ → Heap D) (exO : ρ → Ex) (outF : ρ → Fr D) (outH : ρ → Heap D)
    (hround : ∀ s s', f s = some (.inl s') → ExecOK P U k N b (embF s) (embH s) .nor (embF s') (embH s'))
    (hlast : ∀ s r, f s = some (.inr r) → ExecOK P U k N b (embF s) (embH s) (exO r) (outF r) (outH r)) (hne : ∀ r, exO r ≠ .nor)
    {s : σ} {r : ρ} (h : loopM f s = some r) : ExecOK P U k N (.loop b) (embF s) (embH s) (exO r) (outF r) (outH r) := by
  obtain ⟨n, hn⟩ : ∃ n, iter f n s = some r := ⟨_, h⟩
  intro w E a hi hf Q hQ
  refine wp_loop_idx (fun n a1 w1 => ∃ s1 E1, iter f n s1 = some r ∧ Inv U w1 E1 (embH s1) ∧ FrOk U w1 E1 (embH s1) N a1 (embF s1) ∧ StepK k U w E (embH s) w1 E1 (embH s1)) n
    ⟨s, E, hn, hi, hf, StepK.refl ..⟩ (fun n a1 w1 hI => ?_)
  obtain ⟨s1, E1, h1, i1, f1, st1⟩ := hI
  cases n with
  | zero => simp [iter_zero] at h1
  | succ n =>
    simp only [iter_succ] at h1
    cases hfs : f s1 with
    | none => simp [hfs] at h1
    | some q =>
      cases q with
      | inl s2 =>
        simp only [hfs] at h1
        refine hround s1 s2 hfs w1 E1 a1 i1 f1 _ fun a2 w2 E2 i2 st2 f2 => ?_
        exact ⟨n, Nat.lt_succ_self n, s2, E2, h1, i2, f2, st1.trans st2⟩
      | inr r' =>
        simp only [hfs, Option.some.injEq] at h1
        subst h1
        refine hlast s1 r' hfs w1 E1 a1 i1 f1 _ fun a2 w2 E2 i2 st2 f2 => ?_
        have := hQ a2 w2 E2 i2 (st1.trans st2) f2
        have hnn := hne r'
        cases hx : exO r' with
        | nor => exact absurd hx hnn
        | exit id => rw [hx] at this; exact this
        | ret => rw [hx] at this; exact this

theorem loop_rounds {σ ρ : Type} {b : Code} (f : σ → Option (σ ⊕ ρ)) (embF : σ → Fr D) (embH : σ → Heap D) (exO : ρ → Ex) (outF : ρ → Fr D) (outH : ρ → Heap D)
    (hround : ∀ s q, f s = some q → ExecOK P U k N b (embF s) (embH s) (match q with | .inl _ => .nor | .inr r => exO r) (match q with | .inl s' => embF s' | .inr r => outF r) (match q with | .inl s' => embH s' | .inr r => outH r)) (hne : ∀ r, exO r ≠ .nor) :
    ∀ (n : Nat) (s : σ) (r : ρ), iter f n s = some r → ∃ m, Rounds P U k N b (exO r) (outF r) (outH r) m (embF s) (embH s)
  | 0, s, r, h => by simp [iter_zero] at h
  | n + 1, s, r, h => by
    simp only [iter_succ] at h
    cases hfs : f s with
    | none => simp [hfs] at h
    | some q =>
      cases q with
      | inl s2 =>
        simp only [hfs] at h
        obtain ⟨m, hm⟩ := loop_rounds f embF embH exO outF outH hround hne n s2 r h
        exact ⟨m + 1, .more m _ _ _ _ (hround s (.inl s2) hfs) hm⟩
      | inr r' =>
        simp only [hfs, Option.some.injEq] at h
        subst h
        exact ⟨0, .last _ _ _ (hround s (.inr r') hfs) (hne r')⟩
def loopP {σ ρ : Type} (f0 : Option (σ ⊕ ρ)) (f : σ → Option (σ ⊕ ρ)) : Option ρ := match f0 with
  | none => none
  | some (.inl s) => loopM f s
  | some (.inr r) => some r
def LoopPOK (P : Program) (U : Univ D) (k N : Nat) (b : Code) {σ ρ : Type} (f0 : Option (σ ⊕ ρ)) (f : σ → Option (σ ⊕ ρ)) (F0 : Fr D) (H0 : Heap D) (x : ρ → Ex) (oF : ρ → Fr D) (oH : ρ → Heap D) : Prop :=
  ∀ (r : ρ), loopP f0 f = some r → ExecOK P U k N (.loop b) F0 H0 (x r) (oF r) (oH r)
theorem loop_soundP {σ ρ : Type} {b : Code} {f0 : Option (σ ⊕ ρ)} {f : σ → Option (σ ⊕ ρ)} {F0 : Fr D} {H0 : Heap D} {F : σ → Fr D} {H : σ → Heap D} {x : ρ → Ex} {oF : ρ → Fr D} {oH : ρ → Heap D}
    (h0 : ∀ q, f0 = some q → ExecOK P U k N b F0 H0 (match q with | .inl _ => .nor | .inr r => x r) (match q with | .inl s' => F s' | .inr r => oF r) (match q with | .inl s' => H s' | .inr r => oH r))
    (hround : ∀ s q, f s = some q → ExecOK P U k N b (F s) (H s) (match q with | .inl _ => .nor | .inr r => x r) (match q with | .inl s' => F s' | .inr r => oF r) (match q with | .inl s' => H s' | .inr r => oH r))
    (hne : ∀ r, x r ≠ .nor) : LoopPOK P U k N b f0 f F0 H0 x oF oH := by
  intro r h
  unfold loopP at h
  cases hq : f0 with
  | none => rw [hq] at h; cases h
  | some q =>
    rw [hq] at h
    cases q with
    | inl s =>
      obtain ⟨m, hm⟩ := loop_rounds f F H x oF oH hround hne _ s r h
      exact rounds_sound (.more m _ _ _ _ (h0 (.inl s) hq) hm)
    | inr r' =>
      simp only [Option.some.injEq] at h
      subst h
      exact rounds_sound (.last 0 _ _ (h0 (.inr r') hq) (hne r'))
theorem exec_norm (hmix : P.follows .mixedOrders = true) {c : Code} {fr fr1 : Fr D} {hp1 h : Heap D} {π : List (Ans D)} {ps : List Prop} {ex : Ex} {live ids : List Nat} (hx : exec P U k N c fr hp π = some (ps, ex, fr1, hp1, [])) (hps : AllP ps)
    (hn : normH k ids hp1 = some h) : ExecOK P U k N c fr hp ex (normF live ids fr1) h := by
  intro w E a hi hf Q hQ
  refine exec_sound hmix c fr fr1 hp hp1 π [] ps ex hx hps w E a hi hf Q fun a1 w1 E1 i1 s1 f1 => ?_
  obtain ⟨E2, i2, s2, f2, _⟩ := norm_sound i1 f1 hn
  exact hQ a1 w1 E2 i2 (s1.trans s2) f2

def runLp (P : Program) (U : Univ D) (k N : Nat) (c : Code) (fr : Fr D) (hp : Heap D) (live ids : List Nat) (π : List (Ans D)) : Option (List Prop × Ex × Fr D × Heap D) :=
  match exec P U k N c fr hp π with
  | some (ps, ex, fr1, hp1, []) => match normH k ids hp1 with
    | some h => some (ps, ex, normF live ids fr1, h)
    | none => none
  | _ => none

theorem runLp_sound (hmix : P.follows .mixedOrders = true) {c : Code} {fr fr' : Fr D} {h' : Heap D} {π : List (Ans D)} {ps : List Prop} {ex : Ex} {live ids : List Nat}
    (hx : runLp P U k N c fr hp live ids π = some (ps, ex, fr', h')) (hps : AllP ps) : ExecOK P U k N c fr hp ex fr' h' := by
  unfold runLp at hx
  split at hx
  · rename_i qs ex1 fr1 hp1 he
    split at hx
    case h_2 => cases hx
    rename_i h hn
    simp only [Option.some.injEq, Prod.mk.injEq] at hx
    obtain ⟨rfl, rfl, rfl, rfl⟩ := hx
    exact exec_norm hmix he hps hn
  · cases hx

/-! ### Functions -/

def zipA : Nat → List (AV D) → Fr D
  | _, [] => []
  | i, c :: r => (i, c) :: zipA (i + 1) r

theorem zipA_look : ∀ (cs : List (AV D)) (j s : Nat), look (zipA j cs) s = if j ≤ s then ((cs[s - j]?).getD .un) else .un
  | [], j, s => by simp [zipA, look]
  | c :: r, j, s => by
    simp only [zipA, look]
    split
    · rename_i h
      have : j = s := Nat.eq_of_beq_eq_true h
      subst this
      simp
    · rename_i h
      have hne : j ≠ s := fun e => by subst e; simp at h
      rw [zipA_look r (j + 1) s]
      by_cases hle : j ≤ s
      · rw [if_pos hle, if_pos (by omega)]
        have : s - j = (s - (j + 1)) + 1 := by omega
        rw [this]; simp
      · rw [if_neg hle, if_neg (by omega)]

theorem frOk_init {args : List (AV D)} {vs : List Value} {n : Nat} (h : RepL U w E hp vs args) (hle : vs.length ≤ n) :
    FrOk U w E hp n { tmps := (⟨vs⟩ : Array Value) ++ Array.replicate (n - (⟨vs⟩ : Array Value).size) undef, defers := [] } (zipA 0 args) := by
  refine ⟨by simp; omega, rfl, fun s => ?_⟩
  rw [zipA_look, if_pos (Nat.zero_le _), Nat.sub_zero, Array.getD_eq_getD_getElem?]
  by_cases hs : s < vs.length
  · have hc : s < args.length := by rw [← h.1]; exact hs
    have e1 : ((⟨vs⟩ : Array Value) ++ Array.replicate (n - (⟨vs⟩ : Array Value).size) undef)[s]? = some vs[s] := by
      rw [Array.getElem?_append_left (by simpa using hs)]
      simp [hs]
    rw [e1, List.getElem?_eq_getElem hc]
    exact h.2 s _ _ (List.getElem?_eq_getElem hs) (List.getElem?_eq_getElem hc)
  · rw [List.getElem?_eq_none (by rw [← h.1]; omega)]
    exact .un _

def resA (P : Program) (U : Univ D) (fr : Fr D) (hp : Heap D) : ResultVar → Option (AV D)
  | .tmp t => some (look fr t)
  | .cell x t => match loadA P U hp t [] (look fr x) with
    | some r => match r.obl with
      | [] => some r.val
      | _ => none
    | none => none
def resL (P : Program) (U : Univ D) (fr : Fr D) (hp : Heap D) : List ResultVar → Option (List (AV D))
  | [] => some []
  | x :: r => match resA P U fr hp x, resL P U fr hp r with
    | some c, some cs => some (c :: cs)
    | _, _ => none
def resV (P : Program) (U : Univ D) (fr : Fr D) (hp : Heap D) (rs : List ResultVar) : Option (AV D) :=
  match resL P U fr hp rs with
  | some [c] => some c
  | some cs => some (.tup cs)
  | none => none

theorem resL_sound {fr : Fr D} (hi : Inv U w E hp) (hf : Slots U w E hp a fr) : ∀ (rs : List ResultVar) (cs : List (AV D)), resL P U fr hp rs = some cs →
    ∃ vs : List Value, (rs.mapM (fun | .tmp t => pure (a.tmps.getD t undef) | .cell x t => do loadVar t (← asAddr (a.tmps.getD x undef))) : Sem (List Value)).run P w = .ok vs w ∧ RepL U w E hp vs cs
  | [], cs, h => by simp [resL] at h; subst h; exact ⟨[], by simp, rfl, fun k x c h => by simp at h⟩
  | x :: r, cs, h => by
    simp only [resL] at h
    split at h
    case h_2 => cases h
    rename_i c cs' hc hcs
    injection h with h; subst h
    obtain ⟨vs, hrun, hl, hr⟩ := resL_sound hi hf r cs' hcs
    have one : ∃ v, (match x with | .tmp t => pure (a.tmps.getD t undef) | .cell x t => do loadVar t (← asAddr (a.tmps.getD x undef)) : Sem Value).run P w = .ok v w ∧ Rep U w E hp v c := by
      cases x with
      | tmp t => simp only [resA, Option.some.injEq] at hc; subst hc; exact ⟨_, by simp, hf t⟩
      | cell y t =>
        simp only [resA] at hc
        split at hc
        case h_2 => cases hc
        rename_i q hq
        split at hc
        case h_2 => cases hc
        rename_i hob
        injection hc with hc; subst hc
        obtain ⟨_, v, hv, hrv⟩ := loadA_sound hi hq (by rw [hob]; trivial) (hf y)
        refine ⟨v, ?_, hrv⟩
        have hp1 : ∃ ad, a.tmps.getD y undef = .pointer (some ad) := by
          simp only [Instr.loadAt, Sem.run_bind] at hv
          generalize a.tmps.getD y undef = z at hv
          unfold Instr.sureAddr at hv
          split at hv
          · exact ⟨_, rfl⟩
          · simp [stuck, Sem.run] at hv
        obtain ⟨ad, had⟩ := hp1
        rw [had] at hv
        show (do let q ← asAddr (a.tmps.getD y undef); loadVar t q : Sem Value).run P w = _
        rw [had]
        simpa [Instr.loadAt, Instr.sureAddr, asAddr] using hv
    obtain ⟨v, hv, hrv⟩ := one
    refine ⟨v :: vs, ?_, by simp [hl], fun k y d hy hd => ?_⟩
    · rw [List.mapM_cons]
      simp only [Sem.run_bind, hv, Result.andThen_ok, hrun]
      rfl
    · cases k with
      | zero => simp at hy hd; subst hy; subst hd; exact hrv
      | succ k => exact hr k y d (by simpa using hy) (by simpa using hd)

theorem resV_sound {fr : Fr D} {fn : Func} {c : AV D} (hi : Inv U w E hp) (hf : Slots U w E hp a fr) (h : resV P U fr hp fn.results.toList = some c) :
    ∃ v, (results fn a.tmps).run P w = .ok v w ∧ Rep U w E hp v c := by
  unfold resV at h
  have main : ∀ cs, resL P U fr hp fn.results.toList = some cs → ∃ vs : List Value, (results fn a.tmps).run P w = .ok (if h : vs.toArray.size = 1 then vs.toArray[0] else .tuple vs.toArray) w ∧ RepL U w E hp vs cs := by
    intro cs hcs
    obtain ⟨vs, hrun, hr⟩ := resL_sound hi hf _ cs hcs
    refine ⟨vs, ?_, hr⟩
    unfold results
    rw [Array.mapM_eq_mapM_toList]
    simp only [Sem.run_bind, Sem.run_map]
    erw [hrun]
    rfl
  split at h
  · rename_i c' hc
    injection h with h; subst h
    obtain ⟨vs, hrun, hl, hr⟩ := main _ hc
    match vs, hl, hr, hrun with
    | [v], _, hr, hrun => exact ⟨v, by simpa using hrun, hr 0 v c' rfl rfl⟩
  · rename_i cs hne hc
    injection h with h; subst h
    obtain ⟨vs, hrun, hl, hr⟩ := main _ hc
    refine ⟨.tuple vs.toArray, ?_, .tup vs cs hl hr⟩
    rw [hrun, dif_neg]
    intro h1
    have h1 : vs.length = 1 := by simpa using h1
    rw [hl] at h1
    match cs, h1, hne with
    | [c], _, hne => exact hne c rfl
  · cases h

def runFn (P : Program) (U : Univ D) (fn : Func) (args : List (AV D)) (h : Heap D) (keep : Option (List Nat)) (π : List (Ans D)) : Option (List Prop × AV D × Heap D) :=
  match fn.body, Nat.ble args.length fn.ntmps with
  | some c, true => match exec P U h.length fn.ntmps c (zipA 0 args) h π with
    | some (ps, .exit _, _, _, _) => none
    | some (ps, _, fr, hp, []) => match resV P U fr hp fn.results.toList with
      | some r0 => match keep with
        | none => match h, vw hp (List.range hp.length) 8 r0 with
          | [], (qs, r) => some (ps ++ qs, r, [])
          | _, _ => none
        | some ids => match normH h.length ids hp with
          | some h' => some (ps, ren (idx ids) 8 r0, h')
          | none => none
      | none => none
    | _ => none
  | _, _ => none

theorem runFn_sound {f : FuncId} {fn : Func} {args : List (AV D)} {h h' : Heap D} {keep : Option (List Nat)} {π : List (Ans D)} {ps : List Prop} {r : AV D}
    (hmix : P.follows .mixedOrders = true) (hfn : P.funcs[f]? = some fn) (hname : (fn.name == "runtime.NumGoroutine") = false) (hrun : runFn P U fn args h keep π = some (ps, r, h')) (hps : AllP ps) : CallsOK P U f args h r h' := by
  unfold runFn at hrun
  split at hrun
  case h_2 => cases hrun
  rename_i c hc hle
  have hle : args.length ≤ fn.ntmps := Nat.le_of_ble_eq_true hle
  refine ⟨⟨fn, hfn, hname, by rw [hc]; rfl⟩, fun w E vs hi hr => ?_⟩
  have hf0 := frOk_init (n := fn.ntmps) hr (by rw [hr.1]; exact hle)
  refine calls_of_wp hfn hc ?_
  -- the end, one way for both modes
  have fin : ∀ (ex : Ex) (qs : List Prop) (fr : Fr D) (hp : Heap D) (r0 : AV D), (ex = .nor ∨ ex = .ret) → exec P U h.length fn.ntmps c (zipA 0 args) h π = some (qs, ex, fr, hp, []) → AllP qs → resV P U fr hp fn.results.toList = some r0 →
      (∀ w1 E1 v, Inv U w1 E1 hp → StepK h.length U w E h w1 E1 hp → Rep U w1 E1 hp v r0 → ∃ E2, Inv U w1 E2 h' ∧ Step U w E h w1 E2 h' ∧ Rep U w1 E2 h' v r) →
      c.wp P (bodyPost P fn fun e w' => ∃ v E', e = .returned v ∧ Inv U w' E' h' ∧ Step U w E h w' E' h' ∧ Rep U w' E' h' v r) { tmps := (⟨vs⟩ : Array Value) ++ Array.replicate (fn.ntmps - (⟨vs⟩ : Array Value).size) undef, defers := [] } w := by
    intro ex qs fr hp r0 hex he hqs hres hend
    refine exec_sound hmix c _ fr h hp π [] qs ex he hqs w E _ hi hf0 _ fun a1 w1 E1 i1 s1 f1 => ?_
    obtain ⟨v, hv, hrv⟩ := resV_sound i1 f1.slots hres
    obtain ⟨E2, i2, s2, r2⟩ := hend w1 E1 v i1 s1 hrv
    rcases hex with rfl | rfl
    · exact ⟨f1.defers, v, hv, v, E2, rfl, i2, s2, r2⟩
    · exact ⟨f1.defers, v, hv, v, E2, rfl, i2, s2, r2⟩
  have toStep : ∀ w1 E1 h1, StepK h.length U w E h w1 E1 h1 → Step U w E h w1 E1 h1 := fun w1 E1 h1 s =>
    ⟨s.os, s.tape, s.output, s.fz, s.size, s.keep, s.own, s.smono, s.snew, fun id o ho => s.evo id o (List.getElem?_eq_some_iff.1 ho).1 ho⟩
  split at hrun
  · cases hrun
  · rename_i qs ex fr hp hne he
    have hex : ex = .nor ∨ ex = .ret := by
      cases ex with
      | nor => exact .inl rfl
      | ret => exact .inr rfl
      | exit i => first | exact absurd rfl (hne _ _ _ _ _) | exact absurd he (hne _ _ _ _ _) | exact (hne _ _ _ _ _ rfl).elim | exact (hne _ _ _ _ _ he).elim | exact (hne i rfl).elim | (exfalso; exact hne _ rfl)
    split at hrun
    case h_2 => cases hrun
    rename_i r0 hres
    split at hrun
    · split at hrun
      case h_2 => cases hrun
      rename_i rs r1 hvw
      simp only [Option.some.injEq, Prod.mk.injEq] at hrun
      obtain ⟨rfl, rfl, rfl⟩ := hrun
      rw [AllP_append] at hps
      refine fin ex qs fr hp r0 hex he hps.1 hres fun w1 E1 v i1 s1 hv => ?_
      -- all is frozen
      let E2 : Emb := { m := fun _ => none, S := fun b => b < w1.heap.size ∧ (E1.S b ∨ Own E1 hp b) }
      have hpr : PRep U w1 E2.S v r1 := by
        have := vw_sound (S' := E2.S) (ids := List.range hp.length) i1 (fun id _ hlt b cap hm => ?_) (fun b hb => ⟨i1.sb b hb, .inl hb⟩) 8 v r0 (by rw [hvw]; exact hps.2) hv
        · rwa [hvw] at this
        · have ho := List.getElem?_eq_getElem hlt
          have hob := i1.obj id _ ho
          rw [hm] at hob
          obtain ⟨cc, e, hb, hcc, hrr, g1, g2⟩ := hob
          refine ⟨(Array.getElem?_eq_some_iff.1 hb).1, ?_⟩
          cases hfz : (hp[id]).fz with
          | true => exact .inl (g1 hfz)
          | false => exact .inr ⟨id, _, ho, hfz, .of hm⟩
      have noown : ∀ (E0 : Emb) b, ¬ Own E0 ([] : Heap D) b := by rintro E0 b ⟨id, o, h, _⟩; simp at h
      refine ⟨E2, ⟨fun id o h => by simp at h, fun i j oi oj b h => by simp at h, fun b hb => hb.1, fun g r hg => (i1.gl g r hg).mono (fun b hb => ⟨i1.sb b hb, .inl hb⟩) (fun _ _ => rfl)⟩, ?_, .pure _ _ hpr⟩
      refine ⟨s1.os, s1.tape, s1.output, s1.fz, s1.size, s1.keep, fun b _ ho => absurd ho (noown _ b), fun b hb => ⟨i1.sb b (s1.smono b hb), .inl (s1.smono b hb)⟩, fun b hb => ?_, fun id o h => by simp at h⟩
      rcases hb.2 with hb2 | hb2
      · exact s1.snew b hb2
      · by_cases hlt : b < w.heap.size
        · exact .inr (.inl (s1.own b hlt hb2))
        · exact .inr (.inr (by omega))
    · rename_i ids
      split at hrun
      case h_2 => cases hrun
      rename_i h1 hn
      simp only [Option.some.injEq, Prod.mk.injEq] at hrun
      obtain ⟨rfl, rfl, rfl⟩ := hrun
      refine fin ex qs fr hp r0 hex he hps hres fun w1 E1 v i1 s1 hv => ?_
      obtain ⟨E2, i2, s2, _, rr⟩ := norm_sound (a := ⟨#[], []⟩) (N := 0) (fr := []) (live := []) i1 ⟨rfl, rfl, fun s => .un _⟩ hn
      exact ⟨E2, i2, toStep _ _ _ (s1.trans s2), rr v r0 hv⟩
  · cases hrun

end
end Go.Eng
