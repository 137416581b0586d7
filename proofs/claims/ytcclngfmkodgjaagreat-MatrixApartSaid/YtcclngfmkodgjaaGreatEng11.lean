/- The engine, part 11: every operation, in one word. -/
import Derived.Test.YtcclngfmkodgjaaGreatEngX
import Derived.LaidEqlPtr
import Derived.Lib.Builder
import Derived.Laws.Externs
import Derived.Lib.UnsafeStr
import Derived.Laws.StructEq
set_option linter.unusedVariables false
set_option linter.unusedSectionVars false
set_option linter.unusedSimpArgs false
namespace Go.Eng
open Go
variable {D : Den} [Gl D]

section
variable {P : Program} {U : Univ D} {o : Oper} {a : Act} {w : World} {E : Emb} {hp : Heap D}

theorem argsA_map {fr : Fr D} (hi : Inv U w E hp) (hf : Slots U w E hp a fr) (xs : Array Operand) (tys : List Nat) : RepL U w E hp (xs.map a.eval).toList (argsA P fr tys xs.toList) := by
  have := argsA_rep (P := P) hi hf xs.toList tys
  rwa [← Array.toList_map] at this

theorem parts_rep {fr : Fr D} (hi : Inv U w E hp) (hf : Slots U w E hp a fr) (ty : Nat × Operand → Nat) : ∀ (parts : List (Nat × Operand)),
    PartsRep U w E hp (parts.map fun q => (q.1, a.eval q.2)) (parts.map fun q => (q.1, evalC P fr (ty q) q.2))
  | [] => trivial
  | q :: r => ⟨rfl, evalC_rep hi hf _ _, parts_rep hi hf ty r⟩

theorem int_inj_kind {k k' : IntKind} (h : (k == k') = true) : k = k' := by
  simpa using h

theorem binA_sound {fr : Fr D} {op : BinOp} {xt yt : Nat} {x y : Operand} {va vb : Value} {π : List (Ans D)} {r : Res D} (h : binA P op xt va vb hp x y π = some r) (hobl : AllP r.obl) :
    r.hp = hp ∧ ∃ v, (do eqGuard op xt x y va vb; binOp op xt va vb : Sem Value).run P w = .ok v w ∧ r.val = .v v := by
  unfold binA at h
  split at h
  · split at h
    · rename_i hk
      have := int_inj_kind hk; subst this
      injection h with h; subst h
      have hne := hobl.1
      exact ⟨rfl, _, by simp [eqGuard, binOp, Op.intDiv, hne], rfl⟩
    · cases h
  · split at h
    · rename_i hk
      have := int_inj_kind hk; subst this
      injection h with h; subst h
      have hne := hobl.1
      exact ⟨rfl, _, by simp [eqGuard, binOp, Op.intDiv, hne], rfl⟩
    · cases h
  · injection h with h; subst h
    rename_i n
    have hle : (0 : Int) ≤ n := hobl.1
    have hlt : ¬ n < 0 := by omega
    exact ⟨rfl, _, by simp [eqGuard, binOp, Op.shift, hlt], rfl⟩
  · injection h with h; subst h
    rename_i n
    have hle : (0 : Int) ≤ n := hobl.1
    have hlt : ¬ n < 0 := by omega
    exact ⟨rfl, _, by simp [eqGuard, binOp, Op.shift, hlt], rfl⟩
  · injection h with h; subst h
    have hle := hobl.1
    refine ⟨rfl, _, ?_, rfl⟩
    simp [eqGuard, binOp, Op.stringOp]
    simp at hle
    omega
  · split at h
    · rename_i v hv
      injection h with h; subst h
      exact ⟨rfl, v, pureRun_run hv w, rfl⟩
    · cases h

theorem part_sound {t off : Nat} {row : List (AV D)} {vs : List Value} {c : AV D} (h : ld P t off row = some c) (hr : RepL U w E hp vs row) : ∃ v, (part t ⟨vs⟩ off).run P w = .ok v w ∧ Rep U w E hp v c := by
  unfold ld at h
  split at h
  · rename_i hag
    split at h
    case h_2 => cases h
    rename_i n hn
    split at h
    case h_2 => cases h
    rename_i hle
    injection h with h; subst h
    have hle : off + n ≤ row.length := Nat.le_of_ble_eq_true hle
    obtain ⟨ti, hti, htn⟩ : ∃ i, P.info? t = some i ∧ i.size = n := by
      simp only [sizeT, Option.map_eq_some_iff] at hn; exact hn
    have hag2 : (isAgg t).run P w = .ok true w := by
      unfold isAggT at hag
      unfold isAgg
      split at hag
      · rename_i fs hu; simp [run_underlying hu]
      · rename_i a b hu; simp [run_underlying hu]
      · simp at hag
      · simp at hag
    refine ⟨.agg (Array.extract ⟨vs⟩ off (off + n)), ?_, ?_⟩
    · simp [part, hag2, sizeOf, typeInfo, hti, htn]
    · have : (Array.extract (⟨vs⟩ : Array Value) off (off + n)) = ⟨(vs.drop off).take n⟩ := by
        apply Array.ext'; simp [List.extract_eq_take_drop, List.drop_take]
      rw [this]
      refine .agg _ _ ?_ fun k x d hx hd => ?_
      · simp [hr.1]
      · rw [List.getElem?_take] at hx hd
        split at hx
        · rename_i hk
          rw [if_pos hk] at hd
          rw [List.getElem?_drop] at hx hd
          exact hr.2 _ x d hx hd
        · cases hx
  · rename_i hag
    have hag2 : (isAgg t).run P w = .ok false w := by
      unfold isAggT at hag
      unfold isAgg
      split at hag
      · simp at hag
      · simp at hag
      · rename_i d h1 h2 hu
        have : (underlying t).run P w = .ok d w := run_underlying hu w
        simp only [Sem.run_bind, this, Result.andThen_ok]
        first | rfl | (split <;> first | rfl | (exfalso; first | exact h1 _ rfl | exact h2 _ _ rfl))
      · simp at hag
    have hlt : off < vs.length := by rw [hr.1]; exact (List.getElem?_eq_some_iff.1 h).1
    have hv : vs[off]? = some vs[off] := List.getElem?_eq_getElem hlt
    exact ⟨vs[off], by simp [part, hag2, hlt], hr.2 off _ c hv h⟩
  · cases h

theorem idxA_sound {t : Nat} {n : Int} {kk : IntKind} {π : List (Ans D)} {x : AV D} {v : Value} {r : Res D} (h : idxA P hp t n π x = some r) (hobl : AllP r.obl) (hx : Rep U w E hp v x) :
    r.hp = hp ∧ ∃ q, (Instr.indexAt t v (.int kk n)).run P w = .ok q w ∧ Rep U w E hp q r.val := by
  unfold idxA at h
  split at h
  case h_2 => cases h
  rename_i len e k π' hu
  have hu : P.underlying t = some (.array len e) := by
    unfold arrT at hu
    split at hu
    · rename_i n' e' hu'; simp only [Option.some.injEq, Prod.mk.injEq] at hu; obtain ⟨rfl, rfl⟩ := hu; exact hu'
    · cases hu
  split at h
  case h_2 => cases h
  rename_i sz hsz hk
  have hk : k < len := Nat.le_of_ble_eq_true hk
  obtain ⟨ti, hti, htn⟩ : ∃ i, P.info? e = some i ∧ i.size = sz := by
    simp only [sizeT, Option.map_eq_some_iff] at hsz; exact hsz
  have main : ∀ b base, n = (k : Int) → (Instr.indexAt t (.pointer (some ⟨b, base, none⟩)) (.int kk n)).run P w = .ok (.pointer (some ⟨b, base + k * sz, none⟩)) w := by
    intro b base hn
    subst hn
    have h1 : (0 : Int) ≤ (k : Int) ∧ (k : Int) < (len : Int) := ⟨by omega, by omega⟩
    have h2 : ¬ len ≤ k := by omega
    simp [Instr.indexAt, asIntOf, run_underlying hu, Instr.sureAddr, h1, h2, sizeOf, typeInfo, hti, htn, addr_add]
  split at h
  · rename_i row ro
    injection h with h; subst h
    refine ⟨rfl, ?_⟩
    have hx2 := rep_rp hx
    cases hx2 with
    | rp _ _ b base vs hS hc hr =>
      refine ⟨_, main b (base + ro) hobl.1, .pure _ _ ?_⟩
      have := PRep.rp (U := U) (w := w) (S := E.S) row (ro + k * sz) b base vs hS hc hr
      rwa [← Nat.add_assoc] at this
  · rename_i id m i ro
    split at h
    case h_2 => cases h
    rename_i ob hob
    split at h
    case h_2 => cases h
    rename_i ps hps
    injection h with h; subst h
    refine ⟨rfl, ?_⟩
    obtain ⟨hn0, hobl2⟩ := hobl
    have hn := vld_ok hps hobl2
    obtain ⟨⟨a0, ha0⟩, o1, ho1, hle, hh⟩ := rep_op hx
    rw [hob] at ho1; injection ho1 with ho1; subst ho1
    have h3 := hh hn
    cases hm : E.m id with
    | none => rw [hm] at h3; exact h3.elim
    | some q =>
      obtain ⟨b, cap⟩ := q
      rw [hm] at h3
      simp only [opHdr] at h3
      subst h3
      refine ⟨_, main b (i * ob.wid U + ro) hn0, .op _ _ _ _ _ ⟨⟨_, rfl⟩, ob, hob, hle, fun _ => ?_⟩⟩
      rw [hm]
      simp [opHdr, Nat.add_assoc]
  · cases h
theorem idxV_sound {t : Nat} {n : Int} {kk : IntKind} {π : List (Ans D)} {cs : List (AV D)} {v : Value} {r : Res D} (h : idxV P hp t n π cs = some r) (hobl : AllP r.obl) (hx : Rep U w E hp v (.agg cs)) :
    r.hp = hp ∧ ∃ q, (Instr.index t v (.int kk n)).run P w = .ok q w ∧ Rep U w E hp q r.val := by
  unfold idxV at h
  split at h
  case h_2 => cases h
  rename_i len e k π' hu
  have hu : P.underlying t = some (.array len e) := by
    unfold arrT at hu
    split at hu
    · rename_i n' e' hu'; simp only [Option.some.injEq, Prod.mk.injEq] at hu; obtain ⟨rfl, rfl⟩ := hu; exact hu'
    · cases hu
  split at h
  case h_2 => cases h
  rename_i sz hsz hk
  have hk : k < len := Nat.le_of_ble_eq_true hk
  obtain ⟨ti, hti, htn⟩ : ∃ i, P.info? e = some i ∧ i.size = sz := by
    simp only [sizeT, Option.map_eq_some_iff] at hsz; exact hsz
  split at h
  case h_2 => cases h
  rename_i av hav
  injection h with h; subst h
  refine ⟨rfl, ?_⟩
  obtain ⟨vs, rfl, hr⟩ := rep_agg hx
  obtain ⟨q, hq, hrq⟩ := part_sound (P := P) hav hr
  have hn : n = (k : Int) := hobl.1
  subst hn
  have h1 : (0 : Int) ≤ (k : Int) ∧ (k : Int) < (len : Int) := ⟨by omega, by omega⟩
  refine ⟨q, ?_, hrq⟩
  have h2 : ¬ len ≤ k := by omega
  simp [Instr.index, asIntOf, run_underlying hu, h1, h2, sizeOf, typeInfo, hti, htn, hq]

theorem eqV_sound {d t : Nat} {x y : Value} {a b : AV D} {r : Bool} (h : eqV P t a b = some r) (hx : Rep U w E hp x a) (hy : Rep U w E hp y b) : (Op.equalIn (d + 1) t x y).run P w = .ok r w := by
  unfold eqV at h
  split at h
  · rename_i k m k' n kk ha hb hu
    split at h
    case h_2 => cases h
    rename_i hk
    have := int_inj_kind hk; subst this
    injection h with h; subst h
    rw [toV_rep ha hx, toV_rep hb hy]
    exact run_equalIn_int w d t _ _ _ _ hu
  · rename_i m n ha hb hu
    injection h with h; subst h
    rw [toV_rep ha hx, toV_rep hb hy]
    exact run_equalIn_bool w d t _ _ hu
  · rename_i m n ha hb hu
    injection h with h; subst h
    rw [toV_rep ha hx, toV_rep hb hy]
    exact run_equalIn_string w d t _ _ hu
  · cases h

theorem eqC_sound : ∀ (k d t : Nat) (x y : Value) (a b : AV D) (r : Bool), k ≤ d → eqC P k t a b = some r → Rep U w E hp x a → Rep U w E hp y b → (Op.equalIn d t x y).run P w = .ok r w
  | 0, d, t, x, y, a, b, r, hk, h, hx, hy => by simp [eqC] at h
  | k + 1, 0, t, x, y, a, b, r, hk, h, hx, hy => by omega
  | k + 1, d + 1, t, x, y, a, b, r, hk, h, hx, hy => by
    unfold eqC at h
    split at h
    · cases ‹_›
    · rename_i t1 u2 u3 u4 k0 t0 xs ys heq
      obtain rfl : k = t0 := by omega
      split at h
      case h_2 => cases h
      rename_i fs hu hst
      obtain ⟨vs, rfl, hv⟩ := rep_agg hx
      obtain ⟨us, rfl, hu2⟩ := rep_agg hy
      have hf : P.fieldsOf t1 = fs := by unfold Program.fieldsOf; rw [hu]
      rw [run_equalIn_struct w d t1 ⟨vs⟩ ⟨us⟩ (by rw [hf]; exact hu) hst, hf]
      have go : ∀ (fs : List Field) (r : Bool), eqF P (eqC P k) xs ys fs = some r → (Op.eqFields d ⟨vs⟩ ⟨us⟩ fs).run P w = .ok r w := by
        intro fs
        induction fs with
        | nil => intro r h; simp [eqF] at h; subst h; rfl
        | cons f fs ih =>
          intro r h
          simp only [eqF] at h
          split at h
          case h_2 => cases h
          rename_i a b hn ha hb
          split at h
          case h_2 => cases h
          rename_i r1 q1 hr1 hq1
          injection h with h; subst h
          obtain ⟨va, e1, g1⟩ := part_sound (P := P) (U := U) (w := w) (E := E) (hp := hp) ha hv
          obtain ⟨vb, e2, g2⟩ := part_sound (P := P) (U := U) (w := w) (E := E) (hp := hp) hb hu2
          have e3 := eqC_sound k d f.type va vb a b r1 (by omega) hr1 g1 g2
          have hn : f.name ≠ "_" := by intro e; rw [e] at hn; simp at hn
          simp only [Op.eqFields, if_pos hn, Sem.run_bind, e1, e2, e3, Result.andThen_ok]
          cases r1
          · simp
          · simp only [Bool.not_true, Bool.false_eq_true, if_false, Bool.true_and]; exact ih q1 hq1
      exact go _ _ h
    · exact eqV_sound h hx hy

theorem ptrElem_und {t e : Nat} (h : ptrElem P t = some e) : P.underlying t = some (.pointer e) ∧ ∃ j, P.info? e = some j := by
  unfold ptrElem at h
  split at h
  · rename_i e' he
    split at h
    · rename_i j hj
      injection h with h; subst h
      exact ⟨he, j, hj⟩
    · cases h
  · cases h
theorem op_addr {x : Value} {id n i off : Nat} {ob : AObj D} {ps : List Prop} (h : Rep U w E hp x (.op id n i off)) (ho : hp[id]? = some ob) (hv : vld ob n = some ps) (hps : AllP ps) :
    ∃ b cap, E.m id = some (b, cap) ∧ x = .pointer (some ⟨b, i * ob.wid U + off, none⟩) := by
  obtain ⟨_, o, ho', _, hh⟩ := rep_op h
  rw [ho] at ho'; injection ho' with ho'; subst ho'
  have := hh (vld_ok hv hps)
  cases hm : E.m id with
  | none => rw [hm] at this; exact this.elim
  | some q => obtain ⟨b, cap⟩ := q; rw [hm] at this; exact ⟨b, cap, rfl, this⟩
theorem op_ptr {x : Value} {id n i off : Nat} {ob : AObj D} {ps : List Prop} (h : Rep U w E hp x (.op id n i off)) (ho : hp[id]? = some ob) (hv : vld ob n = some ps) (hps : AllP ps) : ∃ a, x = .pointer (some a) := by
  obtain ⟨b, cap, _, h⟩ := op_addr h ho hv hps
  exact ⟨_, h⟩
theorem convP_sound {s d : Nat} {x y : AV D} {v : Value} (hi : Inv U w E hp) (h : convP P hp s d x = some y) (hx : Rep U w E hp v x) : y = x ∧ (convert s d v).run P w = .ok v w := by
  unfold convP at h
  split at h
  case h_2 => cases h
  rename_i id n i off
  split at h
  case h_2 => cases h
  rename_i e row ho hn h0
  have hn := Nat.eq_of_beq_eq_true hn
  have h0 := Nat.eq_of_beq_eq_true h0
  subst hn; subst h0
  obtain ⟨b, cap, hm, rfl⟩ := op_addr hx ho (ps := []) rfl trivial
  have hob := hi.obj id _ ho
  rw [hm] at hob
  obtain ⟨c, e', hb, hcap, _, _, _, _, htie⟩ := hob
  have htie : e' = e := htie rfl
  subst htie
  have hcl : c.length = row.length := hcap
  have hsh : w.shape? b = some (e', row.length) := by simp [World.shape?, hb, hcl]
  rw [show (0 : Nat) * AObj.wid U (.box e' row false) + off = off by simp]
  split at h
  · rename_i t hs hd
    split at h
    case h_2 => cases h
    rename_i j hj hle
    split at h
    case h_2 => cases h
    rename_i hz
    injection h with h
    have hle := Nat.le_of_ble_eq_true hle
    exact ⟨h.symm, Lib.run_to_unsafe w _ hs hd hj (Nat.ne_of_beq_eq_false hz) hsh (show off < row.length by omega)⟩
  · rename_i u hs hd
    split at h
    case h_2 => cases h
    rename_i j hj hl
    injection h with h
    exact ⟨h.symm, Lib.run_from_unsafe w _ hs hd hj hsh hl⟩
  · cases h
theorem rawZ_rep {e : Nat} {z : AV D} (h : rawZ P e = some z) : ∃ i v, P.info? e = some i ∧ i.zero = some v ∧ Rep U w E hp v z := by
  unfold rawZ at h
  split at h
  case h_2 => cases h
  rename_i i hi
  split at h
  case h_2 => cases h
  rename_i vs hz
  injection h with h; subst h
  refine ⟨i, _, hi, hz, ?_⟩
  have := PRep.agg (U := U) (w := w) (S := E.S) vs.toList (vs.toList.map (AV.v (D := D))) (by simp) (fun k x c hx hc => by
    rw [List.getElem?_map, hx] at hc
    injection hc with hc; subst hc
    exact .v x)
  exact .pure _ _ this
theorem freeze_other (w : World) (a : Addr) (n k : Nat) (h : k ≠ a.block) : (w.freeze a n).heap[k]? = w.heap[k]? := by
  unfold World.freeze
  split
  · rfl
  · simp only [Array.getElem?_modify]
    rw [if_neg (Ne.symm h)]
theorem freeze_size (w : World) (a : Addr) (n : Nat) : (w.freeze a n).heap.size = w.heap.size := by
  unfold World.freeze
  split
  · rfl
  · simp
theorem freeze_dead {id b e ln : Nat} {l : List (D e)} {cap : Cap} (hi : Inv U w E hp) (ho : hp[id]? = some (.arr e l ln false)) (hm : E.m id = some (b, cap)) (n : Nat) :
    ∃ E', Inv U (w.freeze ⟨b, 0, none⟩ n) E' (setO hp id (.dead (ln + 1) e)) ∧ Step U w E hp (w.freeze ⟨b, 0, none⟩ n) E' (setO hp id (.dead (ln + 1) e)) := by
  let E' : Emb := { m := fun j => if j = id then none else E.m j, S := E.S }
  have mold : ∀ j, j ≠ id → E'.m j = E.m j := fun j hj => by simp only [E']; rw [if_neg hj]
  have hown : Own E hp b := ⟨id, _, ho, rfl, .of hm⟩
  have hheap : ∀ k, k ≠ b → (w.freeze ⟨b, 0, none⟩ n).heap[k]? = w.heap[k]? := fun k hk => freeze_other w ⟨b, 0, none⟩ n k hk
  have get : ∀ j oj, (setO hp id (.dead (ln + 1) e))[j]? = some oj → (j = id ∧ oj = .dead (ln + 1) e) ∨ (j ≠ id ∧ hp[j]? = some oj) := by
    intro j oj h
    rw [setO_get] at h
    by_cases hj : j = id
    · subst hj; rw [if_pos rfl, ho] at h; simp at h; exact .inl ⟨rfl, h.symm⟩
    · rw [if_neg hj] at h; exact .inr ⟨hj, h⟩
  have hs : Step U w E hp (w.freeze ⟨b, 0, none⟩ n) E' (setO hp id (.dead (ln + 1) e)) := by
    refine ⟨?_, ?_, ?_, fun q hq hno => ?_, by rw [freeze_size]; exact Nat.le_refl _, fun k hk hno => hheap k (fun e => hno (e ▸ hown)), ?_, fun _ h => h, fun _ h => .inl h, ?_⟩
    · unfold World.freeze; split <;> rfl
    · unfold World.freeze; split <;> rfl
    · unfold World.freeze; split <;> rfl
    · unfold World.frozen?
      rw [hheap q.block (fun e => hno (e ▸ hown))]
    · rintro b' _ ⟨j, oj, g1, g2, g3⟩
      rcases get j oj g1 with ⟨rfl, rfl⟩ | ⟨hj, h⟩
      · cases g2
      · exact ⟨j, oj, h, g2, g3.congr (mold j hj).symm⟩
    · intro j oj hj
      by_cases hji : j = id
      · subst hji
        rw [ho] at hj; injection hj with hj; subst hj
        exact ⟨.dead (ln + 1) e, by rw [setO_get, if_pos rfl, ho]; rfl, rfl, Nat.le_succ _, fun h => absurd h (by simp only [AObj.len]; omega)⟩
      · exact ⟨oj, by rw [setO_get, if_neg hji]; exact hj, rfl, Nat.le_refl _, fun _ => by rw [mold j hji]⟩
  refine ⟨E', ⟨fun j oj hj => ?_, fun i j oi oj b' g1 g2 f1 f2 m1 m2 => ?_, fun b' hb' => by rw [freeze_size]; exact hi.sb b' hb', hi.gl' hs⟩, hs⟩
  · rcases get j oj hj with ⟨rfl, rfl⟩ | ⟨hji, h⟩
    · simp only [E', if_true]
      trivial
    · rw [mold j hji]
      refine (hi.obj j oj h).keep (fun b' b0 cp hm' hbb => hheap b' (fun e' => ?_)) (fun _ h => h) (fun _ _ _ _ _ _ h => h) (by rw [freeze_size]; exact Nat.le_refl _) (fun x a h => hs.rep hi h) (fun x a h => hs.prep hi h)
      subst e'
      have hbj : Blk E j b' := ⟨b0, cp, hm', hbb.imp (fun h => h) (·.1)⟩
      cases hfj : oj.fz with
      | true =>
        rcases hbb with rfl | ⟨_, hbb⟩
        · have := hi.obj j oj h
          rw [hm'] at this
          obtain ⟨_, _, _, _, _, g1, _⟩ := this
          exact hown.notS hi (g1 hfj)
        · rw [hfj] at hbb; cases hbb
      | false => exact hji (hi.inj j id oj _ b' h ho hfj rfl hbj (.of hm))
  · rcases get i oi g1 with ⟨rfl, rfl⟩ | ⟨n1, h1'⟩
    · cases f1
    · rcases get j oj g2 with ⟨rfl, rfl⟩ | ⟨n2, h2'⟩
      · cases f2
      · exact hi.inj i j oi oj b' h1' h2' f1 f2 (m1.congr (mold i n1).symm) (m2.congr (mold j n2).symm)
theorem usdA_sound {ats : Array TypeId} {ty : Nat} {x : AV D} {v : Value} {π : List (Ans D)} {r : Res D} (hi : Inv U w E hp) (h : usdA hp π x = some r) (hobl : AllP r.obl) (hx : Rep U w E hp v x) :
    r.hp = hp ∧ ∃ z, (Builtin.unsafeSliceData_ ats ty #[v]).run P w = .ok z w ∧ Rep U w E hp z r.val := by
  unfold usdA at h
  split at h
  · rename_i id n
    split at h
    case h_2 => cases h
    rename_i e l ln ho
    injection h with h; subst h
    obtain ⟨⟨hn, hl⟩, _⟩ := hobl
    obtain ⟨_, o, ho', _, hh⟩ := rep_os hx
    rw [ho] at ho'; injection ho' with ho'; subst ho'
    have hln := arr_len hi ho
    have hh := hh hn
    have hob := hi.obj id _ ho
    cases hm : E.m id with
    | none =>
      rw [hm] at hh
      have := hh.1
      omega
    | some q =>
      obtain ⟨b, cap⟩ := q
      rw [hm] at hh hob
      obtain ⟨c, e0, hb, hcap, _⟩ := hob
      simp only [osHdr] at hh
      subst hh
      refine ⟨rfl, _, Lib.run_unsafeSliceData_row w ats ty _ n cap.n (by have := hcap.2.1; omega), ?_⟩
      refine .op _ _ _ _ _ ⟨⟨_, rfl⟩, _, ho, by simp only [AObj.len]; omega, fun _ => ?_⟩
      rw [hm]
      simp [opHdr]
  · injection h with h; subst h
    have := rep_v hx
    subst this
    exact ⟨rfl, _, rfl, .v _⟩
  · cases h
theorem ustA_sound {pt it ty : Nat} {x y : AV D} {vx vy : Value} {π : List (Ans D)} {r : Res D} (hi : Inv U w E hp) (h : ustA P U pt hp x y π = some r) (hobl : AllP r.obl) (hx : Rep U w E hp vx x) (hy : Rep U w E hp vy y) :
    ∃ z w' E', (Builtin.unsafeString_ #[pt, it] ty #[vx, vy]).run P w = .ok z w' ∧ Inv U w' E' r.hp ∧ Step U w E hp w' E' r.hp ∧ Rep U w' E' r.hp z r.val := by
  unfold ustA at h
  split at h
  · rename_i id n i off m
    split at h
    case h_2 => cases h
    rename_i e l ln str π' ho
    split at h
    case h_2 => cases h
    rename_i e' hpe h0 h1 hc1 hw1
    split at h
    case h_2 => cases h
    rename_i hee
    injection h with h; subst h
    obtain ⟨⟨hn, hm, hl0, hl63, bs, hfl, rfl⟩, _⟩ := hobl
    have h0 := Nat.eq_of_beq_eq_true h0
    have h1 := Nat.eq_of_beq_eq_true h1
    have hee := Nat.eq_of_beq_eq_true hee
    have hc1 := Nat.eq_of_beq_eq_true hc1
    have hw1 : U.width e = 1 := Nat.eq_of_beq_eq_true hw1
    subst h0; subst h1; subst hee; subst hm
    have hvy := rep_v hy
    subst hvy
    obtain ⟨b, cap, hmm, rfl⟩ := op_addr hx ho (ps := [n = ln]) rfl ⟨hn, trivial⟩
    have hob := hi.obj id _ ho
    rw [hmm] at hob
    obtain ⟨c, e0, hb, hcap, hrep, _, _, _, htie⟩ := hob
    have htie : e0 = e' := htie rfl
    subst htie
    have hbl : bs.length = l.length := by
      have := flatL_length (U := U) e0 l
      rw [hfl, List.length_map, hw1, Nat.mul_one] at this
      exact this
    have hcl : bs.length ≤ c.length := by
      rw [hcap.1, hw1, Nat.mul_one, hbl]; exact hcap.2.1
    have hbs : bs ≠ [] := by intro e; rw [e] at hbl; simp at hbl; omega
    have hrun := Lib.run_unsafeString_row (P := P) w pt it ty e0 (ptrElem_und hpe).1 hc1 b c.length (by simp [World.shape?, hb]) bs hbs hcl (by omega) (fun j x hx => by
      obtain ⟨v, hv, hr⟩ := hrep j (.v (.int .u8 x.toNat)) (by
        show (flatL U e0 l)[j]? = _
        rw [hfl, List.getElem?_map, hx]; rfl)
      have := rep_v (hr.rep : Rep U w E hp v (.v (.int .u8 x.toNat)))
      subst this
      rw [addr_add]
      simp [World.cell?, hb, hv])
    obtain ⟨E', i2, s2⟩ := freeze_dead hi ho hmm bs.length
    rw [hbl] at hrun
    refine ⟨_, _, E', ?_, i2, s2, .v _⟩
    have e9 : (0 : Nat) * AObj.wid U (.arr e0 l ln false) + 0 = 0 := by simp
    rw [e9, hbl]
    exact hrun
  · injection h with h; subst h
    have h1 := rep_v hx
    have h2 := rep_v hy
    subst h1; subst h2
    exact ⟨_, w, E, Lib.run_unsafeString_none w pt it ty none, hi, Step.refl .., .v _⟩
  · cases h
theorem appS_sound {t t2 e ty : Nat} {x y : AV D} {vx vy : Value} {π : List (Ans D)} {r : Res D} (hi : Inv U w E hp) (he : sliceElem P t = some e) (h : appS P U e t2 hp x y π = some r) (hobl : AllP r.obl) (hx : Rep U w E hp vx x) (hy : Rep U w E hp vy y) :
    ∃ v w' E', (Builtin.append_ #[t, t2] ty #[vx, vy]).run P w = .ok v w' ∧ Inv U w' E' r.hp ∧ Step U w E hp w' E' r.hp ∧ Rep U w' E' r.hp v r.val := by
  unfold appS at h
  split at h
  · rename_i id n s hst
    split at h
    case h_2 => cases h
    rename_i e' l ln hob
    split at h
    case h_2 => cases h
    rename_i e4 l4 n4 π'
    split at h
    case h_2 => cases h
    rename_i sz hsz hzk hw1 hee
    split at h
    case h_2 => cases h
    rename_i hs1
    injection h with h; subst h
    obtain ⟨⟨hn, hn4, hb, h63, hex⟩, _⟩ := hobl
    have hs1 : sz = U.width e' := Nat.eq_of_beq_eq_true hs1
    subst hs1
    have hw1 : U.width e' = 1 := Nat.eq_of_beq_eq_true hw1
    have hvy := rep_v hy
    subst hvy
    have hk : P.underlying t2 = some .string := by
      unfold isStrT at hst
      split at hst
      · assumption
      · cases hst
    have hsrc : Src P (U.width e') t2 (.string s) s.size (byteCells s) w := by rw [hw1]; exact Src.ofString w hk s
    have hnr : PRepL U w E.S (byteCells s) ((byteCells s).map (AV.v (D := D))) := ⟨by simp, fun k v c hv hc => by
      rw [List.getElem?_map, hv] at hc
      injection hc with hc; subst hc
      exact .v v⟩
    subst hn4
    obtain ⟨xs, hx1, hx2⟩ := hex
    exact append_ownS (ty := ty) hi he hob (Nat.eq_of_beq_eq_true hee) hsz hsrc hnr hn hb h63 (zokB_ex hzk) ⟨xs, hx1, hx2⟩ hx
  · rename_i s hst
    split at h
    case h_2 => cases h
    rename_i e2 l n2 π'
    split at h
    case h_2 => cases h
    rename_i sz hsz hzk hw1 hee
    split at h
    case h_2 => cases h
    rename_i hs1
    injection h with h; subst h
    obtain ⟨⟨hs0, hb, h63, hll, hn2, hfl⟩, _⟩ := hobl
    have hs1 : sz = U.width e2 := Nat.eq_of_beq_eq_true hs1
    subst hs1
    have hw1 : U.width e2 = 1 := Nat.eq_of_beq_eq_true hw1
    have hvx := rep_v hx
    have hvy := rep_v hy
    subst hvx; subst hvy
    have hk : P.underlying t2 = some .string := by
      unfold isStrT at hst
      split at hst
      · assumption
      · cases hst
    have hsrc : Src P (U.width e2) t2 (.string s) s.size (byteCells s) w := by rw [hw1]; exact Src.ofString w hk s
    have hnr : PRepL U w E.S (byteCells s) ((byteCells s).map (AV.v (D := D))) := ⟨by simp, fun k v c hv hc => by
      rw [List.getElem?_map, hv] at hc
      injection hc with hc; subst hc
      exact .v v⟩
    subst hn2
    exact append_emS (ty := ty) hi he (Nat.eq_of_beq_eq_true hee) hsz hsrc hnr hb h63 hs0 (zokB_ex hzk) hll hfl
  · cases h
theorem cmpA_sound {op : BinOp} {t : Nat} {va vb : Value} {a b : AV D} {x y : Operand} {π : List (Ans D)} {r : Res D} {act : Act} (h : cmpA P op t a b y hp π = some r) (hx : Rep U w E hp va a) (hy : Rep U w E hp vb b) (hc : isNilC y = true → vb = .slice none 0 0) (hobl : AllP r.obl) :
    r.hp = hp ∧ ∃ v, (do eqGuard op t x y va vb; binOp op t va vb : Sem Value).run P w = .ok v w ∧ Rep U w E hp v r.val := by
  unfold cmpA at h
  split at h
  · rename_i xs ys
    obtain ⟨vs, rfl, _⟩ := rep_agg hx
    obtain ⟨us, rfl, _⟩ := rep_agg hy
    split at h
    · rename_i r0 hg he
      injection h with h; subst h
      have e1 := eqC_sound 10 10000 t _ _ _ _ _ (by omega) he hx hy
      have e2 := run_eqGuard_agg (P := P) w .eql t x y ⟨vs⟩ ⟨us⟩ hg
      exact ⟨rfl, .bool r0, by simp only [Sem.run_bind, e2, Result.andThen_ok, run_eql_struct, e1], .v _⟩
    · rename_i r0 hg he
      injection h with h; subst h
      have e1 := eqC_sound 10 10000 t _ _ _ _ _ (by omega) he hx hy
      have e2 := run_eqGuard_agg (P := P) w .neq t x y ⟨vs⟩ ⟨us⟩ hg
      exact ⟨rfl, .bool !r0, by simp only [Sem.run_bind, e2, Result.andThen_ok, run_neq_struct, e1], .v _⟩
    · cases h
  · rename_i z tt l _
    obtain ⟨ad, len, cap, rfl, rfl, _⟩ := rep_sn hx
    have eqn : ∀ e, sliceElem P t = some e → (Op.equal t (.slice ad len cap) (.slice none 0 0)).run P w = .ok ad.isNone w := by
      intro e he
      have h2 : (Op.equalIn (9999 + 1) t (.slice ad len cap) (.slice none 0 0)).run P w = .ok ad.isNone w := by
        unfold Op.equalIn
        cases ad <;> simp [run_underlying (sliceElem_und he)]
      exact h2
    split at h
    · rename_i e hn he
      injection h with h; subst h
      rw [hc hn]
      exact ⟨rfl, .bool ad.isNone, by simp [eqGuard, binOp, eqn e he], .db _⟩
    · rename_i e hn he
      injection h with h; subst h
      rw [hc hn]
      exact ⟨rfl, .bool !ad.isNone, by simp [eqGuard, binOp, eqn e he], .db _⟩
    · cases h
  · rename_i id n i off
    have hvb := rep_v hy
    subst hvb
    have eqn : ∀ (ad : Addr) e, ptrElem P t = some e → (Op.equal t (.pointer (some ad)) (.pointer none)).run P w = .ok false w := by
      intro ad e he
      have h2 : (Op.equalIn (9999 + 1) t (.pointer (some ad)) (.pointer none)).run P w = .ok false w := by
        unfold Op.equalIn
        simp [run_underlying (ptrElem_und he).1]
      exact h2
    split at h
    · rename_i ob e ho he
      split at h
      case h_2 => cases h
      rename_i ps hv
      injection h with h; subst h
      obtain ⟨ad, rfl⟩ := op_ptr hx ho hv hobl
      exact ⟨rfl, .bool false, by simp [eqGuard, binOp, eqn _ e he], .db _⟩
    · rename_i ob e ho he
      split at h
      case h_2 => cases h
      rename_i ps hv
      injection h with h; subst h
      obtain ⟨ad, rfl⟩ := op_ptr hx ho hv hobl
      exact ⟨rfl, .bool true, by simp [eqGuard, binOp, eqn _ e he], .db _⟩
    · cases h
  · rename_i id n i off id2 n2 i2 off2
    split at h
    case h_2 => cases h
    rename_i b1 b2 b3
    have b1 := Nat.eq_of_beq_eq_true b1
    have b2 := Nat.eq_of_beq_eq_true b2
    have b3 := Nat.eq_of_beq_eq_true b3
    subst b1; subst b2; subst b3
    split at h
    · rename_i ob e ho he
      split at h
      case h_2 => cases h
      rename_i ps qs hv hv2
      injection h with h; subst h
      rw [AllP_append] at hobl
      obtain ⟨b, cap, hm, rfl⟩ := op_addr hx ho hv hobl.1
      obtain ⟨b', cap', hm', rfl⟩ := op_addr hy ho hv2 hobl.2
      rw [hm] at hm'; injection hm' with hm'; injection hm' with e1 e2; subst e1
      obtain ⟨h1, j, h2⟩ := ptrElem_und he
      exact ⟨rfl, .bool true, by simp only [Sem.run_bind]; rw [show (eqGuard .eql t x y (.pointer (some ⟨b, i * ob.wid U + off, none⟩)) (.pointer (some ⟨b, i * ob.wid U + off, none⟩))).run P w = .ok () w from by simp [eqGuard]]; exact run_eql_ptr_same w _ h1 h2, .db _⟩
    · rename_i ob e ho he
      split at h
      case h_2 => cases h
      rename_i ps qs hv hv2
      injection h with h; subst h
      rw [AllP_append] at hobl
      obtain ⟨b, cap, hm, rfl⟩ := op_addr hx ho hv hobl.1
      obtain ⟨b', cap', hm', rfl⟩ := op_addr hy ho hv2 hobl.2
      rw [hm] at hm'; injection hm' with hm'; injection hm' with e1 e2; subst e1
      obtain ⟨h1, j, h2⟩ := ptrElem_und he
      exact ⟨rfl, .bool false, by simp only [Sem.run_bind]; rw [show (eqGuard .neq t x y (.pointer (some ⟨b, i * ob.wid U + off, none⟩)) (.pointer (some ⟨b, i * ob.wid U + off, none⟩))).run P w = .ok () w from by simp [eqGuard]]; exact Lib.run_neq_ptr_same w _ h1 h2, .db _⟩
    · cases h
  · cases h

theorem run_v {s : Sem Value} {v : Value} {w' : World} (h : s.run P w = .ok v w') : (do pure (Next.value (← s)) : Sem Next).run P w = .ok (.value v) w' := by
  simp [h]

theorem two_ints {vs : List Value} {cs : List (AV D)} {k k' : IntKind} {m n : Int} (h : cs.map toV = [some (.int k m), some (.int k' n)]) (hr : RepL U w E hp vs cs) :
    ∃ (_ _ : Unit), vs = [.int k m, .int k' n] := by
  obtain ⟨hl, hr⟩ := hr
  cases cs with
  | nil => simp at h
  | cons c1 cs =>
    cases cs with
    | nil => simp at h
    | cons c2 cs =>
      cases cs with
      | cons c3 cs => simp at h
      | nil =>
        simp at h
        match vs, hl, hr with
        | [v1, v2], _, hr =>
          have e1 := toV_rep h.1 (hr 0 v1 c1 rfl rfl)
          have e2 := toV_rep h.2 (hr 1 v2 c2 rfl rfl)
          exact ⟨(), (), by rw [e1, e2]⟩
        | [], hl, _ => simp at hl
        | [v1], hl, _ => simp at hl
        | v1 :: v2 :: v3 :: vs, hl, _ => simp at hl

theorem opA_sound {fr : Fr D} {π : List (Ans D)} {r : Res D} (hi : Inv U w E hp) (hf : Slots U w E hp a fr) (h : opA P U fr hp o.type π o.op = some r) (hobl : AllP r.obl) :
    Oks P U o a w E hp r.val r.hp := by
  cases hop : o.op <;> rw [hop] at h <;> simp only [opA] at h
  case move x =>
    injection h with h; subst h
    exact oks_same hi (by simp [execOp, hop]) (evalC_rep hi hf _ _)
  case assign x =>
    have hx := evalC_rep (P := P) hi hf o.type x
    split at h
    · rename_i t ht
      injection h with h; subst h
      rw [ht] at hx
      obtain ⟨i1, s1⟩ := push_none hi t false
      obtain ⟨a0, ha0⟩ := rep_em hx
      refine oks_val (v := a.eval x) (by simp [execOp, hop]) i1 s1 (.os _ _ _ ⟨⟨a0, 0, 0, ha0⟩, .arr t [] 0 false, by simp, Nat.le_refl _, fun _ => ?_⟩)
      simp [Emb.upd, osHdr, ha0]
    · injection h with h; subst h
      exact oks_same hi (by simp [execOp, hop]) hx
  case pick c x y =>
    have hc := evalC_rep (P := P) hi hf o.type c
    split at h
    · rename_i t ht
      injection h with h; subst h
      rw [ht] at hc
      have hb := rep_db hc
      cases t
      · exact oks_same hi (v := a.eval y) (by simp [execOp, hop, hb, asBool]) (evalC_rep hi hf _ _)
      · exact oks_same hi (v := a.eval x) (by simp [execOp, hop, hb, asBool]) (evalC_rep hi hf _ _)
    · rename_i t ht
      split at h
      · rename_i d π'
        injection h with h; subst h
        rw [ht] at hc
        have hb := rep_bool hc
        have := hobl.1; subst this
        cases t
        · exact oks_same hi (v := a.eval y) (by simp [execOp, hop, hb, asBool]) (evalC_rep hi hf _ _)
        · exact oks_same hi (v := a.eval x) (by simp [execOp, hop, hb, asBool]) (evalC_rep hi hf _ _)
      · cases h
    · cases h
  case box e x =>
    split at h
    · rename_i hok
      injection h with h; subst h
      exact allocBox_sound hi hok (evalC_rep hi hf _ _) (by simp [execOp, hop, Instr.box, run_newVar])
    · cases h
  case alloc e =>
    split at h
    · split at h
      case h_2 => cases h
      rename_i z hz
      split at h
      case h_2 => cases h
      rename_i hok
      injection h with h; subst h
      obtain ⟨i, v, hi1, hzz, hzr⟩ := rawZ_rep (U := U) (w := w) (E := E) (hp := hp) hz
      exact allocBox_sound hi hok hzr (by simp [execOp, hop, Instr.alloc, zeroValue, typeInfo, hi1, hzz, run_newVar])
    split at h
    · rename_i z hz
      split at h
      · rename_i hok
        injection h with h; subst h
        obtain ⟨i, v, hi1, hzz, hzr⟩ := zval_rep (U := U) (w := w) (E := E) (hp := hp) hz
        exact allocBox_sound hi hok hzr (by simp [execOp, hop, Instr.alloc, zeroValue, typeInfo, hi1, hzz, run_newVar])
      · cases h
    · cases h
  case fieldAddr s x f =>
    split at h
    · rename_i off hoff
      have hx := evalC_rep (P := P) hi hf o.type x
      split at h
      · rename_i row ro hrw
        injection h with h; subst h
        rw [hrw] at hx
        generalize hav : a.eval x = v at hx
        cases rep_rp hx with
        | rp _ _ b base vs hS hc hr =>
          obtain ⟨b', base', e1, hrun⟩ := fieldAt_sound (P := P) (w := w) (c := .un) (r := (.un : AV D)) hoff ⟨b, base + ro, rfl⟩
          injection e1 with e1; injection e1 with e1; injection e1 with e2 e3; subst e2; subst e3
          refine oks_same hi (by simp only [execOp, hop, hav]; exact run_v hrun) (.pure _ _ ?_)
          have := PRep.rp (U := U) (w := w) (S := E.S) row (ro + off) b base vs hS hc hr
          rwa [← Nat.add_assoc] at this
      · rename_i id n i ro hrw
        split at h
        · rename_i ob hob
          split at h
          · rename_i ps hps
            injection h with h; subst h
            rw [hrw] at hx
            have hn := vld_ok hps hobl
            obtain ⟨⟨a0, ha0⟩, o1, ho1, hle, hh⟩ := rep_op hx
            rw [hob] at ho1; injection ho1 with ho1; subst ho1
            have h3 := hh hn
            cases hm : E.m id with
            | none => rw [hm] at h3; exact h3.elim
            | some q =>
              obtain ⟨b, cap⟩ := q
              rw [hm] at h3
              simp only [opHdr] at h3
              obtain ⟨b', base', e1, hrun⟩ := fieldAt_sound (P := P) (w := w) (c := .un) (r := (.un : AV D)) hoff ⟨b, i * ob.wid U + ro, h3⟩
              rw [h3] at e1; injection e1 with e1; injection e1 with e1; injection e1 with e2 e3; subst e2; subst e3
              refine oks_same hi (by simp only [execOp, hop]; exact run_v hrun) (.op _ _ _ _ _ ⟨⟨_, rfl⟩, ob, hob, hle, fun _ => ?_⟩)
              rw [hm]
              simp [opHdr, Nat.add_assoc]
          · cases h
        · cases h
      · cases h
    · cases h
  case load t x =>
    have hx := evalC_rep (P := P) hi hf o.type x
    obtain ⟨e1, v, hrun, hr⟩ := loadA_sound hi h hobl hx
    rw [e1]
    exact oks_same hi (by simp [execOp, hop, hrun]) hr
  case store t p x =>
    obtain ⟨e1, w', E', hrun, i1, s1⟩ := storeA_sound hi h hobl (evalC_rep hi hf _ _) (evalC_rep hi hf _ _)
    rw [e1]
    exact oks_skip (by simp [execOp, hop, hrun]) i1 s1
  case nilCheck x =>
    have hx := evalC_rep (P := P) hi hf o.type x
    split at h
    · rename_i row ro hrw
      injection h with h; subst h
      rw [hrw] at hx
      have hp1 := rep_rp hx
      have : ∃ ad, a.eval x = .pointer (some ad) := by
        generalize a.eval x = v at hp1
        cases hp1 with
        | rp => exact ⟨_, rfl⟩
      obtain ⟨ad, had⟩ := this
      exact oks_same hi (v := a.eval x) (by simp [execOp, hop, had]) hx
    · rename_i id n i ro hrw
      split at h
      · rename_i ob hob
        split at h
        · rename_i ps hps
          injection h with h; subst h
          rw [hrw] at hx
          have hn := vld_ok hps hobl
          have hx2 := hx
          obtain ⟨⟨a0, ha0⟩, o1, ho1, hle, hh⟩ := rep_op hx
          rw [hob] at ho1; injection ho1 with ho1; subst ho1
          have h3 := hh hn
          cases hm : E.m id with
          | none => rw [hm] at h3; exact h3.elim
          | some q =>
            rw [hm] at h3
            simp only [opHdr] at h3
            exact oks_same hi (v := a.eval x) (by simp [execOp, hop, h3]) hx2
        · cases h
      · cases h
    · rename_i f fi ca hrw
      injection h with h; subst h
      rw [hrw] at hx
      have hx2 := hx
      obtain ⟨vs, ws, e1, _, _⟩ := rep_fn hx
      exact oks_same hi (v := a.eval x) (by simp [execOp, hop, e1]) hx2
    · cases h
  case binOp op xt x y yt =>
    split at h
    · rename_i va vb hva hvb
      have ea := toV_rep hva (evalC_rep (P := P) hi hf xt x)
      have eb := toV_rep hvb (evalC_rep (P := P) hi hf yt y)
      obtain ⟨e1, v, hrun, hv⟩ := binA_sound (P := P) (w := w) (fr := fr) (yt := yt) h hobl
      rw [e1, hv]
      exact oks_same hi (by simp only [execOp, hop, ea, eb]; exact run_v hrun) (.v _)
    · obtain ⟨e1, v, hrun, hv⟩ := cmpA_sound (P := P) (w := w) (act := a) (x := x) (va := a.eval x) (vb := a.eval y) h (evalC_rep (P := P) hi hf xt x) (evalC_rep (P := P) hi hf yt y) (fun hn => by
        unfold isNilC at hn
        split at hn
        · rfl
        · cases hn) hobl
      rw [e1]
      exact oks_same hi (by simp only [execOp, hop]; exact run_v hrun) hv
  case unOp op xt x =>
    split at h
    · rename_i va hva
      have ea := toV_rep hva (evalC_rep (P := P) hi hf xt x)
      split at h
      · rename_i v hv
        injection h with h; subst h
        exact oks_same hi (by simp only [execOp, hop, ea]; exact run_v (pureRun_run hv w)) (.v _)
      · cases h
    · cases h
  case convert src dst x =>
    split at h
    · rename_i va hva
      have ea := toV_rep hva (evalC_rep (P := P) hi hf src x)
      split at h
      · rename_i v hv
        injection h with h; subst h
        exact oks_same hi (by simp only [execOp, hop, ea]; exact run_v (pureRun_run hv w)) (.v _)
      · cases h
    · split at h
      · rename_i y hy
        injection h with h; subst h
        obtain ⟨rfl, hrun⟩ := convP_sound hi hy (evalC_rep (P := P) hi hf src x)
        exact oks_same hi (by simp only [execOp, hop]; exact run_v hrun) (evalC_rep (P := P) hi hf src x)
      obtain ⟨z, hrun, e1, e2⟩ := convB_sound hi h hobl (evalC_rep (P := P) hi hf src x)
      rw [e1, e2]
      exact oks_same hi (by simp only [execOp, hop]; exact run_v hrun) (.v _)
  case extract x i =>
    have hx := evalC_rep (P := P) hi hf o.type x
    split at h
    · rename_i cs hcs
      split at h
      · rename_i c hc
        injection h with h; subst h
        rw [hcs] at hx
        obtain ⟨vs, e1, hl, hr⟩ := rep_tup hx
        have hlt : i < vs.length := by rw [hl]; exact (List.getElem?_eq_some_iff.1 hc).1
        have hg : vs[i]? = some vs[i] := List.getElem?_eq_getElem hlt
        exact oks_same hi (v := vs[i]) (by simp [execOp, hop, e1, Instr.extract, hlt]) (hr i _ c hg hc)
      · cases h
    · cases h
  case build t parts =>
    split at h
    · rename_i av hav
      injection h with h; subst h
      have hpr := parts_rep (P := P) hi hf (fun q => fieldTy P t q.1) parts.toList
      have hmap : (parts.map fun q => (q.1, a.eval q.2)).toList = parts.toList.map fun q => (q.1, a.eval q.2) := by simp
      rw [← hmap] at hpr
      obtain ⟨v, hrun, hr⟩ := buildA_sound hav hpr
      exact oks_same hi (by simp only [execOp, hop]; exact run_v hrun) hr
    · cases h
  case buildSlice t n parts =>
    split at h
    · rename_i e he
      split at h
      · rename_i ids e' l ln π'
        split at h
        · rename_i sz z hsz hee hpo hnp hn2 hz
          generalize hvw : vws hp ids ((parts.toList.map fun q => (q.1, evalC P fr e q.2)).flatMap fun q => cellsA q.2) = pc at h
          obtain ⟨ps, cs⟩ := pc
          split at h
          · rename_i hs1 hs2 heq
            injection heq with heq1 heq2; subst heq1; subst heq2
            split at h
            · rename_i hok
              injection h with h; subst h
              obtain ⟨⟨hfl, hln, hln2⟩, hps⟩ := hobl
              subst hln2
              have hee : e = e' := Nat.eq_of_beq_eq_true hee
              subst hee
              have hs1 : sz = U.width e := Nat.eq_of_beq_eq_true hs1
              subst hs1
              have hpr := parts_rep (P := P) hi hf (fun _ => e) parts.toList
              have hmap : (parts.map fun q => (q.1, a.eval q.2)).toList = parts.toList.map fun q => (q.1, a.eval q.2) := by simp
              rw [← hmap] at hpr
              obtain ⟨v, w', E', hrun, i1, s1, r1⟩ := buildSlice_sound (P := P) (n := ln) (pv := parts.map fun q => (q.1, a.eval q.2)) hi he hsz hpo (by simp; exact (Nat.eq_of_beq_eq_true hnp).symm) (Nat.le_of_ble_eq_true hn2) (Nat.le_of_ble_eq_true hs2) ⟨z, hz⟩ hok hvw hps hfl hln hpr
              exact oks_val (by simp only [execOp, hop]; exact run_v hrun) i1 s1 r1
            · cases h
          · cases h
        · cases h
      · cases h
    · cases h
  case makeFunc f first cap =>
    injection h with h; subst h
    have r1 := argsA_map (P := P) hi hf first []
    have r2 := argsA_map (P := P) hi hf cap []
    exact oks_same hi (v := .func f (first.map a.eval) (cap.map a.eval)) (by simp [execOp, hop, Instr.makeFunc]) (Rep.fn f _ _ _ _ r1.1 r2.1 r1.2 r2.2)
  case makeSlice t l c =>
    split at h
    · rename_i e n m he hl hc
      have el := rep_v (hl ▸ evalC_rep (P := P) hi hf o.type l)
      have ec := rep_v (hc ▸ evalC_rep (P := P) hi hf o.type c)
      split at h
      · rename_i ids e' l' ln π'
        split at h
        · rename_i sz z hsz hz hee
          generalize hvw : vws hp [] (cellsA z) = pc at h
          obtain ⟨ps, zc⟩ := pc
          split at h
          · rename_i hs1 hzk heq
            injection heq with heq1 heq2; subst heq1; subst heq2
            injection h with h; subst h
            obtain ⟨⟨h0, hnm, hb, h63, y, hy1, hy2⟩, hln2, hps⟩ := hobl
            subst hln2
            have hee : e = e' := Nat.eq_of_beq_eq_true hee
            subst hee
            have hs1 : sz = U.width e := Nat.eq_of_beq_eq_true hs1
            subst hs1
            obtain ⟨v, w', E', hrun, i1, s1, r1⟩ := makeSlice_sound hi he hsz hz hzk (by rw [hvw]; exact hps) h0 hnm hb h63 ⟨y, hy1, by rw [hvw]; exact hy2⟩ .i64
            exact oks_val (by simp only [execOp, hop, el, ec]; exact run_v hrun) i1 s1 r1
          · cases h
        · cases h
      · cases h
    · cases h
  case slice t x lo hi' mx =>
    have q : ∀ (z : Option Operand) c, z.map (evalC P fr o.type) = some c → ∃ y, z.map a.eval = some y ∧ Rep U w E hp y c := by
      intro z c hz
      cases z with
      | none => simp at hz
      | some z => simp at hz; subst hz; exact ⟨_, rfl, evalC_rep hi hf _ _⟩
    have q0 : ∀ (z : Option Operand), z.map (evalC P fr o.type) = none → z.map a.eval = none := by
      intro z hz; cases z <;> simp at hz ⊢
    split at h
    · rename_i sz m hsz
      obtain ⟨e1, v, hrun, hr⟩ := sliceA_sound (P := P) (w := w) (t := t) (vmx := some (a.eval m)) (by rw [hsz]; rfl) h hobl hi (evalC_rep (P := P) hi hf o.type x) (q lo) (q0 lo) (q hi') (fun c hc => by injection hc with hc; subst hc; exact ⟨_, rfl, evalC_rep hi hf _ _⟩)
      rw [e1]
      exact oks_same hi (by simp only [execOp, hop]; exact run_v hrun) hr
    · rename_i sz hsz
      obtain ⟨e1, v, hrun, hr⟩ := sliceB_sound (P := P) (w := w) (t := t) hsz h hobl hi (evalC_rep (P := P) hi hf t x) (q lo) (q0 lo) (q hi') (q0 hi')
      rw [e1]
      exact oks_same hi (by simp only [execOp, hop]; exact run_v hrun) hr
    · split at h
      · rename_i hst
        obtain ⟨e1, v, hrun, hr⟩ := sliceS_sound (P := P) (w := w) (t := t) hst h hobl (evalC_rep (P := P) hi hf t x) (q lo) (q0 lo) (q hi') (q0 hi')
        rw [e1]
        exact oks_same hi (by simp only [execOp, hop]; exact run_v hrun) hr
      · cases h
    · cases h
  case index t x i =>
    split at h
    · rename_i s k n hst hx hn
      injection h with h; subst h
      have e1 := rep_v (hx ▸ evalC_rep (P := P) hi hf t x)
      have e2 := rep_v (hn ▸ evalC_rep (P := P) hi hf o.type i)
      refine oks_same hi (v := .int .u8 (byteAt s n)) ?_ (.v _)
      simp only [execOp, hop]
      rw [e1, e2]
      exact run_v (index_sound hst hobl.1.1 hobl.1.2)
    · rename_i cs k n hst hx hn
      have e1 := hx ▸ evalC_rep (P := P) hi hf t x
      have e2 := rep_v (hn ▸ evalC_rep (P := P) hi hf o.type i)
      obtain ⟨e3, q, hrun, hr⟩ := idxV_sound (kk := k) h hobl e1
      rw [e3]
      exact oks_same hi (by simp only [execOp, hop, e2]; exact run_v hrun) hr
    · cases h
  case call c =>
    split at h
    · rename_i f hcf
      have hc := evalC_rep (P := P) hi hf o.type f
      have hargs := argsA_map (P := P) hi hf c.args c.argTypes.toList
      unfold callE at h
      split at h
      · split at h
        case h_2 => cases h
        rename_i g av hfv hav
        split at h
        case h_2 => cases h
        rename_i fn hfn
        injection h with h; subst h
        obtain ⟨⟨n1, n2, n3, n4⟩, _⟩ := hobl
        rw [hfv] at hc
        rw [hav] at hargs
        obtain ⟨vs0, ws0, hv, hl1, hl2⟩ := rep_fn hc
        have e1 : vs0 = [] := by have := hl1.1; simpa using this
        have e2 : ws0 = [] := by have := hl2.1; simpa using this
        subst e1; subst e2
        have hsz : (c.args.map a.eval).toList.length = 1 := hargs.1
        obtain ⟨v1, hv1⟩ : ∃ v1, (c.args.map a.eval).toList = [v1] := by
          cases hq : (c.args.map a.eval).toList with
          | nil => rw [hq] at hsz; cases hsz
          | cons x r =>
            rw [hq] at hsz
            cases r with
            | nil => exact ⟨x, rfl⟩
            | cons y r => simp at hsz
        have hr1 := hargs.2 0 v1 av (by rw [hv1]; rfl) rfl
        have hv2 : c.args.map a.eval = #[v1] := by apply Array.ext'; simpa using hv1
        refine oks_same hi (v := v1) ?_ hr1
        have hcf2 : (callFunc g #[v1]).run P w = .ok (.value v1) w := by
          rw [run_callFunc_extern (P := P) hfn n1 n2 n3 n4 #[v1] w, Lib.run_noEscape]; rfl
        simp [execOp, hop, resolve, hcf, Deferred.ofValue, hv, invoke, hv2, hcf2]
      refine callG_sound hi h hobl hc hargs (fun k first cap hv hcal => ?_)
      obtain ⟨fn, hfn, hname, hbody⟩ := hcal
      have hname' : ¬ fn.name = "runtime.NumGoroutine" := by simpa using hname
      have hbody' : ¬ fn.body = none := by intro e; rw [e] at hbody; cases hbody
      have e9 : (c.args.map a.eval).toList.toArray = c.args.map a.eval := Array.toArray_toList
      rw [e9]
      simp [execOp, hop, resolve, hcf, Deferred.ofValue, hv, invoke, callFunc, hfn, hname', hbody']
    · rename_i hcb
      split at h
      case h_2 => cases h
      rename_i x t hca hct
      have ea : c.args = #[x] := by apply Array.ext'; simpa using hca
      have et : c.argTypes = #[t] := by apply Array.ext'; simpa using hct
      have hx := evalC_rep (P := P) hi hf t x
      have fin : ∀ (v : Value), (Builtin.len_ #[t] o.type #[a.eval x]).run P w = .ok v w → Oks P U o a w E hp (.v v) hp := by
        intro v hv
        refine oks_same hi (v := v) ?_ (.v _)
        simp only [execOp, hop, resolve, hcb, ea, et, invoke, builtin, Sem.run_bind, Sem.run_pure, Result.andThen_ok]
        simp [hv]
      split at h
      · rename_i e k l hu hv
        injection h with h; subst h
        rw [hv] at hx
        generalize hav : a.eval x = v at hx
        refine fin _ ?_
        rw [hav]
        cases rep_sl hx with
        | sl => simp [Builtin.len_, run_underlying hu, goInt]
        | sl0 => simp [Builtin.len_, run_underlying hu, goInt]
      · rename_i e k hu hv
        injection h with h; subst h
        rw [hv] at hx
        obtain ⟨a0, ha0⟩ := rep_em hx
        exact fin _ (by simp [ha0, Builtin.len_, run_underlying hu, goInt])
      · rename_i e hu hv
        injection h with h; subst h
        rw [hv] at hx
        have ha0 := rep_v hx
        exact fin _ (by simp [ha0, Builtin.len_, run_underlying hu, goInt])
      · rename_i e id n hu hv
        split at h
        · rename_i k l ln f hob
          injection h with h; subst h
          have hn := hobl.1
          rw [hv] at hx
          obtain ⟨_, o1, ho1, hle, hh⟩ := rep_os hx
          rw [hob] at ho1; injection ho1 with ho1; subst ho1
          have h3 := hh hn
          cases hm : E.m id with
          | none =>
            rw [hm] at h3
            simp only [osHdr] at h3
            obtain ⟨hn0, a0, ha0⟩ := h3
            exact fin _ (by simp [ha0, Builtin.len_, run_underlying hu, goInt, hn0])
          | some q =>
            obtain ⟨b, cap⟩ := q
            rw [hm] at h3
            simp only [osHdr] at h3
            exact fin _ (by simp [h3, Builtin.len_, run_underlying hu, goInt])
        · rename_i k l pm op ln hob
          injection h with h; subst h
          have hn := hobl.1
          rw [hv] at hx
          obtain ⟨_, o1, ho1, hle, hh⟩ := rep_os hx
          rw [hob] at ho1; injection ho1 with ho1; subst ho1
          have h3 := hh hn
          cases hm : E.m id with
          | none =>
            rw [hm] at h3
            simp only [osHdr] at h3
            obtain ⟨hn0, a0, ha0⟩ := h3
            exact fin _ (by simp [ha0, Builtin.len_, run_underlying hu, goInt, hn0])
          | some q =>
            obtain ⟨b, cap⟩ := q
            rw [hm] at h3
            simp only [osHdr] at h3
            exact fin _ (by simp [h3, Builtin.len_, run_underlying hu, goInt])
        · cases h
      · rename_i e id n a1 b1 hu hv
        split at h
        · rename_i k l ln f hob
          injection h with h; subst h
          have hn := hobl.1
          rw [hv] at hx
          obtain ⟨⟨x0, k0, c0, e0⟩, o1, ho1, hle, hh⟩ := rep_oss hx
          rw [hob] at ho1; injection ho1 with ho1; subst ho1
          obtain ⟨hab, hbn, h3⟩ := hh hn
          have hk : k0 = b1 - a1 := by
            rw [e0] at h3
            cases hm : E.m id with
            | none =>
              rw [hm] at h3
              obtain ⟨g1, xx, cc, g2⟩ := h3
              injection g2 with g2 g3 g4
              omega
            | some q =>
              obtain ⟨b, cap⟩ := q
              rw [hm] at h3
              by_cases hz : b1 - a1 = 0
              · obtain ⟨xx, cc, g2⟩ := h3.2.1 hz
                injection g2 with g2 g3 g4
                omega
              · obtain ⟨cc, _, g2⟩ := h3.1 (by omega)
                injection g2 with g2 g3 g4
          exact fin _ (by simp [e0, Builtin.len_, run_underlying hu, goInt, hk])
        · cases h
      · rename_i s hu hv
        injection h with h; subst h
        rw [hv] at hx
        have ha0 := rep_v hx
        exact fin _ (by simp [ha0, Builtin.len_, run_underlying hu, goInt])
      · cases h
    · rename_i hcb
      split at h
      case h_2 => cases h
      rename_i x y t t2 hca hct
      have ea : c.args = #[x, y] := by apply Array.ext'; simpa using hca
      have et : c.argTypes = #[t, t2] := by apply Array.ext'; simpa using hct
      have hx := evalC_rep (P := P) hi hf t x
      have hy := evalC_rep (P := P) hi hf t y
      split at h
      · rename_i e he he2
        have hy2 := evalC_rep (P := P) hi hf t2 y
        obtain ⟨v, w', E', hrun, i1, s1, r1⟩ := appS_sound (ty := o.type) hi he h hobl hx hy2
        refine oks_val ?_ i1 s1 r1
        simp only [execOp, hop, resolve, hcb, ea, et, invoke, builtin, Sem.run_bind, Sem.run_pure, Result.andThen_ok]
        simp [hrun]
      case h_3 => cases h
      rename_i e q2 he he2
      split at h
      · rename_i id n hv
        split at h
        case h_2 => cases h
        rename_i e' l ln hob
        split at h
        case h_2 => cases h
        rename_i ids e4 l4 n4 π'
        split at h
        case h_2 => cases h
        rename_i sz ps e2 l2 hsz hee hnc hvw
        split at h
        case h_2 => cases h
        rename_i hs1 hs2 hs3
        injection h with h; subst h
        obtain ⟨⟨hn, hn4, hb, h63, hex⟩, hps⟩ := hobl
        have hs1 : sz = U.width e' := Nat.eq_of_beq_eq_true hs1
        subst hs1
        rw [hv] at hx
        have hl4 : l4.length = l.length + l2.length := by
          obtain ⟨xs, hx1, hx2⟩ := hex
          injection hx1 with k1 k2 k3 k4
          subst k1
          have k2 := eq_of_heq k2
          have h1 := flatL_length (U := U) e4 xs
          have h2 := flatL_length (U := U) e2 l2
          rw [hx2, h2, Nat.eq_of_beq_eq_true hs2] at h1
          have := Nat.eq_of_mul_eq_mul_right (U.pos e4) h1
          rw [k2, List.length_append]
          omega
        have hn4' : n4 = l.length + l2.length := hn4.trans hl4
        subst hn4'
        obtain ⟨v, w', E', hrun, i1, s1, r1⟩ := append_own (ty := o.type) hi he ⟨q2, he2⟩ hob (Nat.eq_of_beq_eq_true hee) hsz hnc hvw (Nat.eq_of_beq_eq_true hs2) hn hb h63 (zokB_ex hs3) hex hps hx hy
        refine oks_val ?_ i1 s1 r1
        simp only [execOp, hop, resolve, hcb, ea, et, invoke, builtin, Sem.run_bind, Sem.run_pure, Result.andThen_ok]
        simp [hrun]
      · rename_i e' hv
        split at h
        case h_2 => cases h
        rename_i ids e2 l n2 π'
        split at h
        case h_2 => cases h
        rename_i sz ps e3 l2 hsz hee hvw
        split at h
        case h_2 => cases h
        rename_i hs1 hs2 hs3
        injection h with h; subst h
        obtain ⟨⟨hb, h63, hll, hfl, hn2⟩, hps⟩ := hobl
        have hn2' : n2 = l2.length := hn2.trans hll
        subst hn2'
        have hs1 : sz = U.width e2 := Nat.eq_of_beq_eq_true hs1
        subst hs1
        rw [hv] at hx
        obtain ⟨v, w', E', hrun, i1, s1, r1⟩ := append_em (ty := o.type) hi he (Nat.eq_of_beq_eq_true hee) ⟨q2, he2⟩ hsz hvw (Nat.eq_of_beq_eq_true hs2) hb h63 (zokB_ex hs3) hll hfl hps hx hy
        refine oks_val ?_ i1 s1 r1
        simp only [execOp, hop, resolve, hcb, ea, et, invoke, builtin, Sem.run_bind, Sem.run_pure, Result.andThen_ok]
        simp [hrun]
      · rename_i id n a1 b1 hv
        split at h
        case h_2 => cases h
        rename_i e' l ln hob
        split at h
        case h_2 => cases h
        rename_i ids e4 l4 n4 π'
        split at h
        case h_2 => cases h
        rename_i sz ps e2 l2 hsz ha hvw
        split at h
        case h_2 => cases h
        rename_i hs1 hs2
        injection h with h; subst h
        obtain ⟨⟨hn, hn4, hpos, hle, hids, hex⟩, hps⟩ := hobl
        have hs1 : sz = U.width e' := Nat.eq_of_beq_eq_true hs1
        have ha : a1 = 0 := Nat.eq_of_beq_eq_true ha
        subst hs1; subst ha; subst hn4
        rw [hv] at hx
        obtain ⟨xs, hx1, hx2⟩ := hex
        injection hx1 with k1 k2 k3 k4
        subst k1
        have k2 := eq_of_heq k2
        obtain ⟨v, w', E', hrun, i1, s1, r1, r2⟩ := append_part (ty := o.type) hi he ⟨q2, he2⟩ hob hsz hvw (Nat.eq_of_beq_eq_true hs2) hn hpos hle ⟨xs, k2, hx2⟩ hps hx hy
        have hrr : Rep U w' E' (setO hp id (.arr e4 l4 n4 false)) v (prtV ids id n (b1 + l2.length)) := by
          cases ids with
          | nil => exact r1
          | cons q r => exact r2 (hids.resolve_left (by simp))
        refine oks_val ?_ i1 s1 hrr
        simp only [execOp, hop, resolve, hcb, ea, et, invoke, builtin, Sem.run_bind, Sem.run_pure, Result.andThen_ok]
        simp [hrun]
      · cases h
    · rename_i hcb
      split at h
      case h_2 => cases h
      rename_i x t hca hct
      have ea : c.args = #[x] := by apply Array.ext'; simpa using hca
      have et : c.argTypes = #[t] := by apply Array.ext'; simpa using hct
      obtain ⟨e1, z, hrun, hz⟩ := usdA_sound (P := P) (ats := #[t]) (ty := o.type) hi h hobl (evalC_rep (P := P) hi hf t x)
      rw [e1]
      refine oks_same hi (v := z) ?_ hz
      simp only [execOp, hop, resolve, hcb, ea, et, invoke, builtin, Sem.run_bind, Sem.run_pure, Result.andThen_ok]
      simp [hrun]
    · rename_i hcb
      split at h
      case h_2 => cases h
      rename_i x y t t2 hca hct
      have ea : c.args = #[x, y] := by apply Array.ext'; simpa using hca
      have et : c.argTypes = #[t, t2] := by apply Array.ext'; simpa using hct
      obtain ⟨z, w', E', hrun, i1, s1, r1⟩ := ustA_sound (P := P) (it := t2) (ty := o.type) hi h hobl (evalC_rep (P := P) hi hf t x) (evalC_rep (P := P) hi hf t2 y)
      refine oks_val ?_ i1 s1 r1
      simp only [execOp, hop, resolve, hcb, ea, et, invoke, builtin, Sem.run_bind, Sem.run_pure, Result.andThen_ok]
      simp [hrun]
    · rename_i hcb
      split at h
      case h_2 => cases h
      rename_i x t hca hct
      have ea : c.args = #[x] := by apply Array.ext'; simpa using hca
      have et : c.argTypes = #[t] := by apply Array.ext'; simpa using hct
      split at h
      case h_2 => cases h
      rename_i e hse
      obtain ⟨hv, w', E', hrun, i1, s1⟩ := clearA_sound hi hse h hobl (evalC_rep (P := P) hi hf t x)
      rw [hv]
      have hrun2 : (Builtin.clear_ #[t] o.type #[a.eval x]).run P w = .ok (.tuple #[]) w' := hrun
      refine oks_val (v := .tuple #[]) ?_ i1 s1 (.v _)
      simp only [execOp, hop, resolve, hcb, ea, et, invoke, builtin, Sem.run_bind, Sem.run_pure, Result.andThen_ok]
      simp [hrun2]
    · rename_i hcb
      split at h
      case h_2 => cases h
      rename_i x y t t2 hca hct
      have ea : c.args = #[x, y] := by apply Array.ext'; simpa using hca
      have et : c.argTypes = #[t, t2] := by apply Array.ext'; simpa using hct
      split at h
      case h_2 => cases h
      rename_i e hse
      obtain ⟨z, w', E', hrun, i1, s1, r1⟩ := copyA_sound (t2 := t2) (ty := o.type) hi hse h hobl (evalC_rep (P := P) hi hf t x) (evalC_rep (P := P) hi hf t2 y)
      refine oks_val ?_ i1 s1 r1
      simp only [execOp, hop, resolve, hcb, ea, et, invoke, builtin, Sem.run_bind, Sem.run_pure, Result.andThen_ok]
      simp [hrun]
    · rename_i hcb
      have hargs := argsA_map (P := P) hi hf c.args c.argTypes.toList
      split at h
      case h_2 => cases h
      rename_i k m k' n hl
      split at h
      case h_2 => cases h
      rename_i hk
      have := int_inj_kind hk; subst this
      injection h with h; subst h
      obtain ⟨x, y, hxy⟩ := two_ints hl hargs
      refine oks_same hi ?_ (.v _)
      simp only [execOp, hop, resolve, hcb, invoke, builtin, Sem.run_bind, Sem.run_pure, Result.andThen_ok]
      simp only [Builtin.max_, hxy]
      simp [Builtin.max2]
    · rename_i hcb
      have hargs := argsA_map (P := P) hi hf c.args c.argTypes.toList
      split at h
      case h_2 => cases h
      rename_i k m k' n hl
      split at h
      case h_2 => cases h
      rename_i hk
      have := int_inj_kind hk; subst this
      injection h with h; subst h
      obtain ⟨x, y, hxy⟩ := two_ints hl hargs
      refine oks_same hi ?_ (.v _)
      simp only [execOp, hop, resolve, hcb, invoke, builtin, Sem.run_bind, Sem.run_pure, Result.andThen_ok]
      simp only [Builtin.min_, hxy]
      simp [Builtin.min2]
    · cases h
  case indexAddr t x i =>
    split at h
    case h_3 => cases h
    case h_2 k n he hin =>
      have ei := rep_v (hin ▸ evalC_rep (P := P) hi hf o.type i)
      obtain ⟨e3, q, hrun, hr⟩ := idxA_sound (kk := k) h hobl (evalC_rep (P := P) hi hf o.type x)
      rw [e3]
      exact oks_same hi (by simp only [execOp, hop, ei]; exact run_v hrun) hr
    rename_i e k n he hin
    have ei := rep_v (hin ▸ evalC_rep (P := P) hi hf o.type i)
    have hx := evalC_rep (P := P) hi hf o.type x
    split at h
    · rename_i t' l hv
      rw [hv] at hx
      split at h
      case h_2 => cases h
      rename_i rw' π'
      split at h
      case h_2 => cases h
      rename_i sz hsz
      split at h
      case h_2 => cases h
      rename_i hs1
      injection h with h; subst h
      have hs1 : sz = U.width t' := Nat.eq_of_beq_eq_true hs1
      subst hs1
      obtain ⟨q, hrun, hr⟩ := indexAt_sl (P := P) (w := w) (kk := k) he hsz hobl.1.1 hobl.1.2 (rep_sl hx)
      exact oks_same hi (by simp only [execOp, hop, ei]; exact run_v hrun) (.pure _ _ hr)
    · rename_i id m hv
      rw [hv] at hx
      split at h
      case h_3 => cases h
      case h_2 t' l pm op ln hob =>
        split at h
        case h_2 => cases h
        rename_i sz hsz
        split at h
        case h_2 => cases h
        rename_i hs1
        injection h with h; subst h
        have hs1 : sz = U.width t' := Nat.eq_of_beq_eq_true hs1
        subst hs1
        obtain ⟨q, hrun, hr⟩ := indexAt_dp (P := P) (kk := k) hi he hsz hob hobl.1.1 hobl.1.2.1 hobl.1.2.2 hx
        exact oks_same hi (by simp only [execOp, hop, ei]; exact run_v hrun) hr
      rename_i t' l ln f hob
      split at h
      case h_2 => cases h
      rename_i sz hsz
      split at h
      case h_2 => cases h
      rename_i hs1
      injection h with h; subst h
      have hs1 : sz = U.width t' := Nat.eq_of_beq_eq_true hs1
      subst hs1
      obtain ⟨q, hrun, hr⟩ := indexAt_os (P := P) (kk := k) hi he hsz hob hobl.1.1 hobl.1.2.1 hobl.1.2.2 hx
      exact oks_same hi (by simp only [execOp, hop, ei]; exact run_v hrun) hr
    · cases h
  all_goals cases h
end
end Go.Eng
