/- Joined texts of this proof: Maps. -/
import Derived.Maps.OwnOps
import Derived.DeepKeys4
import Derived.Test.YtphabkaiheplpaaGreatDoorRests1
/- Maps of the call's own as lists of keys and values: what a look-up tells, what a store leaves. -/
set_option linter.unusedVariables false
set_option linter.unusedSimpArgs false
namespace Go.Proofs.YtphabkaiheplpaaGreatDoor
open Go.RowKit Go.Maps
open Go.ChangeMaps (setBlock)

/-- A map's block holds these keys with these values, in the order in which they came. -/
def MapIs (W : World) (m : Nat) (kv : List (Value × Value)) : Prop := ∃ es clock, W.heap[m]? = some (.map es clock) ∧ es.toList.map (fun e => (e.key, e.val)) = kv ∧ es.size = kv.length ∧ (es.toList.map (·.born)).Nodup ∧ ∀ e ∈ es.toList, e.born < clock
theorem MapIs.made (w : World) : MapIs (w.alloc (.map #[] 0)) w.heap.size [] := ⟨#[], 0, heap_alloc_new w _, rfl, rfl, by simp, by simp⟩
theorem MapIs.lt {W : World} {m : Nat} {kv : List (Value × Value)} (h : MapIs W m kv) : m < W.heap.size := by
  obtain ⟨es, clock, hb, _⟩ := h
  exact (Array.getElem?_eq_some_iff.1 hb).1
theorem MapIs.of_heap {W W1 : World} {m : Nat} {kv : List (Value × Value)} (h : MapIs W m kv) (he : W1.heap[m]? = W.heap[m]?) : MapIs W1 m kv := by
  obtain ⟨es, clock, hb, h2⟩ := h
  exact ⟨es, clock, he.trans hb, h2⟩
/-- Every key of it reads. -/
def KeysOk (P : Program) (K : TypeId) (kv : List (Value × Value)) : Prop := ∀ p ∈ kv, ∃ l, keyOf P K p.1 = some l
theorem es_at {es : Array MapEntry} {kv : List (Value × Value)} (h : es.toList.map (fun e => (e.key, e.val)) = kv) {j : Nat} {e : MapEntry} (he : es.toList[j]? = some e) : kv[j]? = some (e.key, e.val) := by
  rw [← h, List.getElem?_map, he]; rfl
theorem es_keys {P : Program} {K : TypeId} {es : Array MapEntry} {kv : List (Value × Value)} (h : es.toList.map (fun e => (e.key, e.val)) = kv) (hk : KeysOk P K kv) : ∀ e ∈ es.toList, ∃ l, keyOf P K e.key = some l := fun e he => by
  refine hk (e.key, e.val) ?_
  rw [← h]
  exact List.mem_map.2 ⟨e, he, rfl⟩
theorem nodup_at {α : Type} {l : List α} (h : l.Nodup) {i j : Nat} (hi : i < j) {a : α} (h1 : l[i]? = some a) (h2 : l[j]? = some a) : False := by
  obtain ⟨l1, e1⟩ := List.getElem?_eq_some_iff.1 h1
  obtain ⟨l2, e2⟩ := List.getElem?_eq_some_iff.1 h2
  exact List.pairwise_iff_getElem.1 h i j l1 l2 hi (e1.trans e2.symm)
theorem born_push {es : Array MapEntry} {clock : Nat} (h4 : (es.toList.map (·.born)).Nodup) (h5 : ∀ e ∈ es.toList, e.born < clock) (k v : Value) : ((es.push ⟨k, v, clock⟩).toList.map (·.born)).Nodup ∧ ∀ e ∈ (es.push ⟨k, v, clock⟩).toList, e.born < clock + 1 := by
  rw [Array.toList_push, List.map_append]
  refine ⟨?_, fun e he => ?_⟩
  · rw [List.nodup_append]
    refine ⟨h4, by simp, ?_⟩
    intro a ha b hb e
    obtain ⟨x, hx, rfl⟩ := List.mem_map.1 ha
    simp at hb
    have := h5 x hx
    omega
  · rcases List.mem_append.1 he with h | h
    · have := h5 e h
      omega
    · simp at h
      rw [h]
      exact Nat.lt_succ_self _
theorem modify_mem {es : Array MapEntry} {j : Nat} {f : MapEntry → MapEntry} {e : MapEntry} (he : e ∈ (es.modify j f).toList) : e ∈ es.toList ∨ ∃ x ∈ es.toList, e = f x := by
  rw [Array.toList_modify] at he
  obtain ⟨i, hi, ex⟩ := List.getElem_of_mem he
  rw [List.getElem_modify] at ex
  split at ex
  · exact .inr ⟨_, List.getElem_mem (by simpa using hi), ex.symm⟩
  · exact .inl (ex ▸ List.getElem_mem (by simpa using hi))
theorem born_modify {es : Array MapEntry} {clock : Nat} (h4 : (es.toList.map (·.born)).Nodup) (h5 : ∀ e ∈ es.toList, e.born < clock) (j : Nat) (f : MapEntry → MapEntry) (hf : ∀ e, (f e).born = e.born) : ((es.modify j f).toList.map (·.born)).Nodup ∧ ∀ e ∈ (es.modify j f).toList, e.born < clock := by
  have e1 : (es.modify j f).toList.map (·.born) = es.toList.map (·.born) := by
    rw [Array.toList_modify]
    apply List.ext_getElem?
    intro i
    rw [List.getElem?_map, List.getElem?_map, List.getElem?_modify]
    cases es.toList[i]? with
    | none => rfl
    | some e => by_cases h : j = i <;> simp [h, hf]
  refine ⟨e1 ▸ h4, fun e he => ?_⟩
  rcases modify_mem he with h | ⟨x, hx, rfl⟩
  · exact h5 e h
  · rw [hf]; exact h5 x hx
theorem List.set_getElem_self_of {α : Type} {l : List α} {j : Nat} {a : α} (h : l[j]? = some a) : l.set j a = l := by
  apply List.ext_getElem?
  intro i
  by_cases e : j = i
  · subst e
    rw [List.getElem?_set_self (List.getElem?_eq_some_iff.1 h).1, h]
  · rw [List.getElem?_set_ne e]
/-- What a look-up tells. -/
theorem lookup_tells {P : Program} {t k e : TypeId} {W : World} {m : Nat} {kv : List (Value × Value)} {z key : Value} {kl : Lit} (hm : MapIs W m kv) (L : Keyed P k) (ht : P.underlying t = some (.map k e)) (hz : (zeroValue e).run P W = .ok z W) (hk : KeysOk P k kv) (hkey : keyOf P k key = some kl) (ok : Bool) :
    ((∀ p ∈ kv, p.1 ≠ key) ∧ (Instr.lookup t (.map (some m)) key ok).run P W = .ok (if ok then .tuple #[z, .bool false] else z) W) ∨
    ∃ (j : Nat) (v : Value), kv[j]? = some (key, v) ∧ (Instr.lookup t (.map (some m)) key ok).run P W = .ok (if ok then .tuple #[v, .bool true] else v) W := by
  obtain ⟨es, clock, hb, h2, h3, h4, h5⟩ := hm
  rcases L.find W hkey es.toList (es_keys h2 hk) with ⟨f1, f2⟩ | ⟨j, e0, f1, f2, f3⟩
  · left
    refine ⟨fun p hp => ?_, ?_⟩
    · rw [← h2] at hp
      obtain ⟨e1, he1, rfl⟩ := List.mem_map.1 hp
      exact f2 e1 he1
    · unfold Instr.lookup
      cases ok <;> simp [run_underlying ht, MapKept.run_getObj_map hb, L.check W es.isEmpty hkey, f1, hz, Result.andThen]
  · right
    refine ⟨j, e0.val, by rw [← f3]; exact es_at h2 f2, ?_⟩
    unfold Instr.lookup
    cases ok <;> simp [run_underlying ht, MapKept.run_getObj_map hb, L.check W es.isEmpty hkey, f1, Result.andThen]
/-- What a store leaves. -/
theorem store_leaves {P : Program} {t k e : TypeId} {W : World} {m : Nat} {kv : List (Value × Value)} {key val : Value} {kl : Lit} (hm : MapIs W m kv) (L : Keyed P k) (ht : P.underlying t = some (.map k e)) (hk : KeysOk P k kv) (hkey : keyOf P k key = some kl) :
    ∃ o, (Instr.mapUpdate t (.map (some m)) key val).run P W = .ok () (setBlock W m o) ∧
    (((∀ p ∈ kv, p.1 ≠ key) ∧ MapIs (setBlock W m o) m (kv ++ [(key, val)])) ∨ ∃ (j : Nat) (v : Value), kv[j]? = some (key, v) ∧ MapIs (setBlock W m o) m (kv.set j (key, val))) := by
  obtain ⟨es, clock, hb, h2, h3, h4, h5⟩ := hm
  rcases L.find W hkey es.toList (es_keys h2 hk) with ⟨f1, f2⟩ | ⟨j, e0, f1, f2, f3⟩
  · refine ⟨.map (es.push ⟨key, val, clock⟩) (clock + 1), by simp [Instr.mapUpdate, run_underlying ht, MapKept.run_getObj_map hb, L.check W false hkey, f1, MapKept.run_setObj_map _ hb, Result.andThen, setBlock], .inl ⟨fun p hp => ?_, ?_⟩⟩
    · rw [← h2] at hp
      obtain ⟨e1, he1, rfl⟩ := List.mem_map.1 hp
      exact f2 e1 he1
    · refine ⟨_, _, Go.ChangeMaps.heap_setBlock_same hb _, by rw [Array.toList_push, List.map_append, h2]; rfl, by simp [h3], born_push h4 h5 _ _⟩
  · have hj : es[j]? = some e0 := by simpa using f2
    refine ⟨.map (es.modify j fun e' => { e' with key := key, val := val }) clock, by simp [Instr.mapUpdate, run_underlying ht, MapKept.run_getObj_map hb, L.check W false hkey, f1, hj, f3, L.stays W hkey, MapKept.run_setObj_map _ hb, Result.andThen, setBlock], .inr ⟨j, e0.val, by rw [← f3]; exact es_at h2 f2, ?_⟩⟩
    refine ⟨_, _, Go.ChangeMaps.heap_setBlock_same hb _, ?_, by simp [h3], born_modify h4 h5 j _ (fun _ => rfl)⟩
    rw [Array.toList_modify, Go.ChangeMaps.modify_eq_set _ _ _ _ f2, List.map_set, h2]
/-- 'm[k] = append(m[k], ..)': the entry is found or made, and stored into behind the append. -/
theorem entry_tells {P : Program} {t k e : TypeId} {W : World} {m : Nat} {kv : List (Value × Value)} {z key : Value} {kl : Lit} (hm : MapIs W m kv) (L : Keyed P k) (ht : P.underlying t = some (.map k e)) (hz : (zeroValue e).run P W = .ok z W) (hk : KeysOk P k kv) (hkey : keyOf P k key = some kl) :
    ∃ (o : Obj) (v : Value) (st : Int) (kv1 : List (Value × Value)), (Instr.mapEntry t (.map (some m)) key).run P W = .ok (.tuple #[v, .int .i64 st]) (setBlock W m o) ∧ MapIs (setBlock W m o) m kv1 ∧
      (((∀ p ∈ kv, p.1 ≠ key) ∧ v = z ∧ ∀ (W2 : World) (val : Value), W2.heap[m]? = (setBlock W m o).heap[m]? → ∃ o2, (Instr.entryStore t (.map (some m)) (.int .i64 st) val).run P W2 = .ok () (setBlock W2 m o2) ∧ MapIs (setBlock W2 m o2) m (kv ++ [(key, val)])) ∨
       ∃ j, kv[j]? = some (key, v) ∧ ∀ (W2 : World) (val : Value), W2.heap[m]? = (setBlock W m o).heap[m]? → ∃ o2, (Instr.entryStore t (.map (some m)) (.int .i64 st) val).run P W2 = .ok () (setBlock W2 m o2) ∧ MapIs (setBlock W2 m o2) m (kv.set j (key, val))) := by
  obtain ⟨es, clock, hb, h2, h3, h4, h5⟩ := hm
  have store : ∀ (es' : Array MapEntry) (cl j : Nat) (e0 : MapEntry), (es'.toList.map (·.born)).Nodup → (∀ e ∈ es'.toList, e.born < cl) → es'.toList[j]? = some e0 → ∀ (W2 : World) (val : Value), W2.heap[m]? = some (.map es' cl) → ∃ o2, (Instr.entryStore t (.map (some m)) (.int .i64 (e0.born : Int)) val).run P W2 = .ok () (setBlock W2 m o2) ∧
      MapIs (setBlock W2 m o2) m ((es'.toList.map (fun e => (e.key, e.val))).set j (e0.key, val)) := by
    intro es' cl j e0 n1 n2 hj W2 val hw
    have hja : es'[j]? = some e0 := by simpa using hj
    have hjl : j < es'.size := (Array.getElem?_eq_some_iff.1 hja).1
    have hfi : es'.findIdx? (fun e => (e.born : Int) == (e0.born : Int)) = some j := by
      rw [Array.findIdx?_eq_some_iff_getElem]
      refine ⟨hjl, ?_, ?_⟩
      · have := (Array.getElem?_eq_some_iff.1 hja).2
        rw [this]; simp
      · intro i hi
        have hne : es'[i].born ≠ e0.born := fun e1 => by
          have a1 : (es'.toList.map (·.born))[i]? = some es'[i].born := by rw [List.getElem?_map]; simp [show i < es'.size by omega]
          have a2 : (es'.toList.map (·.born))[j]? = some e0.born := by rw [List.getElem?_map, hj]; rfl
          rw [e1] at a1
          exact nodup_at n1 hi a1 a2
        simp only [beq_iff_eq, Int.natCast_inj]
        exact hne
    refine ⟨.map (es'.modify j fun e => { e with val := val }) cl, ?_, ?_⟩
    · simp [Instr.entryStore, MapKept.run_getObj_map hw, hfi, MapKept.run_setObj_map _ hw, Result.andThen, setBlock, asInt, asIntOf]
    · refine ⟨_, _, Go.ChangeMaps.heap_setBlock_same hw _, ?_, by simp, born_modify n1 n2 j _ (fun _ => rfl)⟩
      rw [Array.toList_modify, Go.ChangeMaps.modify_eq_set _ _ _ _ hj, List.map_set]
  rcases L.find W hkey es.toList (es_keys h2 hk) with ⟨f1, f2⟩ | ⟨j, e0, f1, f2, f3⟩
  · have hp := born_push h4 h5 key z
    refine ⟨.map (es.push ⟨key, z, clock⟩) (clock + 1), z, (clock : Int), kv ++ [(key, z)], ?_, ⟨_, _, Go.ChangeMaps.heap_setBlock_same hb _, by rw [Array.toList_push, List.map_append, h2]; rfl, by simp [h3], hp⟩, .inl ⟨fun p hp => ?_, rfl, fun W2 val hw => ?_⟩⟩
    · simp [Instr.mapEntry, run_underlying ht, MapKept.run_getObj_map hb, L.check W false hkey, f1, hz, MapKept.run_setObj_map _ hb, Result.andThen, setBlock, goInt]
    · rw [← h2] at hp
      obtain ⟨e1, he1, rfl⟩ := List.mem_map.1 hp
      exact f2 e1 he1
    · rw [Go.ChangeMaps.heap_setBlock_same hb] at hw
      obtain ⟨o2, s1, s2⟩ := store (es.push ⟨key, z, clock⟩) (clock + 1) es.toList.length ⟨key, z, clock⟩ hp.1 hp.2 (by simp) W2 val hw
      refine ⟨o2, s1, ?_⟩
      have e1 : ((es.push ⟨key, z, clock⟩).toList.map (fun e => (e.key, e.val))).set es.toList.length (key, val) = kv ++ [(key, val)] := by
        rw [Array.toList_push, List.map_append, h2]
        have hl : es.toList.length = kv.length := by rw [← h2]; simp
        rw [hl, List.set_append_right _ _ (Nat.le_refl _)]
        simp
      rw [e1] at s2
      exact s2
  · have hj : es[j]? = some e0 := by simpa using f2
    have hm2 := born_modify h4 h5 j (fun e' => { e' with key := key }) (fun _ => rfl)
    have hset : (es.modify j fun e' => { e' with key := key }).toList = es.toList.set j { e0 with key := key } := by rw [Array.toList_modify, Go.ChangeMaps.modify_eq_set _ _ _ _ f2]
    have hkv : (es.modify j fun e' => { e' with key := key }).toList.map (fun e => (e.key, e.val)) = kv := by
      rw [hset, List.map_set, h2]
      have : kv[j]? = some (key, e0.val) := by rw [← f3]; exact es_at h2 f2
      exact List.set_getElem_self_of this
    refine ⟨.map (es.modify j fun e' => { e' with key := key }) clock, e0.val, (e0.born : Int), kv, ?_, ⟨_, _, Go.ChangeMaps.heap_setBlock_same hb _, hkv, by simp [h3], hm2⟩, .inr ⟨j, by rw [← f3]; exact es_at h2 f2, fun W2 val hw => ?_⟩⟩
    · simp [Instr.mapEntry, run_underlying ht, MapKept.run_getObj_map hb, L.check W false hkey, f1, hj, f3, L.stays W hkey, MapKept.run_setObj_map _ hb, Result.andThen, setBlock, goInt]
    · rw [Go.ChangeMaps.heap_setBlock_same hb] at hw
      obtain ⟨o2, s1, s2⟩ := store _ clock j { e0 with key := key } hm2.1 hm2.2 (by rw [hset, List.getElem?_set_self (List.getElem?_eq_some_iff.1 f2).1]) W2 val hw
      rw [hkv] at s2
      exact ⟨o2, s1, s2⟩
theorem setBlock_other {W : World} {m : Nat} {o : Obj} {i : Nat} (h : i ≠ m) : (setBlock W m o).heap[i]? = W.heap[i]? := by
  unfold setBlock
  simp only [Array.getElem?_setIfInBounds]
  rw [if_neg (Ne.symm h)]
theorem setBlock_size {W : World} {m : Nat} {o : Obj} : (setBlock W m o).heap.size = W.heap.size := by simp [setBlock]
/-- A look-up, at the operation. -/
theorem wpList_lookup_known {P : Program} {ops : Array Oper} {rest : List Oper} {o : Oper} {a : Act} {w : World} {Q : Exit → Act → World → Prop} (hg : o.guard = none) (m x : Operand) (t : TypeId) (ok : Bool) (hop : o.op = Op.lookup t m x ok)
    (mv key v : Value) (hm : a.eval m = mv) (hx : a.eval x = key) (hr : (Instr.lookup t mv key ok).run P w = .ok v w) (h : wpList P ops Q rest (a.put o.dst v) w) : wpList P ops Q (o :: rest) a w := by
  refine wpList_plain hg fun K' hK' => ?_
  unfold Oper.wp
  simp [execOp, hop, hm, hx, hr, Result.andThen]
  exact hK' _ _ h
/-- A store, at the operation. -/
theorem wpList_mapUpdate_known {P : Program} {ops : Array Oper} {rest : List Oper} {o : Oper} {a : Act} {w w2 : World} {Q : Exit → Act → World → Prop} (hg : o.guard = none) (m x v : Operand) (t : TypeId) (hop : o.op = Op.mapUpdate t m x v)
    (mv key val : Value) (hm : a.eval m = mv) (hx : a.eval x = key) (hv : a.eval v = val) (hr : (Instr.mapUpdate t mv key val).run P w = .ok () w2) (h : wpList P ops Q rest (a.put o.dst undef) w2) : wpList P ops Q (o :: rest) a w := by
  refine wpList_plain hg fun K' hK' => ?_
  unfold Oper.wp
  simp [execOp, hop, hm, hx, hv, hr, Result.andThen]
  exact hK' _ _ h
end Go.Proofs.YtphabkaiheplpaaGreatDoor
