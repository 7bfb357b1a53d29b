/- Several sides in memory; awake. -/
import Derived.Test.YtnkkbkceapcahaaDoorTake
import Derived.Test.YtnkkbkceapcahaaDoorAnswer
import Derived.Test.YtnkkbkceapcahaaDoorMeet
namespace Go.Proofs.YtnkkbkceapcahaaDoor
open Go.RowKit Go.Rt Go.Rw

abbrev Ent := Nat × TypeId × Sd
/-- The sides of a list lie in memory, each in a block of its own, all of them laid behind w. -/
structure Ss (w W : World) (L : List Ent) : Prop where
  blk : ∀ (i : Nat) (x : Ent), L[i]? = some x → Blk W x.1 x.2.1 (sdC x.2.2) ∧ w.heap.size ≤ x.1
  ne : ∀ (i j : Nat) (x y : Ent), L[i]? = some x → L[j]? = some y → i ≠ j → x.1 ≠ y.1
  st : St w W
theorem Ss.start {w : World} (h : Tabs w) : Ss w w [] := ⟨fun i x h => by simp at h, fun i j x y h => by simp at h, St.refl h⟩
theorem Ss.get {w W : World} {L : List Ent} (h : Ss w W L) (i : Nat) {B : Nat} {T : TypeId} {s : Sd} (hi : L[i]? = some (B, T, s)) : Blk W B T (sdC s) := (h.blk i _ hi).1
theorem Ss.below {w W W' : World} {L : List Ent} (h : Ss w W L) (b : Below W.heap.size W W') : Ss w W' L :=
  ⟨fun i x hx => ⟨(h.blk i x hx).1.below b (h.blk i x hx).1.lt, (h.blk i x hx).2⟩, h.ne, h.st.keep b⟩
theorem Ss.add {w W W' : World} {L : List Ent} (h : Ss w W L) {B : Nat} {T : TypeId} {s : Sd} (hb : Blk W' B T (sdC s)) (hB : W.heap.size ≤ B) (b : Below W.heap.size W W') : Ss w W' (L ++ [(B, T, s)]) := by
  have h' := h.below b
  have hsz := h.st.bel.size
  refine ⟨fun i x hx => ?_, fun i j x y hx hy hij => ?_, h'.st⟩
  · rcases Nat.lt_or_ge i L.length with q | q
    · rw [List.getElem?_append_left q] at hx
      exact h'.blk i x hx
    · rw [List.getElem?_append_right q] at hx
      cases hk : i - L.length with
      | zero => rw [hk] at hx; simp at hx; subst hx; exact ⟨hb, by simp; omega⟩
      | succ k => rw [hk] at hx; simp at hx
  · have key : ∀ (k : Nat) (z : Ent), (L ++ [(B, T, s)])[k]? = some z → (k < L.length ∧ L[k]? = some z ∧ z.1 < W.heap.size) ∨ (k = L.length ∧ z = (B, T, s)) := by
      intro k z hz
      rcases Nat.lt_or_ge k L.length with q | q
      · rw [List.getElem?_append_left q] at hz
        exact .inl ⟨q, hz, (h.blk k z hz).1.lt⟩
      · rw [List.getElem?_append_right q] at hz
        cases hk : k - L.length with
        | zero => rw [hk] at hz; simp at hz; exact .inr ⟨by omega, hz.symm⟩
        | succ m => rw [hk] at hz; simp at hz
    rcases key i x hx with ⟨_, a1, a2⟩ | ⟨a1, a2⟩ <;> rcases key j y hy with ⟨_, b1, b2⟩ | ⟨b1, b2⟩
    · exact h.ne i j x y a1 b1 hij
    · subst b2; simp only; omega
    · subst a2; simp only; omega
    · omega
theorem Ss.set {w W W' : World} {L : List Ent} (h : Ss w W L) (i : Nat) {B : Nat} {T : TypeId} {s s' : Sd} (hi : L[i]? = some (B, T, s)) (hb : Blk W' B T (sdC s')) (ho : Only [B] W W') : Ss w W' (L.set i (B, T, s')) := by
  have hlt : i < L.length := by
    rcases Nat.lt_or_ge i L.length with q | q
    · exact q
    · rw [List.getElem?_eq_none q] at hi; cases hi
  have hB := (h.blk i _ hi).2
  simp only at hB
  refine ⟨fun j x hx => ?_, fun j k x y hx hy hjk => ?_, ?_⟩
  · by_cases e : i = j
    · subst e
      rw [List.getElem?_set_self hlt] at hx
      cases hx
      exact ⟨hb, hB⟩
    · rw [List.getElem?_set_ne e] at hx
      obtain ⟨q1, q2⟩ := h.blk j x hx
      exact ⟨q1.only ho (by simp only [List.mem_singleton]; exact h.ne j i x _ hx hi (Ne.symm e)), q2⟩
  · have key : ∀ (m : Nat) (z : Ent), (L.set i (B, T, s'))[m]? = some z → ∃ z', L[m]? = some z' ∧ z'.1 = z.1 := by
      intro m z hz
      by_cases e : i = m
      · subst e
        rw [List.getElem?_set_self hlt] at hz
        cases hz
        exact ⟨_, hi, rfl⟩
      · rw [List.getElem?_set_ne e] at hz
        exact ⟨z, hz, rfl⟩
    obtain ⟨x', a1, a2⟩ := key j x hx
    obtain ⟨y', b1, b2⟩ := key k y hy
    rw [← a2, ← b2]
    exact h.ne j k x' y' a1 b1 hjk
  · refine ⟨?_, h.st.bel.trans ⟨ho.os, ho.tape, ho.output, ho.size, fun k hk => ho.block k (by have := h.st.bel.size; omega) (by simp only [List.mem_singleton]; omega)⟩⟩
    obtain ⟨n0, n1⟩ := Tabs.ne h.st.tabs (h.blk i _ hi).1
    exact h.st.tabs.only ho (by simp only [List.mem_singleton]; exact Ne.symm n0) (by simp only [List.mem_singleton]; exact Ne.symm n1)

/-- What is kept of a side, whatever it takes. -/
def Fine (s : Sd) : Prop := SdOk s ∧ s.state ≠ 0
theorem Fine.mk' {s s' : Sd} (h : Fine s) (h1 : s'.self = s.self) (h2 : s'.other.name.size ≤ 32 ∧ s'.other.gen ≤ 2147483647) (h3 : s'.want = s.want) (h4 : s'.cookie = s.cookie) (h5 : s'.chal = s.chal) (h6 : s'.their ≤ 18446744073709551615) (h7 : s'.state ≠ 0) : Fine s' :=
  ⟨⟨by rw [h1]; exact h.1.self, h2, by rw [h3]; exact h.1.want, by rw [h4]; exact h.1.cookie, by rw [h5]; exact h.1.chal, h6⟩, h7⟩
theorem valF8_le (b : ByteArray) : valF b 8 ≤ 18446744073709551615 := by
  have := valF_lt b 8
  have e : (256 : Nat) ^ 8 = 18446744073709551616 := by decide
  omega
theorem readHF_valid {b r : ByteArray} {p : Pr} (h : readHF b = some (p, r)) : nameF p.name = true ∧ p.gen ≤ 2147483647 := by
  unfold readHF at h
  split at h
  · cases h
  · split at h
    · cases h
    · rename_i q r' hq
      split at h
      · cases h
      · simp only [Option.some.injEq, Prod.mk.injEq] at h
        rw [← h.1]
        exact readPF_valid hq
theorem Fine.fail {s : Sd} (h : Fine s) (e : Nat) : Fine (failS s e).1 := h.mk' rfl h.1.other rfl rfl rfl h.1.their (by simp [failS])
theorem Fine.take {s : Sd} (h : Fine s) (b : ByteArray) : Fine (takeF s b).1 := by
  unfold takeF
  split
  · exact h
  · unfold moveF
    split
    · split
      · unfold ackF
        split
        · exact h.fail 6
        · split
          · exact h.fail 350
          · exact h.mk' rfl h.1.other rfl rfl rfl h.1.their (by simp)
      · unfold offerF
        split
        · exact h.fail 351
        · split
          · exact h.fail 6
          · split
            · exact h.fail 6
            · rename_i p r hp
              split
              · exact h.fail 6
              · split
                · exact h.fail 351
                · exact h.mk' rfl ⟨(nameF_size _ (readPF_valid hp).1).2, (readPF_valid hp).2⟩ rfl rfl rfl (valF8_le r) h.2
    · split
      · unfold replyF
        split
        · exact h.fail 6
        · simp only
          split
          · exact h.mk' rfl h.1.other rfl rfl rfl (valF8_le _) (by simp [failS])
          · exact h.mk' rfl h.1.other rfl rfl rfl (valF8_le _) (by simp)
      · unfold greetF
        split
        · exact h.fail 6
        · rename_i p r hp
          split
          · exact h.fail 351
          · exact h.mk' rfl ⟨(nameF_size _ (readHF_valid hp).1).2, (readHF_valid hp).2⟩ rfl rfl rfl h.1.their (by simp)
theorem Fine.answer {s : Sd} (h : Fine s) (how : Int) : Fine (answerF s how).1 := by
  unfold answerF
  split
  · exact h
  · split
    · exact h.mk' rfl h.1.other rfl rfl rfl h.1.their (by simp)
    · exact h.mk' rfl h.1.other rfl rfl rfl h.1.their (by simp)

section
variable {w W : World} {L : List Ent}
def Saw (w : World) (L : List Ent) (v : Value) (e : Ending) (W' : World) : Prop := e = .returned v ∧ Ss w W' L
theorem Ss.take46 (h : Ss w W L) (i : Nat) {B : Nat} {s : Sd} (hi : L[i]? = some (B, 46, s)) (hs : Fine s) (b : ByteArray) (hb : b.size ≤ 100000) :
    Calls Tryd.prog 14 #[.pointer (some ⟨B, 0, none⟩), .string b] W (Saw w (L.set i (B, 46, (takeF s b).1)) (.tuple #[.string (takeF s b).2.1, .int .i64 (takeF s b).2.2])) :=
  (take_any s hs.1 hs.2 b hb B W (h.get i hi) h.st.tabs).mono fun _ _ ⟨e, f1, f2⟩ => ⟨e, h.set i hi f1 f2⟩
theorem Ss.take83 (h : Ss w W L) (i : Nat) {B : Nat} {s : Sd} (hi : L[i]? = some (B, 83, s)) (hs : Fine s) (b : ByteArray) (hb : b.size ≤ 100000) :
    Calls Tryd.prog 29 #[.pointer (some ⟨B, 0, none⟩), .string b] W (Saw w (L.set i (B, 83, (takeF s b).1)) (.tuple #[.string (takeF s b).2.1, .int .i64 (takeF s b).2.2])) :=
  (rtake_any s hs.1 b hb B W (h.get i hi) h.st.tabs).mono fun _ _ ⟨e, f1, f2⟩ => ⟨e, h.set i hi f1 f2⟩
theorem Ss.answer46 (h : Ss w W L) (i : Nat) {B : Nat} {s : Sd} (hi : L[i]? = some (B, 46, s)) (hs : Fine s) (how : Int) :
    Calls Tryd.prog 15 #[.pointer (some ⟨B, 0, none⟩), .int .i64 how] W (Saw w (L.set i (B, 46, (answerF s how).1)) (.tuple #[.string (answerF s how).2.1, .int .i64 (answerF s how).2.2])) :=
  (answer_any s hs.1 hs.2 how B W (h.get i hi)).mono fun _ _ ⟨e, f1, f2⟩ => ⟨e, h.set i hi f1 f2⟩
theorem Ss.answer83 (h : Ss w W L) (i : Nat) {B : Nat} {s : Sd} (hi : L[i]? = some (B, 83, s)) (hs : Fine s) (how : Int) :
    Calls Tryd.prog 28 #[.pointer (some ⟨B, 0, none⟩), .int .i64 how] W (Saw w (L.set i (B, 83, (answerF s how).1)) (.tuple #[.string (answerF s how).2.1, .int .i64 (answerF s how).2.2])) :=
  (ranswer_any s hs.1 how B W (h.get i hi)).mono fun _ _ ⟨e, f1, f2⟩ => ⟨e, h.set i hi f1 f2⟩
theorem Ss.state46 (h : Ss w W L) (i : Nat) {B : Nat} {s : Sd} (hi : L[i]? = some (B, 46, s)) :
    Calls Tryd.prog 16 #[.pointer (some ⟨B, 0, none⟩)] W fun e W' => e = .returned (.int .i64 s.state) ∧ W = W' := state_any s B W (h.get i hi)
theorem Ss.peer46 (h : Ss w W L) (i : Nat) {B : Nat} {s : Sd} (hi : L[i]? = some (B, 46, s)) :
    Calls Tryd.prog 17 #[.pointer (some ⟨B, 0, none⟩)] W (Saw w L (.agg #[.string s.other.name, .int .i64 s.other.gen])) :=
  (peerP_any s B W (h.get i hi)).mono fun _ _ ⟨e, b⟩ => ⟨e, h.below b⟩
def SawNew (w : World) (L : List Ent) (T : TypeId) (s : Sd) (f : Nat → Value) (e : Ending) (W' : World) : Prop := ∃ B, e = .returned (f B) ∧ Ss w W' (L ++ [(B, T, s)])
theorem Ss.dial46 (h : Ss w W L) (n : ByteArray) (g : Nat) (want cookie : ByteArray) (c : Nat) (hd : dialB n g want = true) :
    Calls Tryd.prog 12 #[.agg #[.string n, .int .i64 g], .string want, .string cookie, .int .u64 c] W (SawNew w L 46 (dialS ⟨n, g⟩ want cookie c) fun B => .tuple #[.pointer (some ⟨B, 0, none⟩), .string (helloF ⟨n, g⟩ want), .int .i64 0]) :=
  (dial_yes n g want cookie c hd W).mono fun _ _ ⟨B, e, f1, f2, f3⟩ => ⟨B, e, h.add f2 f1 f3⟩
theorem Ss.dial83 (h : Ss w W L) (n : ByteArray) (g : Nat) (want cookie : ByteArray) (c : Nat) (hd : dialB n g want = true) :
    Calls Tryd.prog 24 #[.agg #[.string n, .int .i64 g], .string want, .string cookie, .int .u64 c] W (SawNew w L 83 (dialS ⟨n, g⟩ want cookie c) fun B => .tuple #[.pointer (some ⟨B, 0, none⟩), .string (helloF ⟨n, g⟩ want), .int .i64 0]) :=
  (rdial_yes n g want cookie c hd W).mono fun _ _ ⟨B, e, f1, f2, f3⟩ => ⟨B, e, h.add f2 f1 f3⟩
theorem Ss.listen46 (h : Ss w W L) (n : ByteArray) (g : Nat) (cookie : ByteArray) (c : Nat) (hd : (nameF n && genI g) = true) :
    Calls Tryd.prog 13 #[.agg #[.string n, .int .i64 g], .string cookie, .int .u64 c] W (SawNew w L 46 (listenS ⟨n, g⟩ cookie c) fun B => .tuple #[.pointer (some ⟨B, 0, none⟩), .int .i64 0]) :=
  (listen_yes n g cookie c hd W).mono fun _ _ ⟨B, e, f1, f2, f3⟩ => ⟨B, e, h.add f2 f1 f3⟩
theorem Ss.listen83 (h : Ss w W L) (n : ByteArray) (g : Nat) (cookie : ByteArray) (c : Nat) (hd : (nameF n && genI g) = true) :
    Calls Tryd.prog 25 #[.agg #[.string n, .int .i64 g], .string cookie, .int .u64 c] W (SawNew w L 83 (listenS ⟨n, g⟩ cookie c) fun B => .tuple #[.pointer (some ⟨B, 0, none⟩), .int .i64 0]) :=
  (rlisten_yes n g cookie c hd W).mono fun _ _ ⟨B, e, f1, f2, f3⟩ => ⟨B, e, h.add f2 f1 f3⟩
end
end Go.Proofs.YtnkkbkceapcahaaDoor
