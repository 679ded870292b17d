/-
  What is proved: the statement whose theorem stands at the end of this text; the texts before it bear its parts.
-/
import Derived.Test.YtpmchgndnhgncaaGreatKbO
import Derived.ChangeMaps5
import Derived.WalkKit
import Derived.JoinedCond
namespace Go.Proofs.YtpmchgndnhgncaaGreat.Pv
open Go
def pu (x : Cnt) : List Cnt → Bool → List Cnt
  | [], laid => if laid = true then [] else [x]
  | y :: l, laid => (if lexC y.1 x.1 > 0 ∧ laid = false then [x] else []) ++ (if lexC y.1 x.1 = 0 then (y.1, y.2 + x.2) else y) :: pu x l (laid || decide (lexC y.1 x.1 > 0) || decide (lexC y.1 x.1 = 0))
def put18 (l : List Cnt) (x : Cnt) : List Cnt := pu x l false
theorem cRow_snoc (l : List Cnt) (x : Cnt) : cRow (l ++ [x]) = cRow l ++ [[iSl x.1, eI .i64 x.2]] := by simp [cRow]
theorem put18_ct (l : List Cnt) (x : Cnt) (hl : CLim l) (hx : x.1.length ≤ 1000000) (hn : ∀ y, y ∈ l → 0 ≤ y.2 ∧ y.2 ≤ 1000000000) (hx2 : 0 ≤ x.2 ∧ x.2 ≤ 1000000000) :
    Ct P 118 [.c (cSl l), .ag [iSl x.1, eI .i64 x.2]] [.c (cSl (put18 l x))] := by
  have hll := hl.len
  refine Ct.go T_ok T_mix (N := 57) Tryz.func118 rfl rfl rfl rfl ?_
  refine nilC (r := 60) (t := 5) (sz := 2) rfl rfl ?_
  refine loopJ T_ok T_mix (G := Nat × List Cnt × Bool) (fun (i, out, b) => i ≤ l.length ∧ out.length ≤ i + (if b = true then 1 else 0) ∧ out ++ pu x (l.drop i) b = put18 l x) (fun (i, out, b) => [(0, .c (cSl l)), (3, .c (.ad 3 0)), (5, .c (.ow 60 2 out.length)), (6, .c (.sc (.bool b))), (7, .c (nI .i64 i))])
    (fun (_, out, _) => [(3, .var [iSl x.1, eI .i64 x.2]), (60, .row 2 (cRow out))]) (fun (i, _, _) => l.length - i)
    (0, [], false) ⟨by omega, by simp, rfl⟩ ⟨rfl, rfl, rfl, rfl, rfl, trivial⟩ ⟨rfl, rfl, trivial⟩ (fun (g : List Cnt × Bool) => g.1.length ≤ l.length + 1 ∧ g.1 ++ pu x [] g.2 = put18 l x) (fun (out, b) => [(3, .c (.ad 3 0)), (5, .c (.ow 60 2 out.length)), (6, .c (.sc (.bool b)))]) (fun (out, _) => [(3, .var [iSl x.1, eI .i64 x.2]), (60, .row 2 (cRow out))]) (fun (i, out, b) hi => ?_) (fun (out, b) ho => ?_)
  · obtain ⟨i1, i2, i3⟩ := hi
    have hout : out.length ≤ i + 1 := by split at i2 <;> omega
    refine And.intro (by rw [cRow_len]; omega) ?_
    rw [cRow_len]
    refine dcase (fun h1 => ?_) (fun h1 => ?_)
    · have hi' : i < l.length := by omega
      have hget := cRow_get (l := l) (i := (i : Int)) (n := i) rfl hi'
      have hgl := hl.at' hi'
      have hnn := hn _ (List.getElem_mem hi')
      rw [List.drop_eq_getElem_cons hi', pu] at i3
      generalize l[i] = y at *
      refine And.intro (by omega) (X1 _ hget ?_)
      refine X1 _ (rcompare_ct y.1 x.1 hgl hx) ?_
      refine And.intro rfl ?_
      refine dcase (fun h2 => ?_) (fun h2 => ?_)
      · have h0 : ¬ lexC y.1 x.1 = 0 := by omega
        refine bcase (fun h3 => ?_) (fun h3 => ?_)
        · have hb : b = false := by simpa using h3
          subst hb
          rw [if_pos ⟨h2, rfl⟩, if_neg h0, decide_eq_true h2] at i3
          have e1 : (out ++ [x]).length = out.length + 1 := by simp
          refine ⟨by rw [cRow_len], by rw [cRow_len]; show (out.length + 1 + 768) * 32 ≤ _; omega, by rw [cRow_len]; show out.length + 1 ≤ _; omega, cRow_closed, one_closed rfl, ?_⟩
          refine And.intro (by omega) (X1 _ hget ?_)
          refine ecase (fun h => absurd h h0) (fun _ => ?_)
          have e2 : cRow out ++ [[iSl x.1, eI .i64 x.2]] = cRow (out ++ [x]) := (cRow_snoc out x).symm
          refine ⟨?_, ?_, ?_, ?_, one_closed rfl, ?_⟩
          · rfl
          · show ((cRow out ++ [[iSl x.1, eI .i64 x.2]]).length + 1 + 768) * 32 ≤ _
            rw [e2, cRow_len, e1]; omega
          · show (cRow out ++ [[iSl x.1, eI .i64 x.2]]).length + 1 ≤ _
            rw [e2, cRow_len, e1]; omega
          · show closedLL (cRow out ++ [[iSl x.1, eI .i64 x.2]])
            rw [e2]; exact cRow_closed
          · refine X1 ((i + 1 : Nat) : Int) (wI1 (by omega)) ?_
            refine ⟨(i + 1, out ++ [x] ++ [y], true), ⟨by omega, by simp at i2 ⊢; omega, ?_⟩, by show l.length - (i + 1) < l.length - i; omega, ⟨rfl, rfl, owE ?_, rfl, rfl, trivial⟩, ⟨rfl, rowE ?_, trivial⟩⟩
            · rw [← i3]; simp
            · simp [cRow_len]
            · rw [cRow_snoc, cRow_snoc]; rfl
        · have hb : b = true := by simpa using h3
          subst hb
          rw [if_neg (by simp), if_neg h0] at i3
          refine And.intro (by omega) (X1 _ hget ?_)
          refine ecase (fun h => absurd h h0) (fun _ => ?_)
          refine ⟨by rw [cRow_len], by rw [cRow_len]; show (out.length + 1 + 768) * 32 ≤ _; omega, by rw [cRow_len]; show out.length + 1 ≤ _; omega, cRow_closed, one_closed rfl, ?_⟩
          refine X1 ((i + 1 : Nat) : Int) (wI1 (by omega)) ?_
          refine ⟨(i + 1, out ++ [y], true), ⟨by omega, by simp at i2 ⊢; omega, ?_⟩, by show l.length - (i + 1) < l.length - i; omega, ⟨rfl, rfl, owE ?_, rfl, rfl, trivial⟩, ⟨rfl, rowE ?_, trivial⟩⟩
          · rw [← i3]; simp
          · simp [cRow_len]
          · rw [cRow_snoc]; rfl
      · rw [if_neg (fun h => h2 h.1), decide_eq_false h2] at i3
        refine And.intro (by omega) (X1 _ hget ?_)
        refine ecase (fun h3 => ?_) (fun h3 => ?_)
        · rw [if_pos h3, decide_eq_true h3] at i3
          refine X1 (y.2 + x.2) (wI rfl (by omega) (by omega)) ?_
          refine ⟨by rw [cRow_len], by rw [cRow_len]; show (out.length + 1 + 768) * 32 ≤ _; omega, by rw [cRow_len]; show out.length + 1 ≤ _; omega, cRow_closed, one_closed rfl, ?_⟩
          refine X1 ((i + 1 : Nat) : Int) (wI1 (by omega)) ?_
          refine ⟨(i + 1, out ++ [(y.1, y.2 + x.2)], true), ⟨by omega, by rw [List.length_append]; show out.length + 1 ≤ i + 1 + 1; omega, ?_⟩, by show l.length - (i + 1) < l.length - i; omega, ⟨rfl, rfl, owE ?_, rfl, rfl, trivial⟩, ⟨rfl, rowE ?_, trivial⟩⟩
          · rw [← i3]; simp
          · simp [cRow_len]
          · rw [cRow_snoc]; rfl
        · rw [if_neg h3, decide_eq_false h3] at i3
          refine ⟨by rw [cRow_len], by rw [cRow_len]; show (out.length + 1 + 768) * 32 ≤ _; omega, by rw [cRow_len]; show out.length + 1 ≤ _; omega, cRow_closed, one_closed rfl, ?_⟩
          refine X1 ((i + 1 : Nat) : Int) (wI1 (by omega)) ?_
          refine ⟨(i + 1, out ++ [y], b), ⟨by omega, by rw [List.length_append]; show out.length + 1 ≤ i + 1 + _; omega, ?_⟩, by show l.length - (i + 1) < l.length - i; omega, ⟨rfl, rfl, owE ?_, rfl, rfl, trivial⟩, ⟨rfl, rowE ?_, trivial⟩⟩
          · rw [← i3]; simp
          · simp [cRow_len]
          · rw [cRow_snoc]; rfl
    · have e : i = l.length := by omega
      subst e
      rw [List.drop_length] at i3
      exact ⟨(out, b), ⟨hout, i3⟩, ⟨rfl, rfl, rfl, trivial⟩, ⟨rfl, rfl, trivial⟩⟩
  · obtain ⟨o1, o2⟩ := ho
    have o1' : out.length ≤ l.length + 1 := o1
    have o2' : out ++ pu x [] b = put18 l x := o2
    rw [← o2']
    refine bcase (fun h3 => ?_) (fun h3 => ?_)
    · have hb : b = false := by simpa using h3
      subst hb
      rw [show pu x [] false = [x] from rfl, show cSl (out ++ [x]) = .sl 2 (cRow out ++ [[iSl x.1, eI .i64 x.2]]) from congrArg _ (cRow_snoc out x)]
      refine ⟨by rw [cRow_len], by rw [cRow_len]; show (out.length + 1 + 768) * 32 ≤ _; omega, by rw [cRow_len]; show out.length + 1 ≤ _; omega, cRow_closed, one_closed rfl, ?_⟩
      exact ⟨trivial, r1 rfl, trivial⟩
    · have hb : b = true := by simpa using h3
      subst hb
      rw [show pu x [] true = [] from rfl, List.append_nil]
      exact ⟨trivial, r1 rfl, trivial⟩
def each16 (L : List (List Int)) (n : Nat) : List (List Int) := (L.map fun p => grams16 p n).flatten
theorem each16_snoc (L : List (List Int)) (p : List Int) (n : Nat) : each16 (L ++ [p]) n = each16 L n ++ grams16 p n := by simp [each16]
theorem each16_len {k n : Nat} : ∀ (L : List (List Int)), (∀ p, p ∈ L → p.length ≤ k) → (each16 L n).length ≤ L.length * k
  | [], _ => by simp [each16]
  | p :: L, h => by
    have ih := each16_len (n := n) L fun x hx => h x (List.mem_cons_of_mem _ hx)
    have h1 := h p (by simp)
    have h2 := grS_len p n p.length
    have e : each16 (p :: L) n = grams16 p n ++ each16 L n := by simp [each16]
    rw [e, List.length_append, List.length_cons, Nat.add_mul, Nat.one_mul]
    unfold grams16
    omega
theorem each16_ct (L : List (List Int)) (n : Nat) (h1 : 1 ≤ n) (hn : n ≤ 1000000) (hL : L.length ≤ 600) (hp : ∀ p, p ∈ L → p.length ≤ 600) : Ct P 117 [.c (iiSl L), .c (nI .i64 n)] [.c (iiSl (each16 L n))] := by
  have hbd : ∀ i, (each16 (L.take i) n).length ≤ 360000 := fun i => by
    have h1 := each16_len (n := n) (k := 600) (L.take i) fun p h => hp p (List.mem_of_mem_take h)
    have h2 : (L.take i).length ≤ 600 := by rw [List.length_take]; omega
    have h3 : (L.take i).length * 600 ≤ 600 * 600 := Nat.mul_le_mul_right _ h2
    omega
  refine Ct.go T_ok T_mix (N := 24) Tryz.func117 rfl rfl rfl rfl ?_
  refine nilS (t := 5) (sz := 1) rfl ?_
  refine loopJI (fun i : Nat => i ≤ L.length) (fun i => [(0, .c (iiSl L)), (1, .c (nI .i64 n)), (5, .c (iiSl (each16 (L.take i) n))), (6, .c (nI .i64 i))]) (fun _ => []) (fun i => L.length - i)
    0 (by omega) ⟨rfl, rfl, rfl, rfl, trivial⟩ trivial (fun _ : Unit => True) (fun _ => [(5, .c (iiSl (each16 L n)))]) (fun _ => []) (fun i hi => ?_) (fun _ _ => ?_)
  · refine seqW ?_
    refine seqI T_ok T_mix ?_
    refine And.intro (by rw [iiRow_len]; omega) ?_
    rw [iiRow_len]
    refine condI (b := decide ((i : Int) < (L.length : Int))) rfl (fun e => ?_) (fun e => ?_)
    · have hi' : i < L.length := by have := of_decide_eq_true e; omega
      have hget := iiRow_get (L := L) (i := (i : Int)) (n := i) rfl hi'
      have hs : L.take (i + 1) = L.take i ++ [L[i]] := List.take_succ_eq_append_getElem hi'
      have hsn : each16 (L.take (i + 1)) n = each16 (L.take i) n ++ grams16 L[i] n := by rw [hs, each16_snoc]
      have hpl := hp _ (List.getElem_mem hi')
      have hb1 := hbd i
      have hb2 := hbd (i + 1)
      rw [hsn, List.length_append] at hb2
      generalize L[i] = p at *
      generalize each16 (L.take i) n = E0 at *
      refine skipI ?_
      refine seqW ?_
      refine blockI ?_
      refine codeI T_ok T_mix ?_
      refine ⟨rfl, by rw [iiRow_len]; show (0 + E0.length + 768) * 24 ≤ _; omega, by rw [iiRow_len]; show 0 + E0.length ≤ _; omega, nil_closed, iiRow_closed, ?_⟩
      refine And.intro (by omega) (X1 _ hget ?_)
      refine X1 _ (grams16_ct p n h1 hn (by omega)) ?_
      refine ⟨rfl, by rw [iiRow_len]; show ((iiRow E0).length + (grams16 p n).length + 768) * 24 ≤ _; rw [iiRow_len]; omega, by rw [iiRow_len]; show (iiRow E0).length + (grams16 p n).length ≤ _; rw [iiRow_len]; omega, iiRow_closed, iiRow_closed, ?_⟩
      refine And.intro rfl ?_
      refine frzI [13] ?_
      refine codeI T_ok T_mix ?_
      refine X1 ((i + 1 : Nat) : Int) (wI1 (by omega)) ?_
      refine ⟨i + 1, by omega, by omega, ⟨rfl, rfl, ?_, rfl, trivial⟩, trivial⟩
      have e2 : iiRow (E0 ++ grams16 p n) = iiRow E0 ++ iiRow (grams16 p n) := by simp [iiRow]
      rw [hsn, show iiSl (E0 ++ grams16 p n) = .sl 1 (iiRow E0 ++ iiRow (grams16 p n)) from congrArg _ e2]
      rfl
    · have e1 : i = L.length := by have := of_decide_eq_false e; omega
      subst e1
      rw [List.take_length]
      exact codeI T_ok T_mix ⟨(), trivial, ⟨rfl, trivial⟩, trivial⟩
  · exact codeI T_ok T_mix ⟨trivial, r1 rfl, trivial⟩
theorem pu_true {x : Cnt} : ∀ (l : List Cnt), (∀ z, z ∈ l → lexC x.1 z.1 < 0) → pu x l true = l
  | [], _ => rfl
  | y :: l, h => by
    have h1 := h y (by simp)
    have h2 := lexC_neg x.1 y.1
    rw [pu, if_neg (by simp), if_neg (by omega), Bool.true_or, Bool.true_or, pu_true l fun z hz => h z (List.mem_cons_of_mem _ hz)]
    rfl
theorem pu_g {x : Cnt} : ∀ (l : List Cnt) (b : Bool), ∀ y, y ∈ pu x l b → y.1 = x.1 ∨ ∃ z, z ∈ l ∧ z.1 = y.1
  | [], b, y, h => by
    unfold pu at h
    split at h
    · simp at h
    · simp at h; subst h; exact .inl rfl
  | z :: l, b, y, h => by
    rw [pu] at h
    rcases List.mem_append.1 h with h | h
    · split at h
      · simp at h; subst h; exact .inl rfl
      · simp at h
    · rcases List.mem_cons.1 h with h | h
      · right
        refine ⟨z, by simp, ?_⟩
        rw [h]; split <;> rfl
      · rcases pu_g l _ y h with h | ⟨w, h1, h2⟩
        · exact .inl h
        · exact .inr ⟨w, List.mem_cons_of_mem _ h1, h2⟩
theorem pu_n {x : Cnt} {c : Int} (hx : 1 ≤ x.2 ∧ x.2 ≤ 1) (hc : 0 ≤ c) : ∀ (l : List Cnt) (b : Bool), (∀ z, z ∈ l → 1 ≤ z.2 ∧ z.2 ≤ c) → ∀ y, y ∈ pu x l b → 1 ≤ y.2 ∧ y.2 ≤ c + 1
  | [], b, _, y, h => by
    unfold pu at h
    split at h
    · simp at h
    · simp at h; subst h; omega
  | z :: l, b, hl, y, h => by
    rw [pu] at h
    have hz := hl z (by simp)
    rcases List.mem_append.1 h with h | h
    · split at h
      · simp at h; subst h; omega
      · simp at h
    · rcases List.mem_cons.1 h with h | h
      · rw [h]; split
        · show 1 ≤ z.2 + x.2 ∧ z.2 + x.2 ≤ c + 1; omega
        · omega
      · exact pu_n hx hc l _ (fun w hw => hl w (List.mem_cons_of_mem _ hw)) y h
theorem pu_len {x : Cnt} : ∀ (l : List Cnt) (b : Bool), (pu x l b).length ≤ l.length + (if b = true then 0 else 1)
  | [], b => by unfold pu; split <;> simp
  | z :: l, b => by
    rw [pu, List.length_append, List.length_cons, List.length_cons]
    have ih := pu_len (x := x) l (b || decide (lexC z.1 x.1 > 0) || decide (lexC z.1 x.1 = 0))
    by_cases hb : b = true
    · subst hb
      simp at ih ⊢
      omega
    · have hb' : b = false := by simpa using hb
      subst hb'
      by_cases hg : lexC z.1 x.1 > 0
      · simp [hg] at ih ⊢
        omega
      · simp [hg] at ih ⊢
        split at ih <;> omega
theorem pu_rises {x : Cnt} : ∀ (l : List Cnt), Rises l → Rises (pu x l false)
  | [], _ => by simp [pu, Rises]
  | y :: l, hr => by
    obtain ⟨hy, hr'⟩ := List.pairwise_cons.1 hr
    have hneg := lexC_neg x.1 y.1
    rw [pu]
    by_cases hg : lexC y.1 x.1 > 0
    · have hall : ∀ z, z ∈ l → lexC x.1 z.1 < 0 := fun z hz => lexC_trans (by omega) (hy z hz)
      rw [if_pos ⟨hg, rfl⟩, if_neg (by omega), decide_eq_true hg, Bool.false_or, Bool.true_or, pu_true l hall]
      refine List.pairwise_cons.2 ⟨fun z hz => ?_, hr⟩
      rcases List.mem_cons.1 hz with rfl | hz
      · omega
      · exact hall z hz
    · rw [if_neg (fun h => hg h.1), decide_eq_false hg, List.nil_append]
      by_cases h0 : lexC y.1 x.1 = 0
      · have e := lexC_0 h0
        have hall : ∀ z, z ∈ l → lexC x.1 z.1 < 0 := fun z hz => by rw [← e]; exact hy z hz
        rw [if_pos h0, decide_eq_true h0, Bool.or_true, pu_true l hall]
        exact List.pairwise_cons.2 ⟨fun z hz => hy z hz, hr'⟩
      · rw [if_neg h0, decide_eq_false h0, Bool.or_false, Bool.or_false]
        refine List.pairwise_cons.2 ⟨fun z hz => ?_, pu_rises l hr'⟩
        rcases pu_g l false z hz with h | ⟨w, h1, h2⟩
        · rw [h]; omega
        · rw [← h2]; exact hy w h1
def putG (G : List (List Int)) : List Cnt := G.foldl (fun l g => put18 l (g, 1)) []
theorem putG_snoc (G : List (List Int)) (g : List Int) : putG (G ++ [g]) = put18 (putG G) (g, 1) := by simp [putG, List.foldl_append]
structure GOk (G : List (List Int)) (l : List Cnt) : Prop where
  len : l.length ≤ G.length
  g : ∀ y, y ∈ l → y.1 ∈ G
  n : ∀ y, y ∈ l → 1 ≤ y.2 ∧ y.2 ≤ (G.length : Int)
  rises : Rises l
theorem putG_ok : ∀ (k : Nat) (G : List (List Int)), G.length = k → GOk G (putG G)
  | 0, G, h => by
    have : G = [] := List.length_eq_zero_iff.1 h
    subst this
    exact ⟨by simp [putG], fun y h => by simp [putG] at h, fun y h => by simp [putG] at h, by simp [putG, Rises]⟩
  | k + 1, G, h => by
    obtain ⟨G', g, rfl⟩ : ∃ G' g, G = G' ++ [g] := ⟨G.dropLast, G.getLast (by intro e; subst e; simp at h), (List.dropLast_concat_getLast _).symm⟩
    have hk : G'.length = k := by simpa using h
    obtain ⟨a1, a2, a3, a4⟩ := putG_ok k G' hk
    rw [putG_snoc]
    refine ⟨?_, fun y hy => ?_, fun y hy => ?_, pu_rises _ a4⟩
    · have := pu_len (x := (g, 1)) (putG G') false
      unfold put18
      simp at this ⊢; omega
    · rcases pu_g _ _ y hy with e | ⟨z, h1, h2⟩
      · rw [e]; simp
      · rw [← h2]; exact List.mem_append_left _ (a2 z h1)
    · have := pu_n (x := (g, 1)) (c := (G'.length : Int)) ⟨by show (1 : Int) ≤ 1; omega, by show (1 : Int) ≤ 1; omega⟩ (by omega) (putG G') false a3 y hy
      rw [List.length_append]
      show 1 ≤ y.2 ∧ y.2 ≤ ((G'.length + 1 : Nat) : Int)
      omega
theorem count22_ct (L : List (List Int)) (n : Nat) (h1 : 1 ≤ n) (hn : n ≤ 1000000) (hL : L.length ≤ 600) (hp : ∀ p, p ∈ L → p.length ≤ 600) : Ct P 74 [.c (iiSl L), .c (nI .i64 n)] [.c (cSl (putG (each16 L n)))] := by
  have hE := each16_ct L n h1 hn hL hp
  have hlen : (each16 L n).length ≤ 360000 := by
    have h2 := each16_len (n := n) (k := 600) L hp
    have h3 : L.length * 600 ≤ 600 * 600 := Nat.mul_le_mul_right _ hL
    omega
  have hg : ∀ g, g ∈ each16 L n → g.length ≤ 1000000 := fun g h => by
    unfold each16 at h
    obtain ⟨l, hl, hgl⟩ := List.mem_flatten.1 h
    obtain ⟨p, hpm, rfl⟩ := List.mem_map.1 hl
    have hpl := hp p hpm
    have key : ∀ i, g ∈ grS p n i → g.length ≤ 1000000 := by
      intro i
      induction i with
      | zero => intro h; simp [grS] at h
      | succ i ih =>
        intro h
        unfold grS at h
        split at h
        · rcases List.mem_append.1 h with h | h
          · exact ih h
          · simp at h; subst h; rw [List.length_take]; omega
        · exact ih h
    exact key _ hgl
  generalize each16 L n = G at *
  refine Ct.go T_ok T_mix (N := 25) Tryz.func74 rfl rfl rfl rfl ?_
  refine X1 _ hE ?_
  refine nilS (t := 5) (sz := 2) rfl ?_
  refine loopJ T_ok T_mix (fun i : Nat => i ≤ G.length) (fun i => [(6, .c (iiSl G)), (5, .c (cSl (putG (G.take i)))), (7, .c (nI .i64 i))]) (fun _ => []) (fun i => G.length - i)
    0 (by omega) ⟨rfl, rfl, rfl, trivial⟩ trivial (fun _ : Unit => True) (fun _ => [(5, .c (cSl (putG G)))]) (fun _ => []) (fun i hi => ?_) (fun _ _ => ?_)
  · refine And.intro (by rw [iiRow_len]; omega) ?_
    rw [iiRow_len]
    refine dcase (fun h2 => ?_) (fun h2 => ?_)
    · have hi' : i < G.length := by omega
      have hget := iiRow_get (L := G) (i := (i : Int)) (n := i) rfl hi'
      have hs : putG (G.take (i + 1)) = put18 (putG (G.take i)) (G[i], 1) := by rw [List.take_succ_eq_append_getElem hi', putG_snoc]
      obtain ⟨a1, a2, a3, a4⟩ := putG_ok _ (G.take i) rfl
      have hgl := hg _ (List.getElem_mem hi')
      have hti : (G.take i).length ≤ 360000 := by rw [List.length_take]; omega
      generalize G[i] = g at *
      refine And.intro (by omega) (X1 _ hget ?_)
      refine X1 _ (put18_ct (putG (G.take i)) (g, 1) ⟨by omega, fun y hy => hg _ (List.mem_of_mem_take (a2 y hy))⟩ hgl (fun y hy => by have := a3 y hy; omega) ⟨by show (0 : Int) ≤ 1; omega, by show (1 : Int) ≤ _; omega⟩) ?_
      refine X1 ((i + 1 : Nat) : Int) (wI1 (by omega)) ?_
      exact ⟨i + 1, by omega, by omega, ⟨rfl, by rw [hs]; rfl, rfl, trivial⟩, trivial⟩
    · have e : i = G.length := by omega
      subst e
      rw [List.take_length]
      exact ⟨(), trivial, ⟨rfl, trivial⟩, trivial⟩
  · exact ⟨trivial, r1 rfl, trivial⟩
def orders22 (L : List (List Int)) (m : Nat) : List (List Cnt) := (List.range m).map fun k => putG (each16 L (k + 1))
theorem orders22_succ (L : List (List Int)) (m : Nat) : orders22 L (m + 1) = orders22 L m ++ [putG (each16 L (m + 1))] := by simp [orders22, List.range_succ]
theorem orders22_len (L : List (List Int)) (m : Nat) : (orders22 L m).length = m := by simp [orders22]
theorem orders22_ct (L : List (List Int)) (m : Nat) (hm : m ≤ 1000) (hL : L.length ≤ 600) (hp : ∀ p, p ∈ L → p.length ≤ 600) : Ct P 34 [.c (iiSl L), .c (nI .i64 m)] [.c (ccSl (orders22 L m))] := by
  refine Ct.go T_ok T_mix (N := 19) Tryz.func34 rfl rfl rfl rfl ?_
  refine nilC (r := 34) (t := 5) (sz := 1) rfl rfl ?_
  refine loopJ T_ok T_mix (fun i : Nat => i ≤ m) (fun i => [(0, .c (iiSl L)), (1, .c (nI .i64 m)), (5, .c (.ow 34 1 i)), (6, .c (eI .i64 ((i : Int) + 1)))]) (fun i => [(34, .row 1 (ccRow (orders22 L i)))]) (fun i => m - i)
    0 (by omega) ⟨rfl, rfl, rfl, rfl, trivial⟩ ⟨rfl, trivial⟩ (fun _ : Unit => True) (fun _ => [(5, .c (.ow 34 1 m))]) (fun _ => [(34, .row 1 (ccRow (orders22 L m)))]) (fun i hi => ?_) (fun _ _ => ?_)
  · refine dcase (fun h1 => ?_) (fun h1 => ?_)
    · have h2 : (i : Int) + 1 ≤ (m : Int) := h1
      have hc := count22_ct L (i + 1) (by omega) (by omega) hL hp
      have hcl : closedLL (ccRow (orders22 L i)) := fun el h => by
        obtain ⟨x, _, rfl⟩ := List.mem_map.1 h
        rfl
      have hsn : ccRow (orders22 L (i + 1)) = ccRow (orders22 L i) ++ [[cSl (putG (each16 L (i + 1)))]] := by rw [orders22_succ]; simp [ccRow]
      refine X1 _ hc ?_
      refine ⟨by rw [ccRow_len, orders22_len], by rw [ccRow_len, orders22_len]; show (i + 1 + 768) * 24 ≤ _; omega, by rw [ccRow_len, orders22_len]; show i + 1 ≤ _; omega, hcl, one_closed rfl, ?_⟩
      refine X1 (((i + 1 : Nat) : Int) + 1) (wI (by simp) (by omega) (by omega)) ?_
      exact ⟨i + 1, by omega, by omega, ⟨rfl, rfl, owE (by rw [List.length_append, ccRow_len, orders22_len]; rfl), rfl, trivial⟩, ⟨rowE (by rw [hsn]; rfl), trivial⟩⟩
    · have h2 : ¬ (i : Int) + 1 ≤ (m : Int) := h1
      have e : i = m := by omega
      subst e
      exact ⟨(), trivial, ⟨rfl, trivial⟩, ⟨rfl, trivial⟩⟩
  · exact ⟨trivial, r1 rfl, trivial⟩
theorem put14_pre (l : List ByteArray) (s : ByteArray) : l <+: put14 l s := by
  unfold put14; split
  · exact List.prefix_refl _
  · exact List.prefix_append _ _
theorem putAll_pre : ∀ (ws l : List ByteArray), l <+: putAll l ws
  | [], l => List.prefix_refl _
  | w :: ws, l => (put14_pre l w).trans (putAll_pre ws (put14 l w))
theorem putLL_pre : ∀ (L : List (List ByteArray)) (l : List ByteArray), l <+: putLL l L
  | [], l => List.prefix_refl _
  | ws :: L, l => (putAll_pre ws l).trans (putLL_pre L (putAll l ws))
theorem find14_hit (s : ByteArray) : ∀ (l : List ByteArray) (i : Nat), find14 s l = i → ∃ y, l[i]? = some y ∧ (y.toList == s.toList) = true
  | [], i, h => by simp [find14] at h
  | y :: l, i, h => by
    unfold find14 at h
    split at h
    · rename_i hy
      have : i = 0 := by omega
      subst this
      exact ⟨y, rfl, hy⟩
    · split at h
      · omega
      · rename_i h1 h2
        obtain ⟨z, h3, h4⟩ := find14_hit s l (i - 1) (by omega)
        refine ⟨z, ?_, h4⟩
        rw [show i = (i - 1) + 1 by omega]
        simpa using h3
theorem id15_ok {ws : List ByteArray} {w : ByteArray} (hp : marks15 <+: ws) (hm : markB w = false) : 0 ≤ id15 ws w ∧ id15 ws w < ws.length ∧ id15 ws w ≠ 1 := by
  have h3 : 3 ≤ ws.length := hp.length_le
  have hl := find14_lt w ws
  unfold id15
  split
  · omega
  · refine ⟨by omega, by omega, fun h => ?_⟩
    obtain ⟨y, h1, h2⟩ := find14_hit w ws 1 h
    obtain ⟨t, rfl⟩ := hp
    have : y = ⟨#[60, 115, 62]⟩ := by
      have h5 : (marks15 ++ t)[1]? = some (⟨#[60, 115, 62]⟩ : ByteArray) := rfl
      rw [h5] at h1
      exact (Option.some.inj h1).symm
    subst this
    unfold markB at hm
    rw [Bool.or_eq_false_iff] at hm
    have h6 := beq_iff_eq.1 h2
    rw [← h6] at hm
    have h7 := hm.1
    rw [beq_self_eq_true] at h7
    cases h7
structure PadOk (words : Int) (p : List Int) : Prop where
  rg : ∀ v, v ∈ p → 0 ≤ v ∧ v < words
  tl : ∀ v, v ∈ p.drop 1 → v ≠ 1
theorem pad16_ok {ws l : List ByteArray} (hp : marks15 <+: ws) (hl : WordsOk l) : PadOk ws.length (pad16 ws l) := by
  have h3 : 3 ≤ ws.length := hp.length_le
  have key : ∀ v, v ∈ l.map (id15 ws) ++ [2] → 0 ≤ v ∧ v < (ws.length : Int) ∧ v ≠ 1 := fun v hv => by
    rcases List.mem_append.1 hv with hv | hv
    · obtain ⟨w, hw, rfl⟩ := List.mem_map.1 hv
      exact id15_ok hp (hl w hw).2
    · simp at hv; subst hv; omega
  refine ⟨fun v hv => ?_, fun v hv => (key v (by simpa [pad16] using hv)).2.2⟩
  have : v = 1 ∨ v ∈ l.map (id15 ws) ++ [2] := by simpa [pad16] using hv
  rcases this with rfl | h
  · omega
  · exact ⟨(key v h).1, (key v h).2.1⟩
theorem grS_mem {p : List Int} {n : Nat} : ∀ (i : Nat) (g : List Int), g ∈ grS p n i → ∃ j, n + j ≤ p.length ∧ g = (p.drop j).take n
  | 0, g, h => by simp [grS] at h
  | i + 1, g, h => by
    unfold grS at h
    split at h
    · rename_i hi
      rcases List.mem_append.1 h with h | h
      · exact grS_mem i g h
      · simp at h; exact ⟨i, hi, h⟩
    · exact grS_mem i g h
theorem each16_mem {L : List (List Int)} {n : Nat} {g : List Int} (h : g ∈ each16 L n) : ∃ p j, p ∈ L ∧ n + j ≤ p.length ∧ g = (p.drop j).take n := by
  unfold each16 at h
  obtain ⟨l, hl, hgl⟩ := List.mem_flatten.1 h
  obtain ⟨p, hpm, rfl⟩ := List.mem_map.1 hl
  obtain ⟨j, h1, h2⟩ := grS_mem _ _ hgl
  exact ⟨p, j, hpm, h1, h2⟩
theorem idx_neg : ∀ (l : List Int), (∀ v, v ∈ l → v ≠ 1) → idx 1 l < 0
  | [], _ => by simp [idx]
  | y :: l, h => by
    unfold idx
    rw [if_neg (fun e => h y (by simp) e.symm), if_pos (idx_neg l fun v hv => h v (List.mem_cons_of_mem _ hv))]
    omega
theorem gW_ok {words : Int} {p : List Int} (hp : PadOk words p) {n j : Nat} : gW words ((p.drop j).take n) = 0 := by
  have hsub : ∀ v, v ∈ (p.drop j).take n → v ∈ p := fun v hv => List.mem_of_mem_drop (List.mem_of_mem_take hv)
  unfold gW
  rw [if_neg, if_neg]
  · have := idx_neg (((p.drop j).take n).drop 1) fun v hv => hp.tl v (by
      rw [List.drop_take] at hv
      have h1 : v ∈ (p.drop j).drop 1 := List.mem_of_mem_take hv
      have e : (p.drop j).drop 1 = (p.drop 1).drop j := by rw [List.drop_drop, List.drop_drop, Nat.add_comm]
      rw [e] at h1
      exact List.mem_of_mem_drop h1)
    omega
  · rw [List.any_eq_true]
    rintro ⟨v, hv, hb⟩
    have := hp.rg v (hsub v hv)
    unfold badW at hb
    simp at hb
    omega
theorem kwL_zero {words : Int} : ∀ {l : List Cnt}, (∀ x, x ∈ l → gW words x.1 = 0) → kwL words l = 0
  | [], _ => rfl
  | y :: l, h => by
    unfold kwL
    rw [if_neg (by rw [h y (by simp)]; simp)]
    exact kwL_zero fun x hx => h x (List.mem_cons_of_mem _ hx)
theorem kwLL_zero {words : Int} : ∀ {L : List (List Cnt)}, (∀ l, l ∈ L → kwL words l = 0) → kwLL words L = 0
  | [], _ => rfl
  | y :: l, h => by
    unfold kwLL
    rw [if_neg (by rw [h y (by simp)]; simp)]
    exact kwLL_zero fun x hx => h x (List.mem_cons_of_mem _ hx)
theorem wrongL_zero {n : Nat} : ∀ {l : List Cnt} {p : Option (List Int)}, (∀ x, x ∈ l → x.1.length = n + 1 ∧ 1 ≤ x.2) → Rises l → (∀ q, p = some q → ∀ x, x ∈ l → lexC q x.1 < 0) → wrongL n p l = 0
  | [], p, _, _, _ => wrongL_nil
  | x :: l, p, h, hr, hq => by
    obtain ⟨h1, h2⟩ := List.pairwise_cons.1 hr
    obtain ⟨a1, a2⟩ := h x (by simp)
    rw [wrongL_cons, if_neg (by omega), if_neg (by omega), if_neg]
    · exact wrongL_zero (fun y hy => h y (List.mem_cons_of_mem _ hy)) h2 fun q hq y hy => by cases hq; exact h1 y hy
    · cases p with
      | none => simp
      | some q =>
        have := hq q rfl x (by simp)
        simp; omega
theorem wrongLL_zero : ∀ {L : List (List Cnt)} {n : Nat}, (∀ (k : Nat) l, L[k]? = some l → wrongL (n + k) none l = 0) → wrongLL n L = 0
  | [], _, _ => rfl
  | l :: L, n, h => by
    have h0 : wrongL n none l = 0 := h 0 l rfl
    rw [wrongLL, if_neg (by rw [h0]; simp)]
    exact wrongLL_zero fun k x hx => by
      have := h (k + 1) x (by simpa using hx)
      rwa [show n + (k + 1) = n + 1 + k by omega] at this
abbrev ofL (s : ByteArray) (m : Nat) : List (List Cnt) := orders22 (all16 (learn15 s) s) m
theorem learn_bd {s : ByteArray} (hs : s.size ≤ 120) : marks15 <+: learn15 s ∧ (learn15 s).length ≤ 14523 := by
  obtain ⟨b1, b2⟩ := all13_bd s
  refine ⟨putLL_pre _ _, ?_⟩
  have h1 := putLL_len (n := 120) (all13 s) marks15 fun ws h => by have := (b2 ws h).1; omega
  have h3 : (all13 s).length * 120 ≤ 121 * 120 := Nat.mul_le_mul_right _ (by omega)
  have h4 : marks15.length = 3 := rfl
  unfold learn15
  omega
theorem all16_bd {s : ByteArray} (hs : s.size ≤ 120) : (all16 (learn15 s) s).length ≤ 121 ∧ ∀ p, p ∈ all16 (learn15 s) s → p.length ≤ 122 ∧ PadOk (learn15 s).length p := by
  obtain ⟨b1, b2⟩ := all13_bd s
  unfold all16
  refine ⟨by rw [List.length_map]; omega, fun p hp => ?_⟩
  obtain ⟨l, hl, rfl⟩ := List.mem_map.1 hp
  obtain ⟨c1, c2⟩ := b2 l hl
  refine ⟨?_, pad16_ok (learn_bd hs).1 c2⟩
  simp [pad16]
  omega
theorem orders22_get {L : List (List Int)} {m k : Nat} {l : List Cnt} (h : (orders22 L m)[k]? = some l) : k < m ∧ l = putG (each16 L (k + 1)) := by
  unfold orders22 at h
  rw [List.getElem?_map, Option.map_eq_some_iff] at h
  obtain ⟨j, hj, rfl⟩ := h
  obtain ⟨h1, h2⟩ := List.getElem?_eq_some_iff.1 hj
  simp at h1 h2
  subst h2
  exact ⟨h1, rfl⟩
theorem each_bd {s : ByteArray} (hs : s.size ≤ 120) (n : Nat) : (each16 (all16 (learn15 s) s) n).length ≤ 14762 := by
  obtain ⟨a1, a2⟩ := all16_bd hs
  have h1 := each16_len (n := n) (k := 122) (all16 (learn15 s) s) fun p h => (a2 p h).1
  have h3 : (all16 (learn15 s) s).length * 122 ≤ 121 * 122 := Nat.mul_le_mul_right _ a1
  omega
theorem of_list {s : ByteArray} (hs : s.size ≤ 120) {m k : Nat} {l : List Cnt} (h : (ofL s m)[k]? = some l) : k < m ∧ l.length ≤ 14762 ∧ Rises l ∧ ∀ x, x ∈ l → x.1.length = k + 1 ∧ 1 ≤ x.2 ∧ x.2 ≤ 14762 ∧ gW (learn15 s).length x.1 = 0 := by
  obtain ⟨h1, rfl⟩ := orders22_get h
  obtain ⟨g1, g2, g3, g4⟩ := putG_ok _ (each16 (all16 (learn15 s) s) (k + 1)) rfl
  have hb := each_bd hs (k + 1)
  refine ⟨h1, by omega, g4, fun x hx => ?_⟩
  obtain ⟨p, j, hp, hj, hg⟩ := each16_mem (g2 x hx)
  have hn := g3 x hx
  refine ⟨?_, hn.1, by omega, ?_⟩
  · rw [hg, List.length_take, List.length_drop]; omega
  · rw [hg]; exact gW_ok ((all16_bd hs).2 p hp).2
theorem of_mem {s : ByteArray} (hs : s.size ≤ 120) {m : Nat} {l : List Cnt} (h : l ∈ ofL s m) (hm : m ≤ 4) : l.length ≤ 14762 ∧ Rises l ∧ ∀ x, x ∈ l → x.1.length ≤ 4 ∧ 1 ≤ x.2 ∧ x.2 ≤ 14762 ∧ gW (learn15 s).length x.1 = 0 := by
  obtain ⟨k, hk⟩ := List.mem_iff_getElem?.1 h
  obtain ⟨h1, h2, h3, h4⟩ := of_list hs hk
  exact ⟨h2, h3, fun x hx => by obtain ⟨a1, a2⟩ := h4 x hx; exact ⟨by omega, a2⟩⟩
theorem of_wrong {s : ByteArray} (hs : s.size ≤ 120) {m : Nat} (h1 : 1 ≤ m) (h4 : m ≤ 4) : wrong29 (ofL s m) (learn15 s).length = 0 := by
  obtain ⟨l1, l2⟩ := learn_bd hs
  have l3 : 3 ≤ (learn15 s).length := l1.length_le
  have hlen : (ofL s m).length = m := orders22_len _ _
  have hw : wrong (ofL s m) = 0 := by
    unfold wrong
    rw [if_neg (by rw [hlen]; omega)]
    refine wrongLL_zero fun k l hk => ?_
    obtain ⟨_, _, r, hx⟩ := of_list hs hk
    rw [Nat.zero_add]
    exact wrongL_zero (fun x hm => ⟨(hx x hm).1, (hx x hm).2.1⟩) r fun q hq => by cases hq
  unfold wrong29
  rw [if_neg (by rw [hw]; simp), if_neg (by omega)]
  refine kwLL_zero fun l hl => kwL_zero fun x hx => ?_
  exact ((of_mem hs hl h4).2.2 x hx).2.2.2
theorem of_sum {s : ByteArray} (hs : s.size ≤ 120) {m : Nat} (h4 : m ≤ 4) : CCSum (ofL s m) ∧ ∀ l, l ∈ ofL s m → ∀ x, x ∈ l → x.2 ≤ 4611686018427387904 := by
  have hlen : (ofL s m).length = m := orders22_len _ _
  have hcl : CCLim (ofL s m) := ⟨by rw [hlen]; omega, fun l hl => by
    obtain ⟨a1, _, a3⟩ := of_mem hs hl h4
    exact ⟨by omega, fun x hx => by have := (a3 x hx).1; omega⟩⟩
  refine ⟨⟨hcl, fun l hl => ?_⟩, fun l hl x hx => by have := ((of_mem hs hl h4).2.2 x hx).2.2.1; omega⟩
  obtain ⟨n, hn, rfl⟩ := counts_mem hl
  obtain ⟨a1, _, a3⟩ := of_mem hs (List.getElem_mem hn) h4
  have := tot_le_mul (M := 1000000) (by omega) ((ofL s m)[n].map (cnt1 (ofL s m) n)) fun x hx' => by
    obtain ⟨y, hy, rfl⟩ := List.mem_map.1 hx'
    have h4 := (a3 y hy).2.2.1
    unfold cnt1
    split
    · have : ahead ((ofL s m).getD (n + 1) []) y.1 ≤ 1000000 := by
        by_cases h3 : n + 1 < (ofL s m).length
        · have e : (ofL s m).getD (n + 1) [] = (ofL s m)[n + 1] := by simp [List.getD_eq_getElem?_getD, h3]
          rw [e]
          exact Nat.le_trans (List.length_filter_le _ _) (hcl.at' h3).len
        · have e : (ofL s m).getD (n + 1) [] = [] := by simp [List.getD_eq_getElem?_getD, List.getElem?_eq_none (Nat.le_of_not_lt h3)]
          rw [e]; simp [ahead]
      show ((ahead _ _ : Nat) : Int) ≤ _
      omega
    · omega
  rw [List.length_map] at this
  have h5 : ((ofL s m)[n].length : Int) * 1000000 ≤ 14762 * 1000000 := Int.mul_le_mul_of_nonneg_right (by omega) (by omega)
  omega
def qv (p : Nat × Nat) : Rat := (p.1 : Rat) / (p.2 : Rat)
theorem nat_ne {n : Nat} (h : n ≠ 0) : (n : Rat) ≠ 0 := fun e => h (Rat.natCast_inj.1 (by rw [e]; rfl))
theorem qv_fR {n d : Nat} (h : d ≠ 0) : qv (fR n d) = (n : Rat) / (d : Rat) := by
  have hg : Nat.gcd n d ≠ 0 := fun e => h (Nat.eq_zero_of_gcd_eq_zero_right e)
  obtain ⟨a, ha⟩ := Nat.gcd_dvd_left n d
  obtain ⟨b, hb⟩ := Nat.gcd_dvd_right n d
  unfold qv fR
  generalize Nat.gcd n d = g at *
  subst ha hb
  have hb0 : b ≠ 0 := fun e => h (by rw [e, Nat.mul_zero])
  simp only
  rw [Nat.mul_div_cancel_left _ (Nat.pos_of_ne_zero hg), Nat.mul_div_cancel_left _ (Nat.pos_of_ne_zero hg), Rat.natCast_mul, Rat.natCast_mul]
  have h1 := nat_ne hg
  have h2 := nat_ne hb0
  grind
theorem qv_mul {p q : Nat × Nat} (hp : p.2 ≠ 0) (hq : q.2 ≠ 0) : qv (fMul p q) = qv p * qv q := by
  unfold fMul
  rw [qv_fR (Nat.mul_ne_zero hp hq), Rat.natCast_mul, Rat.natCast_mul]
  have h1 := nat_ne hp
  have h2 := nat_ne hq
  unfold qv
  grind
theorem qv_div {p q : Nat × Nat} (hp : p.2 ≠ 0) (hq : q.2 ≠ 0) (hq1 : q.1 ≠ 0) : qv (fDiv p q) = qv p / qv q := by
  unfold fDiv
  rw [qv_fR (Nat.mul_ne_zero hp hq1), Rat.natCast_mul, Rat.natCast_mul]
  have h1 := nat_ne hp
  have h2 := nat_ne hq
  have h3 := nat_ne hq1
  unfold qv
  grind
theorem qv_add {p q : Nat × Nat} (hp : p.2 ≠ 0) (hq : q.2 ≠ 0) : qv (fAdd p q) = qv p + qv q := by
  unfold fAdd
  rw [qv_fR (Nat.mul_ne_zero hp hq), Rat.natCast_mul, Rat.natCast_add, Rat.natCast_mul, Rat.natCast_mul]
  have h1 := nat_ne hp
  have h2 := nat_ne hq
  unfold qv
  grind
theorem qv_int (n : Nat) : qv (n, 1) = n := by
  unfold qv
  simp only
  rw [show ((1 : Nat) : Rat) = 1 from rfl]
  grind
theorem fMul_pos {p q : Nat × Nat} (hp : p.2 ≠ 0) (hq : q.2 ≠ 0) : (fMul p q).2 ≠ 0 := fR_pos (Nat.mul_ne_zero hp hq)
theorem fDiv_pos {p q : Nat × Nat} (hp : p.2 ≠ 0) (hq : q.1 ≠ 0) : (fDiv p q).2 ≠ 0 := fR_pos (Nat.mul_ne_zero hp hq)
def lessD (l : List Cnt) (a : Int) : Rat := qv (fSub (a.toNat, 1) (atN l a))
theorem lessD_0 (l : List Cnt) : lessD l 0 = 0 := by
  have : fSub ((0 : Int).toNat, 1) (atN l 0) = (0, 1) := by
    unfold atN at4
    rw [if_pos (by omega)]
    rfl
  unfold lessD
  rw [this, qv_int]
  rfl
theorem frac_one : ((fracS 1 1).toList == (⟨#[49, 47, 49]⟩ : ByteArray).toList) = true := by
  rw [show fracS 1 1 = ⟨#[49, 47, 49]⟩ by simp [ByteArray.ext_iff, fracS, digS]]
  exact beq_self_eq_true _
theorem long_ct (s : ByteArray) : Ct P 7 [.c (sS s)] [.c (.sc (.bool (decide ((s.size : Int) > 120))))] := by
  refine Ct.go T_ok T_mix (N := 6) Tryz.func7 rfl rfl rfl rfl ?_
  exact ⟨trivial, r1 rfl, trivial⟩
theorem of_xok {s : ByteArray} (hs : s.size ≤ 120) {m : Nat} (h1 : 1 ≤ m) (h4 : m ≤ 4) : XOk (counts (ofL s m)) (learn15 s).length := xok_of (of_sum hs h4).1 (of_wrong hs h1 h4) (of_sum hs h4).2
theorem of29_ct (s : ByteArray) (hs : s.size ≤ 120) (o m : Nat) (ho : o < 256) (hm : m = 1 + o % 4) :
    CtO P 9 [] [.c (sS s), .c (nI .u8 o)] [(200, some (xC (counts (ofL s m)) (learn15 s).length 201)), (201, some (.mp false [] []))] [.c (.ad 200 0), mM (ofL s m) (learn15 s).length, .c (.sc (.bool true))] := by
  have h1 : 1 ≤ m := by omega
  have h4 : m ≤ 4 := by omega
  have hx := of_xok hs h1 h4
  have hw := of_wrong hs h1 h4
  obtain ⟨hsum, _⟩ := of_sum (m := m) hs h4
  obtain ⟨l1, l2⟩ := learn_bd hs
  obtain ⟨a1, a2⟩ := all16_bd hs
  have hok := (wrong29_ok hw).1
  have hlen : (ofL s m).length = m := orders22_len _ _
  have hcl := counts_len (ofL s m)
  have hord := orders22_ct (all16 (learn15 s) s) m (by omega) (by omega) (fun p hp => by have := (a2 p hp).1; omega)
  have hnew := new_ok (ofL s m) (learn15 s).length hsum hw
  have hrnew := rnew_ct (ofL s m) (learn15 s).length hsum (hok.ccform hsum.lim) (by omega)
  have hword := order_ct (ks := []) (vs := []) hx
  refine Ct.keep (Ty.own_ok [27] T_ok) T_mix [] (N := 50) Tryz.func9 rfl rfl rfl rfl ?_
  refine X1 _ (learn15_ct s (by omega)) ?_
  refine X1 (o : Int) (wI rfl (by omega) (by omega)) ?_
  refine And.intro (by omega) (X1 ((o % 4 : Nat) : Int) ?_ (And.intro ⟨by show (-9223372036854775808 : Int) ≤ _; omega, by show _ ≤ (9223372036854775807 : Int); omega⟩ ?_))
  · show Int.tmod (o : Int) 4 = _
    rw [Int.tmod_eq_emod_of_nonneg (by omega)]; omega
  refine X1 (m : Int) (wI (by omega) (by omega) (by omega)) ?_
  refine X1 _ (all16_ct (learn15 s) s (by omega) (by omega)) ?_
  refine X1 _ hord ?_
  refine And.intro (by rw [sRow_len]; omega) ?_
  rw [sRow_len]
  refine X2 (.own [] [(36, 200), (34, 201)]) ?_
  refine ⟨_, _, hnew, ?_⟩
  refine And.intro (by rw [sRow_len]; omega) ?_
  rw [sRow_len]
  refine X1 _ hrnew ?_
  refine X2 (.own σK νK) ?_
  refine ⟨_, _, hword, ?_⟩
  refine ecase (fun _ => ?_) (fun h => ?_)
  · refine X2 (.own σK νK) ?_
    refine ⟨_, _, words_ct, ?_⟩
    refine And.intro (by rw [sRow_len]; omega) ?_
    rw [sRow_len]
    exact ⟨trivial, SubO.of (l := [(200, xC (counts (ofL s m)) (learn15 s).length 201), (201, .mp false [] [])]) ⟨rfl, rfl, trivial⟩, r1 rfl, rc rfl, r1 (blE (beq_self_eq_true _)), trivial⟩
  · exfalso; omega
abbrev nilX : A1 := .c (.sc (.pointer none))
theorem norder_ct : Ct P 19 [nilX] [.c (eI .i64 0)] := by
  refine Ct.go T_ok T_mix (N := 10) Tryz.func19 rfl rfl rfl rfl ?_
  exact ⟨trivial, r1 rfl, trivial⟩
theorem nwords_ct : Ct P 20 [nilX] [.c (eI .i64 0)] := by
  refine Ct.go T_ok T_mix (N := 9) Tryz.func20 rfl rfl rfl rfl ?_
  exact ⟨trivial, r1 rfl, trivial⟩
theorem nnumber_ct (g : List Int) (hg : g.length ≤ 1000000) : Ct P 17 [nilX, .c (iSl g)] [.c (eI .i64 0)] := by
  refine Ct.go T_ok T_mix (N := 41) Tryz.func17 rfl rfl rfl rfl ?_
  refine And.intro (by rw [iRow_len]; omega) ?_
  rw [iRow_len]
  refine dcase (fun h0 => ?_) (fun h0 => ?_)
  · exact ⟨trivial, r1 rfl, trivial⟩
  refine X1 _ norder_ct ?_
  refine dcase (fun h1 => ?_) (fun h1 => ?_)
  · exact ⟨trivial, r1 rfl, trivial⟩
  · exfalso; omega
theorem ngamma_ct (g : List Int) (hg : g.length ≤ 1000000) : Ct P 18 [nilX, .c (iSl g)] [qP (1, 1)] := by
  refine Ct.go T_ok T_mix (N := 17) Tryz.func18 rfl rfl rfl rfl ?_
  refine And.intro (by rw [iRow_len]; omega) ?_
  rw [iRow_len]
  refine X1 _ norder_ct ?_
  refine X1 _ (qint_ct 1 (by omega)) ?_
  exact ⟨trivial, rc rfl, trivial⟩
theorem nprob_ct (h : List Int) (w : Int) : Ct P 12 [nilX, .c (iSl h), .c (eI .i64 w)] [qP (0, 1)] := by
  refine Ct.go T_ok T_mix (N := 101) Tryz.func12 rfl rfl rfl rfl ?_
  refine dcase (fun h1 => ?_) (fun h1 => ?_)
  · refine X1 _ (qint_ct 0 (by omega)) ?_
    exact ⟨trivial, rc rfl, trivial⟩
  · refine X1 _ nwords_ct ?_
    refine dcase (fun h2 => ?_) (fun h2 => ?_)
    · refine X1 _ (qint_ct 0 (by omega)) ?_
      exact ⟨trivial, rc rfl, trivial⟩
    · exfalso; omega
theorem nset_ct : Ct P 21 [nilX, .c (eI .i64 1)] [.ag (List.replicate 8 (.sc (.slice none 0 0)))] := by
  refine Ct.go T_ok T_mix (N := 22) Tryz.func21 rfl rfl rfl rfl ?_
  refine X1 _ norder_ct ?_
  exact ⟨trivial, rc rfl, trivial⟩
theorem nil2 {K : Km} {ok : Nat → Prop} {w : World} (u : Value) (h : RelA K ok w (.ag [.sc (.slice none 0 0), .sc (.slice none 0 0)]) u) : RelA K ok w (qV 0 0) u := by
  cases h with
  | ag h =>
    refine .ag ⟨by simpa using h.len, fun i x hx => ?_⟩
    obtain ⟨u, hu, hr⟩ := h.get i (.sc (.slice none 0 0)) (by
      cases i with
      | zero => rfl
      | succ i =>
        cases i with
        | zero => rfl
        | succ i => simp [dg_zero] at hx)
    refine ⟨u, hu, ?_⟩
    have e : x = .sl 1 [] := by
      cases i with
      | zero => simp [dg_zero, nRow] at hx; exact hx.symm
      | succ i =>
        cases i with
        | zero => simp [dg_zero, nRow] at hx; exact hx.symm
        | succ i => simp [dg_zero] at hx
    subst e
    cases hr with
    | cl hr =>
      cases hr with
      | sc _ => exact .cl .sl0
theorem nzeroS_ct : Ct P 16 [.ag [.sc (.slice none 0 0), .sc (.slice none 0 0)]] [.c (.sc (.bool true))] := by
  have := qzero_ct 0 0 (by rw [dg_zero]; simp)
  exact this.args fun K ok w vs h => h.set (i := 0) rfl nil2
theorem cmp_qv {p q : Nat × Nat} (hp : p.2 ≠ 0) (hq : q.2 ≠ 0) (h : qv p = qv q) : cmpI ((p.1 * dn q.2 : Nat) : Int) ((q.1 * dn p.2 : Nat) : Int) = 0 := by
  have h1 := nat_ne hp
  have h2 := nat_ne hq
  have : p.1 * q.2 = q.1 * p.2 := by
    apply Rat.natCast_inj.1
    rw [Rat.natCast_mul, Rat.natCast_mul]
    unfold qv at h
    grind
  rw [dn_ne hp, dn_ne hq, this, cmpI_self]
theorem hcmp0_ct {k m : Nat} {p q : Nat × Nat} (h1 : Bd k p) (h2 : Bd m q) (hk : k ≤ 2000000) (hm : m ≤ 2000000) (h : qv p = qv q) : Ct P 22 [qP p, qP q] [.c (eI .i64 0)] := by
  have := qcmp_ct p.1 p.2 q.1 q.2 (bd_limq h1 hk) (bd_limq h2 hm)
  rwa [cmp_qv h1.pos h2.pos h] at this
theorem back_eq {Lc : List (List Cnt)} {words : Int} (hx : XOk Lc words) {a : List Int} {w : Int} (h1 : 1 ≤ a.length) (hl : a.length < Lc.length) (hn : num29 Lc (a ++ [w]) = 0) :
    qv (probF Lc words a w) = qv (fMul (rGam Lc a) (probF Lc words (a.drop 1) w)) := by
  have hgb := (rGam_bd hx a).pos
  rw [qv_mul hgb (probF_bd hx (a.drop 1) w).pos]
  unfold probF
  by_cases hw : w < 0 ∨ words ≤ w ∨ w = 1
  · rw [if_pos hw, if_pos hw, qv_int]
    rw [show ((0 : Nat) : Rat) = 0 from rfl]
    grind
  · rw [if_neg hw, if_neg hw]
    have e1 : cutH Lc a = a := if_neg (by omega)
    have e2 : cutH Lc (a.drop 1) = a.drop 1 := if_neg (by rw [List.length_drop]; omega)
    rw [e1, e2]
    have e3 : pF Lc words w a = stepF Lc w a (pF Lc words w (a.drop 1)) := by
      cases a with
      | nil => simp at h1
      | cons x t => rfl
    have hpb := (pF_bd hx w (a.drop 1)).pos
    rw [e3]
    unfold stepF
    by_cases hT : totN (after (lvl Lc a) a) = 0
    · rw [if_pos hT]
      have : rGam Lc a = (1, 1) := by
        rw [lvl_eq hl] at hT
        unfold rGam
        rw [dif_pos hl]
        unfold gam28
        rw [if_pos (by omega)]
      rw [this, qv_int, show ((1 : Nat) : Rat) = 1 from rfl]
      grind
    · rw [if_neg hT]
      have ob := (owF_bd hx w a).pos
      rw [qv_add (fDiv_pos ob hT) (fMul_pos hgb hpb), qv_div ob (show (1 : Nat) ≠ 0 by decide) hT, qv_mul hgb hpb]
      have : qv (owF Lc w a) = 0 := by
        unfold owF
        rw [hn]
        exact lessD_0 _
      rw [this]
      grind
theorem back_cut {Lc : List (List Cnt)} {words : Int} {a : List Int} {w : Int} (h1 : 1 ≤ a.length) (h0 : 1 ≤ Lc.length) (hl : Lc.length ≤ a.length) : probF Lc words (a.drop 1) w = probF Lc words a w := by
  have e : cutH Lc (a.drop 1) = cutH Lc a := by
    unfold cutH
    rw [if_pos hl]
    by_cases h2 : Lc.length ≤ (a.drop 1).length
    · rw [if_pos h2, List.drop_drop]
      rw [List.length_drop] at h2 ⊢
      congr 1; omega
    · rw [if_neg h2]
      rw [List.length_drop] at h2
      congr 1; omega
  unfold probF
  rw [e]
set_option maxHeartbeats 8000000 in
theorem kbacks_ct (s : ByteArray) (o : Nat) (h : List Int) (hs : s.size ≤ 140737488355328) (ho : o < 256) (hh : h.length ≤ 140737488355328) :
    Ct P 5 [.c (sS s), .c (nI .u8 o), .c (iSl h)] [.c (.sc (.bool true))] := by
  refine Ct.go (Ty.own_ok [9] T_ok) T_mix (N := 131) Tryz.func5 rfl rfl rfl rfl ?_
  refine X1 _ (long_ct s) ?_
  refine dcase (fun h1 => ?_) (fun h1 => ?_)
  · refine X1 _ live_ct ?_
    exact ⟨trivial, r1 rfl, trivial⟩
  refine And.intro (by rw [iRow_len]; omega) ?_
  rw [iRow_len]
  refine dcase (fun h2 => ?_) (fun h2 => ?_)
  · refine X1 _ live_ct ?_
    exact ⟨trivial, r1 rfl, trivial⟩
  refine And.intro (by rw [iRow_len]; omega) ?_
  rw [iRow_len]
  refine dcase (fun h3 => ?_) (fun h3 => ?_)
  · refine X1 _ live_ct ?_
    exact ⟨trivial, r1 rfl, trivial⟩
  have hs' : s.size ≤ 120 := by omega
  have hof := of29_ct s hs' o (1 + o % 4) ho rfl
  have hx := of_xok (m := 1 + o % 4) hs' (by omega) (by omega)
  have h0 := hx.len0
  have h8 := hx.len8
  have hcl : (ofL s (1 + o % 4)).length = (counts (ofL s (1 + o % 4))).length := (counts_len _).symm
  refine X2 (.own [] [(200, 200), (201, 201)]) ?_
  refine ⟨_, _, hof, ?_⟩
  refine And.intro (by rw [iRow_len]; omega) ?_
  rw [iRow_len]
  refine X1 ((h.length - 1 : Nat) : Int) (wI (by omega) (by omega) (by omega)) ?_
  refine And.intro (by omega) (X1 _ (iRow_getN (n := h.length - 1) rfl (by omega)) ?_)
  refine And.intro (by rw [iRow_len]; omega) ?_
  rw [iRow_len]
  refine X1 ((h.length - 1 : Nat) : Int) (wI (by omega) (by omega) (by omega)) ?_
  refine ⟨0, h.length - 1, rfl, rfl, by omega, by rw [iRow_len]; omega, ?_⟩
  rw [iRow_sub, List.drop_zero, Nat.sub_zero]
  have esplit : h.take (h.length - 1) ++ [h.getD (h.length - 1) 0] = h := by
    have e := List.take_append_drop (h.length - 1) h
    rw [List.drop_eq_getElem_cons (by omega), List.drop_of_length_le (by omega)] at e
    rw [List.getD_eq_getElem?_getD, List.getElem?_eq_getElem (by omega)]
    exact e
  have hal : (h.take (h.length - 1)).length = h.length - 1 := by rw [List.length_take]; omega
  generalize hw' : h.getD (h.length - 1) 0 = w at *
  generalize ha' : h.take (h.length - 1) = a at *
  have hnn := nnumber_ct h (by omega)
  refine X1 _ (nprob_ct a w) ?_
  refine X1 _ (qzero_ct 0 1 (Nat.le_trans (dg_len (k := 1) (by omega) (by omega)) (by omega))) ?_
  refine X1 _ hnn ?_
  refine X1 _ (ngamma_ct a (by omega)) ?_
  have ht := rtext_ct 1 1 (by decide) (by decide)
  rw [show dn 1 = 1 by decide] at ht
  refine X1 _ ht ?_
  refine bfalse (by rw [frac_one]; rfl) ?_
  refine X1 _ norder_ct ?_
  refine X1 _ nwords_ct ?_
  refine X1 _ nset_ct ?_
  refine And.intro (by decide) (And.intro (by decide) (X1 _ rfl (And.intro (by decide) ?_)))
  refine X1 _ nzeroS_ct ?_
  have hpb := probF_bd hx a w
  have hqb := probF_bd hx (a.drop 1) w
  obtain ⟨m1, hP⟩ := kprob_ct hx ⟨([], []), MOk.nil⟩ a (by omega) w
  obtain ⟨m2, hQ⟩ := kprob_ct hx m1 (a.drop 1) (by rw [List.length_drop]; omega) w
  obtain ⟨ks3, vs3, hm3, hG⟩ := kgamma_ct hx m2.2 a (by omega)
  refine X2 (.two 200 201) ?_
  refine ⟨rfl, _, _, hP, ?_⟩
  refine ⟨1, a.length, rfl, by show ((iRow a).length : Int) = _; rw [iRow_len], by omega, by rw [iRow_len]; exact Nat.le_refl _, ?_⟩
  rw [iRow_sub, show (a.drop 1).take (a.length - 1) = a.drop 1 from List.take_of_length_le (by rw [List.length_drop]; omega)]
  refine X2 (.two 200 201) ?_
  refine ⟨rfl, _, _, hQ, ?_⟩
  refine And.intro rfl ?_
  refine And.intro (by rw [iRow_len]; omega) ?_
  refine And.intro (by rw [ccRow_len]; omega) ?_
  rw [iRow_len, ccRow_len]
  refine dcase (fun h5 => ?_) (fun h5 => ?_)
  · have hg1 : rGam (counts (ofL s (1 + o % 4))) a = (1, 1) := dif_neg (by omega)
    rw [hg1] at hG
    refine X1 _ (hcmp0_ct hpb hqb (by omega) (by omega) (by rw [back_cut (by omega) h0 (by omega)])) ?_
    refine X2 (.own σK νK) ?_
    refine ⟨_, _, hG, ?_⟩
    refine X1 _ ht ?_
    refine btrue frac_one ?_
    refine X1 _ live_ct ?_
    exact ⟨trivial, r1 rfl, trivial⟩
  · have hRN := number29_ct (counts (ofL s (1 + o % 4))) (learn15 s).length (rRows (counts (ofL s (1 + o % 4)))) h hx.lim (by omega)
    have hnb := num29_bd hx h
    have hgb := rGam_bd hx a
    have hmul := hmul_ct (p := rGam (counts (ofL s (1 + o % 4))) a) (q := probF (counts (ofL s (1 + o % 4))) (learn15 s).length (a.drop 1) w) (by rw [bd_fr hgb]; exact hgb) (by rw [bd_fr hqb]; exact hqb) (by omega) (by omega)
    rw [bd_fr hgb, bd_fr hqb] at hmul
    refine X1 _ hRN ?_
    refine dcase (fun h6 => ?_) (fun h6 => ?_)
    · refine X1 _ live_ct ?_
      refine And.intro rfl ?_
      exact ⟨trivial, r1 rfl, trivial⟩
    · refine X2 (.two 200 201) ?_
      refine ⟨rfl, _, _, hG, ?_⟩
      refine X1 _ hmul ?_
      refine X1 _ (hcmp0_ct hpb (fMul_bd hgb hqb) (by omega) (by omega) (back_eq hx (by omega) (by omega) (by rw [esplit]; omega))) ?_
      refine X1 _ live_ct ?_
      refine And.intro rfl ?_
      exact ⟨trivial, r1 rfl, trivial⟩
end Go.Proofs.YtpmchgndnhgncaaGreat.Pv
namespace Go.Proofs.YtpmchgndnhgncaaGreat.kneserBacks
open Go Go.ChangeShapes Go.WideShapes Go.ChangeAt Go.RowKit
open Go.Proofs.YtpmchgndnhgncaaGreat.Pv (okW WWLim Cnt)
theorem own : ownKnob Tryz.prog.godebug = none := by kernel_rfl
theorem laidOut : laidOutB Tryz.prog = true := by kernel_rfl
theorem walk (s : ByteArray) (o : Nat) (h : List Int) (hs : s.size ≤ 140737488355328) (ho : o < 256) (hh : h.length ≤ 140737488355328) (W : World) (v0 v1 v2 : Value)
    (h0 : Pv.Rel (okW W) W (Pv.sS s) v0) (h1 : Pv.Rel (okW W) W (Pv.nI .u8 o) v1) (h2 : Pv.Rel (okW W) W (Pv.iSl h) v2) :
    Calls Tryz.prog 5 #[v0, v1, v2] W fun e W' => e = .returned (.bool true) ∧ Below W.heap.size W W' := by
  have hct := Pv.kbacks_ct s o h hs ho hh
  have hrun := hct.run (Pv.Km.bare ⟨fun _ => none, fun _ => False⟩) (okW W) W [v0, v1, v2] (Pv.Hp.nil fun _ hb => hb) (.cons (.c (.cl h0)) (.cons (.c (.cl h1)) (.cons (.c (.cl h2)) .nil)))
  rcases hrun with ⟨_, hc⟩ | ⟨v, w', hv, _⟩
  · refine hc.mono fun e w' hq => ?_
    obtain ⟨v, K', ok', rfl, hr, hp, hf⟩ := hq
    have e1 : v = .bool true := by
      have hr' : Pv.RelV K' ok' w' (.o (.c (.sc (.bool true)))) v := hr
      cases hr' with
      | o hr' =>
        cases hr' with
        | c hr' =>
          cases hr' with
          | cl hr' =>
            cases hr' with
            | sc _ => rfl
    subst e1
    exact ⟨rfl, hf.os, hf.tape, hf.output, hf.size, fun b hb => hf.keep b hb (fun k o L hk => by simp [Pv.Objs.get] at hk) (fun hid => hid)⟩
  · exfalso
    have := Pv.exec_call (P := Tryz.prog) (f := 5) (by kernel_rfl) #[v0, v1, v2] W
    have hv' : (callFunc 5 #[v0, v1, v2]).run Tryz.prog W = .ok (.value v) w' := hv
    rw [this] at hv'
    cases hv'
set_option maxRecDepth 100000 in
theorem contract (H : Type) (enc : TypeId × Value → H) (W : World) (base : Nat) (args : Array Value) (ds gs : List (DataW H)) (before : List MemPlace)
    (hval : ∀ (j : Nat) t v, Tryz.f5.params[j]? = some t → args[j]? = some v → Value.okWide Tryz.prog W .any base t v)
    (hW : DataW.Whole enc Tryz.prog Tryz.f5.params.toList Rows.kneserBacksSpec.vars false W args.toList ds gs before) (hk : Rows.uptoSmall H (ds ++ gs) = true) :
    Calls Tryz.prog 5 args W fun e W' => ∃ v, e = .returned v ∧ Rows.kneserBacksSpec.post enc Tryz.prog Tryz.f5 false true false false W args v W' := by
  have hW' := hW
  obtain ⟨p, q, hA0, hV, rfl, hfz, hnd⟩ := hW
  have hA : DataW.TrodAll enc Tryz.prog W 0 (fun _ => true) true Tryz.f5.params.toList args.toList ds p := hA0
  rw [Tryz.params5] at hA hval
  obtain ⟨v0, vs0, d0, ds0, p0, q0, hargs, rfl, rfl, h0, r0⟩ := trodAll_cons hA
  obtain ⟨v1, vs1, d1, ds1, p1, q1, hargs1, rfl, rfl, h1, r1⟩ := trodAll_cons r0
  obtain ⟨v2, vs2, d2, ds2, p2, q2, hargs2, rfl, rfl, h2, r2⟩ := trodAll_cons r1
  obtain ⟨rfl, rfl, rfl⟩ := trodAll_nil r2
  obtain rfl : args = #[v0, v1, v2] := by cases args; simp_all
  obtain ⟨rfl, rfl⟩ := trodVars_none hV
  clear hA0
  have hb : Rows.uptoBulkAll [d0, d1, d2] ≤ 1048576 := by
    have h := of_decide_eq_true hk
    simpa using h
  simp only [Rows.uptoBulkAll] at hb
  obtain ⟨s, rfl, rfl, rfl, _⟩ := ChangeMaps.open_string Tryz.underlying9 (hval 0 9 v0 rfl rfl) h0
  obtain ⟨a2, l2, c2, rfl⟩ := okWide_slice Tryz.underlying22 (hval 2 22 v2 rfl rfl)
  obtain ⟨o, rfl, rfl, rfl, hw1⟩ := open_int Tryz.underlying5 (hval 1 5 v1 rfl rfl) h1
  have hx : 0 ≤ o ∧ o ≤ 255 := by simpa [Lit.wf, IntKind.min, IntKind.max, IntKind.signed, IntKind.bits] using hw1
  obtain ⟨on, rfl⟩ : ∃ on : Nat, o = (on : Int) := ⟨o.toNat, by omega⟩
  obtain ⟨n2, t2⟩ := h2
  obtain ⟨B, hB⟩ : ∃ B, B = 1048576 := ⟨_, rfl⟩
  rw [← hB] at hb
  have hb0 : s.data.toList.length + 1 ≤ B := by simp only [Rows.uptoBulk] at hb; omega
  have hb2 : Rows.uptoBulk d2 ≤ B := by omega
  have hBB : B ≤ 140737488355328 := by omega
  have hs : s.size ≤ 140737488355328 := by
    have : s.size = s.data.toList.length := rfl
    omega
  obtain ⟨u2, h, e2, hh, hr2⟩ := Pv.rd_ints hBB t2 hb2
  have e2' : u2 = .slice a2 l2 c2 := by simpa [Value.cells] using e2.symm
  subst e2'
  have g2 := fun (W' : World) (hg : Below W.heap.size W W') => Below.trod laidOut (by kernel_rfl) (of_decide_eq_true (by kernel_rfl)) ⟨n2, t2⟩ hg (DataW.trod_lt _ _ _ _ t2)
  refine (walk s on h hs (by omega) (by omega) W _ _ _ (.sc (show s.size ≤ Pv.BIG from hs)) (.sc (show (0 : Int) ≤ (on : Int) ∧ (on : Int) ≤ 255 from hx)) hr2).mono fun e W' ⟨he, hg⟩ => ?_
  subst he
  refine ⟨_, rfl, _, _, _, [], [] ++ ([] ++ (p2 ++ [])), [], hW', ?_, ?_, ?_, hg.frame _, fun h => by cases h⟩
  · exact trodAll_cons_mk (shut_bool Tryz.underlying4 _) trodAll_mk0
  · exact trodAll_cons_mk (ChangeMaps.shut_string Tryz.underlying9 (by assumption)) (trodAll_cons_mk (shut_int Tryz.underlying5 hw1) (trodAll_cons_mk (g2 W' hg) trodAll_mk0))
  · rfl
set_option maxRecDepth 100000 in
theorem lifted (os : Os) (started : os.Started) (H : Type) (enc : TypeId × Value → H) (F : Stop.Interp) :
    ReturnsInHanded {} Tryz.checked os 5 .any ((Rows.OpenSpec.upto Rows.kneserBacksSpec).pre6 enc Tryz.prog Tryz.f5 Rows.kneserBacksUptoRow.domain false) (((Rows.OpenSpec.upto Rows.kneserBacksSpec).at F).post enc Tryz.prog Tryz.f5 false true false false) := by
  refine returnsInHanded_of_cond (C := Tryz.checked) (s := Rows.OpenSpec.upto Rows.kneserBacksSpec) (k := Rows.uptoSmall) rfl own started (by kernel_rfl) Tryz.func5
    (OpenSpec.witness (enc := enc) (C := Tryz.checked) (s := Rows.OpenSpec.upto Rows.kneserBacksSpec) (k := Rows.uptoSmall) rfl false ⟨#[], #[.string .empty, .int .u8 0, .slice none 0 0], []⟩ 8 (by kernel_rfl) (by kernel_rfl) (by kernel_rfl)
      (x := ([.lit (.string []), .lit (.int .u8 0), .nil], [], [])) (by kernel_rfl) rfl (by kernel_rfl)) ?_
  intro W base args ds gs before hval hW _ hk _
  exact contract H enc W base args ds gs before hval hW hk
theorem over : Rows.kneserBacksUptoRow.holds Tryz.pinned (Rows.OpenSpec.upto Rows.kneserBacksSpec) :=
  OpenClaim.holds_of_cond 5 Tryz.f5 rfl rfl rfl rfl rfl rfl rfl ⟨rfl, rfl, rfl, rfl, rfl⟩ rfl rfl rfl rfl rfl (by kernel_rfl) Tryz.func5 (by kernel_rfl)
    (of_decide_eq_true (by kernel_rfl)) (by unfold Func.isWrapper; first | (rw [if_pos (by decide +kernel)]; kernel_rfl) | (rw [if_neg (by decide +kernel)]; exact ⟨rfl, rfl⟩))
    (fun os started H enc _ F => lifted os started H enc F)
theorem proved : Rows.KneserBacksUptoSaid :=
  over
end Go.Proofs.YtpmchgndnhgncaaGreat.kneserBacks
