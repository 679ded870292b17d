/- Parts of a proof, joined: PvX PvY Cn Co Cp Fl Mt Ck Mg. -/
import Derived.Test.YtjpbijdpkdmeaaaGreatTfJ
namespace Go.Proofs.YtjpbijdpkdmeaaaGreat.Pv
open Go
def Free (K : Km) (ok : Nat → Prop) (b : Nat) : Prop := ¬ ok b ∧ ¬ K.hid b
theorem Sim.free {N : Cx} {K : Km} {ok : Nat → Prop} {w w' : World} {E : Env} {O : Objs} {a : Act} (hs : Sim N K ok w E O a) (hsz : w.heap.size ≤ w'.heap.size) (hb : ∀ b, (ok b ∨ K.hid b ∨ ∃ k o L, O.get k = some o ∧ K k = some (b, L)) → w'.heap[b]? = w.heap[b]?)
    (hd : ∀ b : Nat, mark b ∈ a.defers → w'.heap[b]? = w.heap[b]?) (hl : ∀ (b : Nat) (r : Loop), N.R = some b → w.heap[b]? = some (Obj.loop r) → ∃ r', w'.heap[b]? = some (Obj.loop r')) (hc : CSh w w') (ho : w'.os = w.os ∧ w'.tape = w.tape ∧ w'.output = w.output) : Sim N K ok w' E O a := by
  have hsh : ∀ r, Shp K K w w' r := fun r => ⟨rfl, fun b _ _ cs e fr h => hc b cs e fr h⟩
  refine ⟨hs.size, ?_, Nat.le_trans hs.base hsz, fun l hR => ?_, hs.old, ⟨fun k o h => ?_, hs.hp.inj, hs.hp.apart, fun b h => Nat.lt_of_lt_of_le (hs.hp.lt b h) hsz, fun b h => Nat.lt_of_lt_of_le (hs.hp.hlt b h) hsz, hs.hp.hok, hs.hp.how⟩, fun t av h => ?_⟩
  · obtain ⟨Ds, h1, h2, h3⟩ := hs.defers
    exact ⟨Ds, h1, h2, fun D hD => ⟨(h3 D hD).1, (hd D (by rw [h1]; exact List.mem_map.2 ⟨D, hD, rfl⟩)).trans (h3 D hD).2.1, (h3 D hD).2.2⟩⟩
  · obtain ⟨r, hr⟩ := hs.rnd l hR
    exact hl l r hR hr
  · exact (hs.hp.obs k o h).mono (fun _ h => h) (fun b h _ => hb b (.inl h)) hsz rfl (fun b L hK => hb b (.inr (.inr ⟨k, o, L, h, hK⟩))) (fun J _ => ⟨rfl, fun b h => hb b (.inr (.inl h)), ho.1, ho.2.1, ho.2.2, hc⟩) fun r _ => hsh r
  · obtain ⟨v, hv, hr⟩ := hs.env t av h
    exact ⟨v, hv, hr.mono (fun _ h => h) (fun b h _ => hb b (.inl h)) hsz fun r _ => hsh r⟩
theorem Sim.putLoop {N : Cx} {K : Km} {ok : Nat → Prop} {w : World} {E : Env} {O : Objs} {a : Act} (hs : Sim N K ok w E O a) {l : Nat} {r : Loop} (hl : w.heap[l]? = some (.loop r)) (hf : Free K ok l) (r' : Loop) : Sim N K ok (w.putObj l (.loop r')) E O a := by
  have hlt := (Array.getElem?_eq_some_iff.1 hl).1
  refine hs.free (by simp) (fun b hb => World.putObj_heap_other ?_) (fun b hb => World.putObj_heap_other ?_) (fun b q _ hb => ?_) (fun b cs e fr hb => ⟨cs, e, fr, (World.putObj_heap_other ?_).trans hb, rfl⟩) ⟨rfl, rfl, rfl⟩
  · rintro rfl
    rcases hb with h | h | ⟨k, o, L, h1, h2⟩
    · exact hf.1 h
    · exact hf.2 h
    · exact loop_notOwn hs.hp hl k o L h1 h2
  · rintro rfl
    obtain ⟨Ds, h1, _, h3⟩ := hs.defers
    rw [h1] at hb
    obtain ⟨D, hD, e⟩ := List.mem_map.1 hb
    have e' : D = b := by simpa [mark] using e
    subst e'
    have := (h3 D hD).2.1
    rw [hl] at this; cases this
  · by_cases e : b = l
    · subst e; exact ⟨r', World.putObj_heap_same hlt⟩
    · exact ⟨q, (World.putObj_heap_other e).trans hb⟩
  · rintro rfl; rw [hl] at hb; cases hb
theorem kind_putLoop {w : World} {l : Nat} {r r' : Loop} (hl : w.heap[l]? = some (.loop r)) (b : Nat) (o : Obj) (hb : w.heap[b]? = some o) : ∃ o', (w.putObj l (.loop r')).heap[b]? = some o' ∧ SK o o' := by
  by_cases e : b = l
  · subst e
    rw [hl] at hb
    cases hb
    exact ⟨_, World.putObj_heap_same (Array.getElem?_eq_some_iff.1 hl).1, r', rfl⟩
  · exact ⟨o, (World.putObj_heap_other e).trans hb, SK.refl o⟩
theorem Sim.okUp {N : Cx} {K : Km} {ok ok' : Nat → Prop} {w : World} {E : Env} {O : Objs} {a : Act} (hs : Sim N K ok w E O a) (h1 : ∀ b, ok b → ok' b) (h2 : ∀ b, ok' b → b < w.heap.size) (h3 : ∀ k o b L, O.get k = some o → K k = some (b, L) → ¬ ok' b) (h4 : ∀ b, K.hid b → ¬ ok' b)
    (h5 : a.defers = []) : Sim N K ok' w E O a := by
  have hsh : ∀ r, Shp K K w w r := fun r => Shp.refl _ _ _
  refine ⟨hs.size, ⟨[], by rw [h5]; rfl, List.nodup_nil, fun D hD => by simp at hD⟩, hs.base, hs.rnd, hs.old, ⟨fun k o h => ?_, hs.hp.inj, h3, h2, hs.hp.hlt, h4, hs.hp.how⟩, fun t av h => ?_⟩
  · exact (hs.hp.obs k o h).mono h1 (fun _ _ _ => rfl) (Nat.le_refl _) rfl (fun _ _ _ => rfl) (fun J _ => ⟨rfl, fun _ _ => rfl, rfl, rfl, rfl, CSh.same fun _ _ => rfl⟩) fun r _ => hsh r
  · obtain ⟨v, hv, hr⟩ := hs.env t av h
    exact ⟨v, hv, hr.mono h1 (fun _ _ _ => rfl) (Nat.le_refl _) fun r _ => hsh r⟩
def jumpQ (Q : PQ) : Code → Env → Objs → Prop
  | .ret, E, O => Q .ret E O
  | .exit j, E, O => Q (.exit j) E O
  | .goto j, E, O => Q (.goto j) E O
  | _, _, _ => False
def roundQ (fz : List Nat) (Q : PQ) (I : Env → Objs → Prop) : PQ
  | .normal, E, O => I E O
  | .ret, E, O => ∃ l lo, AllIn E l ∧ AllInO O lo ∧ (∀ p, p ∈ l → memB p.1 fz = true) ∧ Q .ret (envL l) (objL lo)
  | .exit j, E, O => ∃ l lo, AllIn E l ∧ AllInO O lo ∧ (∀ p, p ∈ l → memB p.1 fz = true) ∧ Q (.exit j) (envL l) (objL lo)
  | .goto j, E, O => ∃ l lo, AllIn E l ∧ AllInO O lo ∧ (∀ p, p ∈ l → memB p.1 fz = true) ∧ Q (.goto j) (envL l) (objL lo)
  | _, _, _ => False
def envP : List Tmp → List A1 → Env
  | t :: ts, x :: xs => .s t (some (.o x)) :: envP ts xs
  | _, _ => []
theorem envL_get : ∀ {l : List (Nat × AV)} {t : Nat} {av : AV}, (envL l).get t = some av → ∃ p, p ∈ l ∧ p.1 = t
  | [], _, _, h => by simp [envL, Env.get] at h
  | (t', a) :: l, t, av, h => by
    simp only [envL, Env.get] at h
    cases hb : Nat.beq t' t with
    | true => exact ⟨(t', a), by simp, Nat.eq_of_beq_eq_true hb⟩
    | false => rw [hb] at h; obtain ⟨p, h1, h2⟩ := envL_get h; exact ⟨p, List.mem_cons_of_mem _ h1, h2⟩
theorem envP_app : ∀ {ps : List Tmp} {xs : List A1} {E : Env} {t : Nat} {av : AV}, Env.get (envP ps xs ++ E) t = some av → (envP ps xs).get t = some av ∨ E.get t = some av
  | [], _, _, _, _, h => .inr (by simpa [envP] using h)
  | _ :: _, [], _, _, _, h => .inr (by simpa [envP] using h)
  | t' :: ts, x :: xs, E, t, av, h => by
    simp only [envP, List.cons_append, Env.get] at h ⊢
    cases hb : Nat.beq t' t with
    | true => rw [hb] at h; exact .inl h
    | false => rw [hb] at h; exact envP_app h
def layP : List Tmp → List Value → Array Value → Array Value
  | t :: ts, v :: vs, a => layP ts vs (a.setIfInBounds t v)
  | _, _, a => a
theorem layP_zip : ∀ (ps : List Tmp) (vs : List Value) (a : Array Value), ((ps.toArray.zip vs.toArray).foldl (fun tmps (x : Tmp × Value) => tmps.setIfInBounds x.1 x.2) a) = layP ps vs a := by
  intro ps vs a
  rw [← Array.foldl_toList]
  have : (ps.toArray.zip vs.toArray).toList = ps.zip vs := by simp
  rw [this]
  induction ps generalizing vs a with
  | nil => simp [layP]
  | cons t ts ih =>
    cases vs with
    | nil => simp [layP]
    | cons v vs => simp only [List.zip_cons_cons, List.foldl_cons, layP]; exact ih vs _ (by simp)
theorem layP_size : ∀ (ps : List Tmp) (vs : List Value) (a : Array Value), (layP ps vs a).size = a.size
  | [], _, _ => rfl
  | _ :: _, [], _ => rfl
  | t :: ts, v :: vs, a => by rw [layP, layP_size ts vs]; simp
theorem layP_other : ∀ {ps : List Tmp} {vs : List Value} {a : Array Value} {t : Nat}, t ∉ ps → (layP ps vs a)[t]? = a[t]?
  | [], _, _, _, _ => rfl
  | _ :: _, [], _, _, _ => rfl
  | t' :: ts, v :: vs, a, t, h => by
    simp only [List.mem_cons, not_or] at h
    rw [layP, layP_other h.2, Array.getElem?_setIfInBounds_ne (fun e => h.1 e.symm)]
theorem layP_env {K : Km} {ok : Nat → Prop} {w : World} : ∀ {ps : List Tmp} {xs : List A1} {vs : List Value} {a : Array Value} {t : Nat} {av : AV}, ps.Nodup → (∀ p, p ∈ ps → p < a.size) → RelAs K ok w xs vs → (envP ps xs).get t = some av → ∃ v, (layP ps vs a)[t]? = some v ∧ RelV K ok w av v
  | [], _, _, _, _, _, _, _, _, h => by simp [envP, Env.get] at h
  | _ :: _, [], _, _, _, _, _, _, _, h => by simp [envP, Env.get] at h
  | t' :: ts, x :: xs, vs, a, t, av, hn, hp, hr, h => by
    obtain ⟨v, us, rfl, hx, hxs⟩ := hr.head
    simp only [List.nodup_cons] at hn
    simp only [envP, Env.get] at h
    cases hb : Nat.beq t' t with
    | true =>
      rw [hb] at h
      cases h
      have e := Nat.eq_of_beq_eq_true hb
      subst e
      refine ⟨v, ?_, .o hx⟩
      rw [layP, layP_other hn.1]
      simp [hp t' (by simp)]
    | false =>
      rw [hb] at h
      exact layP_env (ps := ts) (xs := xs) hn.2 (fun p hp' => by simpa using hp p (List.mem_cons_of_mem _ hp')) hxs h
section
variable {P : Program} {T : Ty} {N : Nx} {E : Env} {O : Objs}
structure RngI (X : Cx) (K0 : Km) (ok0 : Nat → Prop) (w0 : World) (O0 : Objs) (l : Nat) (rec : Loop) (Ds : List Nat) (tmps : Array Value) (E : Env) (O : Objs) (ok F : Nat → Prop) (W : World) (K : Km) (okc : Nat → Prop) : Prop where
  sim : Sim X K okc W E O { tmps := tmps, defers := [] }
  fr : Fr K0 ok0 w0 O0 K okc W O
  rec_ : W.heap[l]? = some (.loop rec)
  new : w0.heap.size ≤ l
  free : Free K okc l
  ds : ∀ D, D ∈ Ds → W.heap[D]? = some (.deferred (some [])) ∧ w0.heap.size ≤ D ∧ Free K okc D ∧ F D
  okF : ∀ b, okc b → ok b ∨ F b
  own : ∀ k o b L, O.get k = some o → K k = some (b, L) → F b
  hid : ∀ b, K.hid b → F b
  lF : F l
  old : ∀ b, b < w0.heap.size → ok0 b ∨ F b ∨ ∃ k o L, O0.get k = some o ∧ K0 k = some (b, L)
  up : ∀ b, ok0 b → ok b
theorem RngI.stable {X : Cx} {K0 : Km} {ok0 : Nat → Prop} {w0 : World} {O0 : Objs} {l : Nat} {rec : Loop} {Ds : List Nat} {tmps : Array Value} {E : Env} {O : Objs} {ok F ok1 : Nat → Prop} {W W1 : World} {K : Km} {okc : Nat → Prop}
    (h : RngI X K0 ok0 w0 O0 l rec Ds tmps E O ok F W K okc) (h1 : ∀ b, ok b → ok1 b) (h2 : ∀ b, ok b → b < W.heap.size → W1.heap[b]? = W.heap[b]?) (h3 : ∀ b, F b → W1.heap[b]? = W.heap[b]?) (h4 : W.heap.size ≤ W1.heap.size)
    (h5 : W1.os = W.os) (h6 : W1.tape = W.tape) (h7 : W1.output = W.output) (h8 : CSh W W1) (hX : X.R = some l) (hp0 : Hp K0 ok0 w0 O0) : RngI X K0 ok0 w0 O0 l rec Ds tmps E O ok1 F W1 K okc := by
  have hokc : ∀ b, okc b → W1.heap[b]? = W.heap[b]? := fun b hb => by
    rcases h.okF b hb with g | g
    · exact h2 b g (h.sim.hp.lt b hb)
    · exact h3 b g
  have hold : ∀ b, b < w0.heap.size → W1.heap[b]? = W.heap[b]? ∨ ∃ k o L, O0.get k = some o ∧ K0 k = some (b, L) := fun b hb => by
    rcases h.old b hb with g | g | g
    · exact .inl (h2 b (h.up b g) (Nat.lt_of_lt_of_le hb h.fr.size))
    · exact .inl (h3 b g)
    · exact .inr g
  refine ⟨h.sim.free h4 (fun b hb => ?_) (fun b hb => by simp at hb) (fun b r hR hb => ?_) h8 ⟨h5, h6, h7⟩, ⟨Nat.le_trans h.fr.size h4, fun b hb g1 g2 => ((hold b hb).resolve_right fun ⟨k, o, L, e1, e2⟩ => g1 k o L e1 e2).trans (h.fr.keep b hb g1 g2), h.fr.okUp, h.fr.okNew, h.fr.own, h5.trans h.fr.os, h6.trans h.fr.tape, h7.trans h.fr.output, fun b o hb => ?_, h.fr.pin, h.fr.hid⟩,
    (h3 l h.lF).trans h.rec_, h.new, h.free, fun D hD => ?_, fun b hb => (h.okF b hb).imp_left (h1 b), h.own, h.hid, h.lF, h.old, fun b hb => h1 b (h.up b hb)⟩
  · rcases hb with g | g | ⟨k, o, L, g1, g2⟩
    · exact hokc b g
    · exact h3 b (h.hid b g)
    · exact h3 b (h.own k o b L g1 g2)
  · rw [hX] at hR
    cases hR
    exact ⟨rec, (h3 l h.lF).trans h.rec_⟩
  · obtain ⟨o', g1, g2⟩ := h.fr.kind b o hb
    rcases hold b (Array.getElem?_eq_some_iff.1 hb).1 with e | ⟨k, p, L, e1, e2⟩
    · exact ⟨o', e.trans g1, g2⟩
    · have hlt : b < W1.heap.size := Nat.lt_of_lt_of_le (Array.getElem?_eq_some_iff.1 g1).1 h4
      rcases own_obj hp0 e1 e2 with ⟨cs, ty, fr, c1⟩ | ⟨es, cl, c1⟩
      · rw [hb] at c1
        cases c1
        obtain ⟨cs', ty', fr', rfl, c2⟩ := g2
        obtain ⟨cs2, ty2, fr2, c3, c4⟩ := h8 b _ _ _ g1
        exact ⟨_, c3, cs2, ty2, fr2, rfl, c4.trans c2⟩
      · rw [hb] at c1
        cases c1
        exact ⟨W1.heap[b], Array.getElem?_eq_getElem hlt, trivial⟩
  · obtain ⟨g1, g2, g3, g4⟩ := h.ds D hD
    exact ⟨(h3 D g4).trans g1, g2, g3, g4⟩
theorem RngI.join {X : Cx} {K0 : Km} {ok0 : Nat → Prop} {w0 : World} {O0 : Objs} {l : Nat} {rec : Loop} {Ds : List Nat} {tmps : Array Value} {E : Env} {O : Objs} {ok F : Nat → Prop} {W : World} {K : Km} {okc : Nat → Prop}
    (h : RngI X K0 ok0 w0 O0 l rec Ds tmps E O ok F W K okc) {K' : Km} {J : St} {OE : Objs} {kp : List Nat} (hF : K'.hid = F) (hp : Hp K' ok W ((2000000, some (.abs J)) :: OE)) (hk : ∀ q, q ∈ kp → q ≠ 2000000 ∧ K q = K' q ∧ K q = K0 q ∧ ∃ o, O0.get q = some o)
    (hn : (OE.map (·.1)).Nodup) (ha : noAbs OE = true) : Sim X K (fun b => okc b ∨ ok b) W E (outL (kp.map fun q => (q, q)) OE ++ O) { tmps := tmps, defers := [] } ∧ Fr K0 ok0 w0 O0 K (fun b => okc b ∨ ok b) W (outL (kp.map fun q => (q, q)) OE ++ O) := by
  subst hF
  have hlk : ∀ q r, lk (kp.map fun q => (q, q)) q = some r → r = q ∧ q ∈ kp := fun q r e => by
    obtain ⟨a, h1, h2⟩ := List.mem_map.1 (lk_mem e)
    cases h2
    exact ⟨rfl, h1⟩
  have hE : ∀ q o, OE.get q = some o → q ≠ 2000000 → Objs.get ((2000000, some (.abs J)) :: OE) q = some o := fun q o e hq => by
    simp only [Objs.get]
    cases hb : Nat.beq 2000000 q with
    | true => exact absurd (Nat.eq_of_beq_eq_true hb).symm hq
    | false => exact e
  have hobj : ∀ r ob, (outL (kp.map fun q => (q, q)) OE ++ O).get r = some ob → (∃ o, r ∈ kp ∧ Objs.get ((2000000, some (.abs J)) :: OE) r = some o ∧ OE.get r = some o ∧ ob = renOb (kp.map fun q => (q, q)) o) ∨ O.get r = some ob := fun r ob e => by
    rcases outL_get e with ⟨q, o, h1, h2, h3⟩ | ⟨_, h2⟩
    · obtain ⟨rfl, h4⟩ := hlk q r h2
      have h5 := get_of_mem hn h1
      exact .inl ⟨o, h4, hE _ o h5 (hk _ h4).1, h5, h3⟩
    · exact .inr h2
  have nF : ∀ r o b L, r ∈ kp → Objs.get ((2000000, some (.abs J)) :: OE) r = some o → K r = some (b, L) → ¬ K'.hid b ∧ ¬ ok b ∧ ¬ okc b := fun r o b L h1 h2 h3 => by
    rw [(hk r h1).2.1] at h3
    have a1 := hp.how r o b L h2 h3
    have a2 := hp.apart r o b L h2 h3
    exact ⟨a1, a2, fun h4 => (h.okF b h4).elim a2 a1⟩
  have s : Sim X K (fun b => okc b ∨ ok b) W E O { tmps := tmps, defers := [] } :=
    h.sim.okUp (fun b h => .inl h) (fun b e => e.elim (h.sim.hp.lt b) (hp.lt b)) (fun k o b L h1 h2 e => e.elim (h.sim.hp.apart k o b L h1 h2) (hp.hok b (h.own k o b L h1 h2))) (fun b h1 e => e.elim (h.sim.hp.hok b h1) (hp.hok b (h.hid b h1))) rfl
  refine ⟨⟨s.size, s.defers, s.base, s.rnd, s.old, ⟨fun r ob e => ?_, fun r r' ob ob' b L L' g1 g2 e1 e2 => ?_, fun r ob b L g e => ?_, s.hp.lt, s.hp.hlt, s.hp.hok, fun r ob b L g e hh => ?_⟩, s.env⟩, ⟨h.fr.size, h.fr.keep, fun b hb => .inl (h.fr.okUp b hb), fun b e => ?_, fun r ob b L g e => ?_, h.fr.os, h.fr.tape, h.fr.output, h.fr.kind, h.fr.pin, h.fr.hid⟩⟩
  · rcases hobj r ob e with ⟨o, h1, h2, h3, rfl⟩ | h1
    · refine ((hp.obs r o h2).ren (K' := K) (fun k q e => ?_) (hk r h1).2.1 (fun J hJ => ?_)).mono (fun b h => .inr h) (fun _ _ _ => rfl) (Nat.le_refl _) rfl (fun _ _ _ => rfl) (fun J _ => ⟨rfl, fun _ _ => rfl, rfl, rfl, rfl, CSh.same fun _ _ => rfl⟩) (fun r _ => Shp.refl _ _ _)
      · obtain ⟨rfl, h4⟩ := hlk k q e
        exact (hk _ h4).2.1
      · subst hJ; exact absurd h3 (noAbs_get ha)
    · exact s.hp.obs r ob h1
  · rcases hobj r ob g1 with ⟨o, h1, h2, h3, _⟩ | h1
    · rcases hobj r' ob' g2 with ⟨o', h1', h2', h3', _⟩ | h1'
      · rw [(hk r h1).2.1] at e1
        rw [(hk r' h1').2.1] at e2
        exact hp.inj r r' o o' b L L' h2 h2' e1 e2
      · exact absurd (h.own r' ob' b L' h1' e2) (nF r o b L h1 h2 e1).1
    · rcases hobj r' ob' g2 with ⟨o', h1', h2', h3', _⟩ | h1'
      · exact absurd (h.own r ob b L h1 e1) (nF r' o' b L' h1' h2' e2).1
      · exact s.hp.inj r r' ob ob' b L L' h1 h1' e1 e2
  · rcases hobj r ob g with ⟨o, h1, h2, h3, _⟩ | h1
    · have := nF r o b L h1 h2 e
      exact fun e => e.elim this.2.2 this.2.1
    · exact s.hp.apart r ob b L h1 e
  · rcases hobj r ob g with ⟨o, h1, h2, h3, _⟩ | h1
    · exact (nF r o b L h1 h2 e).1 (h.hid b hh)
    · exact s.hp.how r ob b L h1 e hh
  · rcases e with e | e
    · exact h.fr.okNew b e
    · rcases Nat.lt_or_ge b w0.heap.size with hb | hb
      · rcases h.old b hb with g | g | g
        · exact .inl g
        · exact absurd e (hp.hok b g)
        · exact .inr (.inr g)
      · exact .inr (.inl hb)
  · rcases hobj r ob g with ⟨o, h1, h2, h3, _⟩ | h1
    · obtain ⟨_, _, a3, o0, a4⟩ := hk r h1
      exact .inr ⟨r, o0, L, a4, a3 ▸ e⟩
    · exact h.fr.own r ob b L h1 e
theorem fn_val {N : Cx} {K : Km} {ok : Nat → Prop} {w : World} {a : Act} (hs : Sim N K ok w E O a) {x : Operand} {f : FuncId} {caps : List PC} (hlt : Nat.blt f 1000000 = true) (hx : E.ev x = some (.c (.fn f caps))) : ∃ lb : List Value, a.eval x = .func (.func f) #[] lb.toArray ∧ RelAs K ok w (caps.map .c) lb := by
  have hfv := (hs.ev hx).one
  generalize hev : a.eval x = v at hfv
  suffices h : ∃ lb : List Value, v = .func (.func (fnF f)) (fnL f lb) (fnR f lb) ∧ RelAs K ok w (caps.map .c) lb by
    obtain ⟨lb, h1, h2⟩ := h
    exact ⟨lb, by rw [h1, fnF_lt hlt, fnL_lt hlt, fnR_lt hlt], h2⟩
  cases hfv with
  | cl h =>
    cases h with
    | fn gg hg =>
      refine ⟨_, rfl, ⟨by simp, fun i x hx => ?_⟩⟩
      simp only [List.getElem?_map, Option.map_eq_some_iff] at hx
      obtain ⟨y, hy, rfl⟩ := hx
      have hlt : i < caps.length := (List.getElem?_eq_some_iff.1 hy).1
      exact ⟨gg i, by simp [hlt], .c (.cl (hg i y hy))⟩
  | fn gg hg =>
    refine ⟨_, rfl, ⟨by simp, fun i x hx => ?_⟩⟩
    simp only [List.getElem?_map, Option.map_eq_some_iff] at hx
    obtain ⟨y, hy, rfl⟩ := hx
    have hlt : i < caps.length := (List.getElem?_eq_some_iff.1 hy).1
    exact ⟨gg i, by simp [hlt], .c (hg i y hy)⟩
theorem closedAs_caps : ∀ {caps : List PC}, closedL caps = true → closedAs (caps.map A1.c) = true
  | [], _ => rfl
  | x :: l, h => by
    simp only [closedL, Bool.and_eq_true] at h
    simp only [List.map_cons, closedAs, Bool.and_eq_true]
    exact ⟨h.1, closedAs_caps h.2⟩
def lentQ (kp : List Nat) (OE : Objs) (Q : PQ) : PQ := fun e E O => Q e E (outL (kp.map fun q => (q, q)) OE ++ O)
theorem W.rangeO (hT : T.ok P) (hm : P.follows .mixedOrders = true) {g : Operand} {ps : List Tmp} {assign body : Code} {Q : PQ} {f : FuncId} {fn : Func} {c0 : Code} {caps : List PC} {items : List (List A1)}
    {σ : List (Nat × Nat)} {OE : Objs} {kp : List Nat} (hg : E.ev g = some (.c (.fn f caps))) (hf : P.funcs[f]? = some fn) (hb : fn.body = some c0) (hnm : (fn.name == "runtime.NumGoroutine") = false) (hit : CtIO P f (takeO σ O σ) ((caps.map .c).map (renA σ)) items OE)
    (hσi : okIn σ = true) (hσ0 : (σ.all fun p => !(Nat.beq p.2 2000000)) = true) (hσa : hasAbs σ O = false) (hkp : (kp.all fun q => eqO (lk σ q) q && isSm (O.get q)) = true) (hOE : (nodB (OE.map (·.1)) && noAbs OE) = true)
    (hlen : ∀ args, args ∈ items → args.length = ps.length ∧ closedAs args = true) (fz : List Nat) (hps : (nodB ps && ps.all fun t => Nat.blt t N.n && !(memB t fz)) = true)
    {G : Type} (inv : Nat → G → Prop) (sE : Nat → G → List (Nat × AV)) (sO : Nat → G → List (Nat × Ob)) (g0 : G) (h0 : inv 0 g0) (hE : AllIn E (sE 0 g0)) (hO : AllInO (O.delL (σ.map (·.1))) (sO 0 g0)) (hfz : ∀ i g p, p ∈ sE i g → memB p.1 fz = true)
    (round : ∀ i g args, items[i]? = some args → inv i g → codeS P T ⟨N.n, fz⟩ assign (envP ps args ++ envL (sE i g)) (objL (sO i g)) (thenQ (fun E1 O1 => codeS P T ⟨N.n, fz⟩ body E1 O1 (roundQ fz (lentQ kp OE Q) (fun E' O' => ∃ g', inv (i + 1) g' ∧ AllIn E' (sE (i + 1) g') ∧ AllInO O' (sO (i + 1) g')))) (fun _ _ _ => False)))
    (after : ∀ g, inv items.length g → lentQ kp OE Q .normal (envL (sE items.length g)) (objL (sO items.length g))) (hlt : Nat.blt f 1000000 = true := by rfl) : W P N E O (.rangeFunc g ps.toArray assign body) Q := by
  intro R B old K ok w a hs
  simp only [Bool.and_eq_true, List.all_eq_true, Bool.not_eq_true'] at hps
  have hpn := nodB_spec hps.1
  have hpl : ∀ t, t ∈ ps → t < a.tmps.size := fun t ht => by
    rw [hs.size]
    exact Nat.lt_of_lt_of_le (Nat.lt_succ_self _) (Nat.le_of_ble_eq_true (hps.2 t ht).1)
  have hpf : ∀ t, memB t fz = true → t ∉ ps := fun t ht hin => by have := (hps.2 t hin).2; rw [ht] at this; cases this
  obtain ⟨lb, hgv, hlb⟩ := fn_val hs hlt hg
  refine wpIn_rangeFunc ?_
  intro fnid _
  have main : ∀ (l : Nat) (Ds : List Nat) (W1 : World) (dd : Nat), (Instr.enterLoop fnid a.tmps ps.toArray assign body R).run P w = .ok (l, Ds.map mark) W1 →
      W1.heap[l]? = some (.loop { state := .ready, pending := none, fn := fnid, tmps := a.tmps, params := ps.toArray, assign := assign, body := body, defers := dd }) → Ds.Nodup → (∀ D, D ∈ Ds → W1.heap[D]? = some (.deferred (some [])) ∧ w.heap.size ≤ D) →
      w.heap.size ≤ l → (∀ b, b < w.heap.size → W1.heap[b]? = w.heap[b]?) → w.heap.size ≤ W1.heap.size → W1.os = w.os → W1.tape = w.tape → W1.output = w.output →
      ∃ (l : Nat) (mk : List Deferred) (w₁ : World) (d : Deferred) (w₁' : World) (f : FuncId) (args : Array Value) (w₂ : World), (Instr.enterLoop fnid a.tmps ps.toArray assign body (FR R).round).run P w = .ok (l, mk) w₁ ∧ (resolve a.eval (rangeCall g l) 0).run P w₁ = .ok d w₁' ∧
        (∀ f', Target.leads P w₁' d.target d.args = some f' → (FR R).fn f') ∧ (invoke d.target d.args).run P w₁' = .ok (.enter f args) w₂ ∧ ((FR R).depth.isSome = true → 1 ≤ 0) ∧
        CallsIn (FR R) (0 - 1) P f args w₂ (rangePost (FR R) 0 P l (Post ⟨N, R, B, old⟩ K ok w O Q) { a with defers := mk ++ a.defers }) := by
    intro l Ds W1 dd he hl hnd hDs hlw hsame hsz z1 z2 z3
    obtain ⟨rec, hrec⟩ : ∃ rec : LoopState → Option Code → Loop, rec = fun st pe => { state := st, pending := pe, fn := fnid, tmps := a.tmps, params := ps.toArray, assign := assign, body := body, defers := dd } := ⟨_, rfl⟩
    have hl1 : W1.heap[l]? = some (.loop (rec .ready none)) := by rw [hrec]; exact hl
    let X1 : Cx := ⟨⟨N.n, fz⟩, some l, 0, a.tmps⟩
    let lent : Nat → Prop := fun b => ∃ k q o L, (k, q) ∈ σ ∧ O.get k = some o ∧ K k = some (b, L)
    let F0 : Nat → Prop := fun b => b < W1.heap.size ∧ ¬ ok b ∧ ¬ lent b
    let yv : Value := .func (.yield l) #[] #[]
    let I : Nat → St := fun i ok' F W => ∃ (g : G) (K' : Km) (okc : Nat → Prop), inv i g ∧ RngI X1 K ok w O l (rec .ready none) Ds a.tmps (envL (sE i g)) (objL (sO i g)) ok' F W K' okc
    let Xs : St := fun ok' F W => ∃ (c : Code) (lE : List (Nat × AV)) (lO : List (Nat × Ob)) (K' : Km) (okc : Nat → Prop), jumpQ (lentQ kp OE Q) c (envL lE) (objL lO) ∧ RngI X1 K ok w O l (rec .done (some c)) Ds a.tmps (envL lE) (objL lO) ok' F W K' okc
    have hlt1 := (Array.getElem?_eq_some_iff.1 hl1).1
    -- the state when the loop is entered
    have hp1 : Hp K ok W1 O := hs.hp.over hsz hsame (fun _ h => h) (fun _ h => .inl h) (fun b h => Nat.lt_of_lt_of_le (hs.hp.lt b h) hsz) ⟨z1, z2, z3⟩
    have hfr1 : Fr K ok w O K ok W1 O := ⟨hsz, fun b hb _ _ => hsame b hb, fun _ h => h, fun _ h => .inl h, fun k o b L h1 h2 => .inr ⟨k, o, L, h1, h2⟩, z1, z2, z3, kind_same hsame, fun _ _ => rfl, fun _ h => .inl h⟩
    have hsh : ∀ r, Shp K K w W1 r := fun r => ⟨rfl, fun b _ _ cs e fr h => CSh.same hsame b cs e fr h⟩
    have hsubD : SubO (objL (sO 0 g0)) (O.delL (σ.map (·.1))) := SubO.of hO
    have hsub : SubO (objL (sO 0 g0)) O := fun k o h => (Objs.delL_get (hsubD k o h)).2
    have lent_lt : ∀ b, lent b → b < w.heap.size := fun b ⟨k, q, o, L, _, e2, e3⟩ => own_lt hs.hp e2 e3
    have hI0 : I 0 ok F0 W1 := by
      refine ⟨g0, K, ok, h0, ⟨⟨hs.size, ⟨[], rfl, List.nodup_nil, fun D hD => by simp at hD⟩, Nat.zero_le _, fun l' hl' => ?_, fun t _ => rfl, hp1.sub hsub, fun t av h => ?_⟩, hfr1.trans (Fr.weak hsub), hl1, hlw, ⟨fun h => ?_, fun h => ?_⟩, fun D hD => ⟨(hDs D hD).1, (hDs D hD).2, ⟨fun h => ?_, fun h => ?_⟩, (Array.getElem?_eq_some_iff.1 (hDs D hD).1).1, fun h => ?_, fun h => ?_⟩,
        fun b h => .inl h, fun k o b L h1 h2 => ⟨own_lt hp1 (hsub _ _ h1) h2, hs.hp.apart k o b L (hsub _ _ h1) h2, fun ⟨k', q, o', L', e1, e2, e3⟩ => (Objs.delL_get (hsubD _ _ h1)).1 (by have := hs.hp.inj k' k o' o b L' L e2 (hsub _ _ h1) e3 h2; rw [← this]; exact List.mem_map.2 ⟨_, e1, rfl⟩)⟩,
        fun b h => ⟨hp1.hlt b h, hs.hp.hok b h, fun ⟨k', q, o', L', e1, e2, e3⟩ => hs.hp.how k' o' b L' e2 e3 h⟩, ⟨hlt1, fun h => ?_, fun h => ?_⟩, fun b h => ?_, fun _ h => h⟩⟩
      · cases hl'; exact ⟨_, hl1⟩
      · obtain ⟨v, hv, hr⟩ := hs.env t av (Sub.of hE t av h)
        exact ⟨v, hv, hr.mono (fun _ h => h) (fun b _ hb => hsame b hb) hsz fun r _ => hsh r⟩
      · have := hs.hp.lt l h; omega
      · have := hs.hp.hlt l h; omega
      · have := hs.hp.lt D h; have := (hDs D hD).2; omega
      · have := hs.hp.hlt D h; have := (hDs D hD).2; omega
      · have := hs.hp.lt D h; have := (hDs D hD).2; omega
      · have := lent_lt D h; have := (hDs D hD).2; omega
      · have := hs.hp.lt l h; omega
      · have := lent_lt l h; omega
      · by_cases hb : ok b
        · exact .inl hb
        · by_cases hl : lent b
          · obtain ⟨k', q, o', L', e1, e2, e3⟩ := hl
            exact .inr (.inr ⟨k', o', L', e2, e3⟩)
          · exact .inr (.inl ⟨Nat.lt_of_lt_of_le h hsz, hb, hl⟩)
    have hY : Yields P yv items I Xs := by
      refine ⟨fun i ok' ok1 F W W1 h h1 h2 h3 h4 h5 h6 h7 h8 => ?_, fun ok' ok1 F W W1 h h1 h2 h3 h4 h5 h6 h7 h8 => ?_, ?_⟩
      · obtain ⟨g, K', okc, a1, a2⟩ := h
        exact ⟨g, K', okc, a1, a2.stable h1 h2 h3 h4 h5 h6 h7 h8 rfl hs.hp⟩
      · obtain ⟨c, lE, lO, K', okc, a1, a2⟩ := h
        exact ⟨c, lE, lO, K', okc, a1, a2.stable h1 h2 h3 h4 h5 h6 h7 h8 rfl hs.hp⟩
      · intro i args hi ok' F W Ki vs hI hok hFok hFlt hrel
        obtain ⟨g, K', okc, hinv, hr⟩ := hI
        obtain ⟨hal, hac⟩ := hlen args (List.mem_of_getElem? hi)
        have hrel' : RelAs K' ok' W args vs := hrel.reK hac
        have hvl : vs.length = ps.length := by rw [hrel.len, hal]
        refine ⟨l, fnid, layP ps vs a.tmps, assign, body, rfl, ?_, ?_⟩
        · have := run_yield (P := P) (args := vs.toArray) hr.rec_ (by rw [hrec]; simpa using hvl)
          rw [hrec] at this
          rw [this, ← layP_zip]
        -- the round's state
        have hokm : ∀ k o b L, (objL (sO i g)).get k = some o → K' k = some (b, L) → ¬ (okc b ∨ ok' b) := fun k o b L h1 h2 h => by
          rcases h with h | h
          · exact hr.sim.hp.apart k o b L h1 h2 h
          · exact hFok b (hr.own k o b L h1 h2) h
        have hsm : Sim X1 K' (fun b => okc b ∨ ok' b) W (envL (sE i g)) (objL (sO i g)) { tmps := a.tmps, defers := [] } :=
          hr.sim.okUp (fun b h => .inl h) (fun b h => h.elim (hr.sim.hp.lt b) (hok b)) hokm (fun b h h' => h'.elim (hr.sim.hp.hok b h) (hFok b (hr.hid b h))) rfl
        have hsr : Sim X1 K' (fun b => okc b ∨ ok' b) W (envP ps args ++ envL (sE i g)) (objL (sO i g)) { tmps := layP ps vs a.tmps, defers := [] } := by
          refine ⟨by show (layP ps vs a.tmps).size = _; rw [layP_size]; exact hsm.size, ⟨[], rfl, List.nodup_nil, fun D hD => by simp at hD⟩, Nat.zero_le _, hsm.rnd, fun t ht => layP_other (hpf t (memB_of ht)), hsm.hp, fun t av h => ?_⟩
          rcases envP_app h with h | h
          · exact layP_env hpn hpl (hrel'.mono (fun b h => .inr h) (fun _ _ _ => rfl) (Nat.le_refl _) fun r _ => Shp.refl _ _ _) h
          · obtain ⟨p, hp, hpt⟩ := envL_get h
            obtain ⟨v, hv, hrv⟩ := hsm.env t av h
            exact ⟨v, (layP_other (hpf t (by rw [← hpt]; exact hfz i g p hp))).trans hv, hrv⟩
        have hfree1 : Free K' (fun b => okc b ∨ ok' b) l := ⟨fun h => h.elim hr.free.1 fun h => hFok l hr.lF h, hr.free.2⟩
        refine roundIn_of_wpIn (F := Fence.wide) trivial (wpIn_mono (codeS_sound hT hm assign _ _ _ (round i g args hi hinv) (some l) 0 a.tmps K' _ W _ hsr) fun e a1 w1 hp => ?_)
        obtain ⟨E1, O1, K1, ok1, hq, hs1, hf1⟩ := hp
        cases e with
        | normal =>
          have hfl := hf1.free (Array.getElem?_eq_some_iff.1 hr.rec_).1 (loop_notOwn hsr.hp hr.rec_) hfree1.1 hfree1.2
          have hl2 : w1.heap[l]? = some (.loop (rec .ready none)) := hfl.1.trans hr.rec_
          refine ⟨_, run_beginRound hl2 (by rw [hrec]), ?_⟩
          have hl3 : (w1.putObj l (.loop { rec .ready none with state := .busy })).heap[l]? = some (.loop { rec .ready none with state := .busy }) := World.putObj_heap_same (Array.getElem?_eq_some_iff.1 hl2).1
          have hs2 := hs1.putLoop hl2 ⟨hfl.2.1, hfl.2.2⟩ { rec .ready none with state := .busy }
          refine wpIn_mono (codeS_sound hT hm body _ _ _ hq (some l) 0 a.tmps K1 ok1 _ a1 hs2) fun e a2 w2 hp => ?_
          obtain ⟨E2, O2, K2, ok2, hq2, hs3, hf2⟩ := hp
          have hfl2 := hf2.free (Array.getElem?_eq_some_iff.1 hl3).1 (loop_notOwn hs2.hp hl3) hfl.2.1 hfl.2.2
          have hl4 : w2.heap[l]? = some (.loop { rec .ready none with state := .busy }) := hfl2.1.trans hl3
          -- what the round has changed
          have hok'0 : ∀ b, ok' b → ok b ∨ w.heap.size ≤ b ∨ ∃ k o L, O.get k = some o ∧ K k = some (b, L) := fun b h => by
            rcases Nat.lt_or_ge b w.heap.size with hb | hb
            · rcases hr.old b hb with g | g | g
              · exact .inl g
              · exact absurd h (hFok b g)
              · exact .inr (.inr g)
            · exact .inr (.inl hb)
          have fin : ∀ (jump : Option Code) (lE : List (Nat × AV)) (lO : List (Nat × Ob)), AllIn E2 lE → AllInO O2 lO → (∀ p, p ∈ lE → memB p.1 fz = true) →
              ∃ v w', (Instr.endRound l jump).run P w2 = .ok v w' ∧ v = .bool jump.isNone ∧ FrY F W (fun b => F b ∨ (W.heap.size ≤ b ∧ b < w'.heap.size)) w' ∧
                RngI X1 K ok w O l (rec (if jump.isNone then .ready else .done) jump) Ds a.tmps (envL lE) (objL lO) ok' (fun b => F b ∨ (W.heap.size ≤ b ∧ b < w'.heap.size)) w' K2 ok2 := by
            intro jump lE lO gE gO gz
            have hsW : W.heap.size ≤ w2.heap.size := Nat.le_trans hf1.size (by have := hf2.size; simpa using this)
            have hend := run_endRound (P := P) jump hl4
            refine ⟨_, _, hend, rfl, ?_⟩
            have hrr : ({ { rec .ready none with state := .busy } with state := if jump.isNone then .ready else .done, pending := jump } : Loop) = rec (if jump.isNone then .ready else .done) jump := by rw [hrec]
            rw [hrr]
            have hlt4 := (Array.getElem?_eq_some_iff.1 hl4).1
            -- blocks that stay
            have ownF : ∀ k o b L, (objL (sO i g)).get k = some o → K' k = some (b, L) → F b := hr.own
            have own1 : ∀ k o b L, O1.get k = some o → K1 k = some (b, L) → W.heap.size ≤ b ∨ F b := fun k o b L h1 h2 => by
              rcases hf1.own k o b L h1 h2 with h | ⟨k0, o0, L0, h3, h4⟩
              · exact .inl h
              · exact .inr (hr.own k0 o0 b L0 h3 h4)
            have hid1 : ∀ b, K1.hid b → F b ∨ W.heap.size ≤ b := fun b h => (hf1.hid b h).imp_left (hr.hid b)
            have ok1F : ∀ b, ok1 b → ok' b ∨ F b ∨ W.heap.size ≤ b := fun b h => by
              rcases hf1.okNew b h with (h | h) | h | ⟨k, o, L, h1, h2⟩
              · exact (hr.okF b h).imp_right .inl
              · exact .inl h
              · exact .inr (.inr h)
              · exact .inr (.inl (hr.own k o b L h1 h2))
            have own2 : ∀ k o b L, O2.get k = some o → K2 k = some (b, L) → F b ∨ W.heap.size ≤ b := fun k o b L h1 h2 => by
              rcases hf2.own k o b L h1 h2 with h | ⟨k0, o0, L0, h3, h4⟩
              · exact .inr (Nat.le_trans hf1.size (by simpa using h))
              · exact (own1 k0 o0 b L0 h3 h4).symm
            have hid2 : ∀ b, K2.hid b → F b ∨ W.heap.size ≤ b := fun b h => by
              rcases hf2.hid b h with h | h
              · exact hid1 b h
              · exact .inr (Nat.le_trans hf1.size (by simpa using h))
            have ok2F : ∀ b, ok2 b → ok' b ∨ F b ∨ W.heap.size ≤ b := fun b h => by
              rcases hf2.okNew b h with h | h | ⟨k, o, L, h1, h2⟩
              · exact ok1F b h
              · exact .inr (.inr (Nat.le_trans hf1.size (by simpa using h)))
              · rcases own1 k o b L h1 h2 with h | h
                · exact .inr (.inr h)
                · exact .inr (.inl h)
            have keep1 : ∀ b, b < W.heap.size → ¬ F b → w1.heap[b]? = W.heap[b]? := fun b hb hF => hf1.keep b hb (fun k o L h1 h2 => hF (hr.own k o b L h1 h2)) fun h => hF (hr.hid b h)
            have keep2 : ∀ b, b < W.heap.size → ¬ F b → w2.heap[b]? = W.heap[b]? := fun b hb hF => by
              have hbl : b ≠ l := fun e => hF (by rw [e]; exact hr.lF)
              rw [hf2.keep b (by have := hf1.size; simp; omega) (fun k o L h1 h2 => ?_) (fun h => ?_), World.putObj_heap_other hbl, keep1 b hb hF]
              · rcases own1 k o b L h1 h2 with h | h
                · omega
                · exact hF h
              · rcases hid1 b h with h | h
                · exact hF h
                · omega
            have kind4 : ∀ (b : Nat) (o : Obj), W.heap[b]? = some o → ∃ o', (w2.putObj l (.loop (rec (if jump.isNone then .ready else .done) jump))).heap[b]? = some o' ∧ SK o o' := fun b o hb => by
              obtain ⟨o1, h1, h2⟩ := hf1.kind b o hb
              obtain ⟨o2, h3, h4⟩ := kind_putLoop (r' := { rec .ready none with state := .busy }) hl2 b o1 h1
              obtain ⟨o3, h5, h6⟩ := hf2.kind b o2 h3
              obtain ⟨o4, h7, h8⟩ := kind_putLoop (r' := rec (if jump.isNone then .ready else .done) jump) hl4 b o3 h5
              exact ⟨o4, h7, h2.trans (h4.trans (h6.trans h8))⟩
            refine ⟨⟨by simpa using hsW, fun b hb hF => ?_, fun b h => h.imp_right (·.1), fun b h => ?_, hf2.os.trans hf1.os, hf2.tape.trans hf1.tape, hf2.output.trans hf1.output, kind4⟩, ?_⟩
            · rw [World.putObj_heap_other (fun e => hF (by rw [e]; exact hr.lF))]; exact keep2 b hb hF
            · rcases h with h | h
              · exact Nat.lt_of_lt_of_le (hFlt b h) (by simpa using hsW)
              · exact h.2
            have hs4 := (hs3.weak (Sub.of gE) (SubO.of gO)).putLoop hl4 ⟨hfl2.2.1, hfl2.2.2⟩ (rec (if jump.isNone then .ready else .done) jump)
            have hnewF : ∀ b, F b ∨ W.heap.size ≤ b → b < w2.heap.size → F b ∨ (W.heap.size ≤ b ∧ b < (w2.putObj l (.loop (rec (if jump.isNone then .ready else .done) jump))).heap.size) := fun b h hlt => h.imp_right fun h => ⟨h, by simpa using hlt⟩
            refine ⟨⟨hs3.size.symm ▸ hs.size, ⟨[], rfl, List.nodup_nil, fun D hD => by simp at hD⟩, Nat.zero_le _, hs4.rnd, fun t _ => rfl, hs4.hp, fun t av h => ?_⟩, ?_, World.putObj_heap_same hlt4, hr.new, ⟨hfl2.2.1, hfl2.2.2⟩, fun D hD => ?_, fun b h => ?_, fun k o b L h1 h2 => ?_, fun b h => ?_, .inl hr.lF, fun b h => (hr.old b h).imp_right (Or.imp_left .inl), hr.up⟩
            · -- slots that the loop began with
              obtain ⟨v, hv, hrv⟩ := hs4.env t av h
              obtain ⟨p, hp, hpt⟩ := envL_get h
              have hz := gz p hp
              have h1 := hs3.old t (memB_mem (by rw [← hpt]; exact hz))
              exact ⟨v, by rw [← h1]; exact hv, hrv⟩
            · -- from the loop's beginning
              have nown1 : ∀ b, (∀ k o L, O.get k = some o → K k ≠ some (b, L)) → b < w.heap.size → ∀ k o L, (objL (sO i g)).get k = some o → K' k ≠ some (b, L) := fun b g1 hb k o L h1 h2 => by
                rcases hr.fr.own k o b L h1 h2 with h | ⟨k0, o0, L0, h3, h4⟩
                · omega
                · exact g1 k0 o0 L0 h3 h4
              have nhid1 : ∀ b, ¬ K.hid b → b < w.heap.size → ¬ K'.hid b := fun b g2 hb h => by
                rcases hr.fr.hid b h with h | h
                · exact g2 h
                · omega
              have hww : w.heap.size ≤ W.heap.size := hr.fr.size
              have hw1 : W.heap.size ≤ w1.heap.size := hf1.size
              have nown2 : ∀ b, (∀ k o L, O.get k = some o → K k ≠ some (b, L)) → b < w.heap.size → ∀ k o L, O1.get k = some o → K1 k ≠ some (b, L) := fun b g1 hb k o L h1 h2 => by
                rcases hf1.own k o b L h1 h2 with h | ⟨k0, o0, L0, h3, h4⟩
                · omega
                · exact nown1 b g1 hb k0 o0 L0 h3 h4
              have nhid2 : ∀ b, ¬ K.hid b → b < w.heap.size → ¬ K1.hid b := fun b g2 hb h => by
                rcases hf1.hid b h with h | h
                · exact nhid1 b g2 hb h
                · omega
              have own0 : ∀ b, (∃ k o L, (objL (sO i g)).get k = some o ∧ K' k = some (b, L)) → w.heap.size ≤ b ∨ ∃ k o L, O.get k = some o ∧ K k = some (b, L) := fun b ⟨k, o, L, h1, h2⟩ => hr.fr.own k o b L h1 h2
              have own01 : ∀ b, (∃ k o L, O1.get k = some o ∧ K1 k = some (b, L)) → w.heap.size ≤ b ∨ ∃ k o L, O.get k = some o ∧ K k = some (b, L) := fun b ⟨k, o, L, h1, h2⟩ => by
                rcases hf1.own k o b L h1 h2 with h | h
                · exact .inl (by omega)
                · exact own0 b h
              refine ⟨Nat.le_trans hr.fr.size (by simpa using hsW), fun b hb g1 g2 => ?_, fun b h => hf2.okUp b (hf1.okUp b (.inl (hr.fr.okUp b h))), fun b h => ?_, fun k o b L g1 g2 => ?_, (hf2.os.trans hf1.os).trans hr.fr.os, (hf2.tape.trans hf1.tape).trans hr.fr.tape, (hf2.output.trans hf1.output).trans hr.fr.output, fun b o hb => ?_, fun r hr' => (hf2.pin r hr').trans ((hf1.pin r hr').trans (hr.fr.pin r hr')), fun b h => ?_⟩
              · have hbl : b ≠ l := by omega
                rw [World.putObj_heap_other hbl, hf2.keep b (by simp; omega) (nown2 b g1 hb) (nhid2 b g2 hb), World.putObj_heap_other hbl, hf1.keep b (by omega) (nown1 b g1 hb) (nhid1 b g2 hb), hr.fr.keep b hb g1 g2]
              · rcases hf2.okNew b h with h | h | h
                · rcases hf1.okNew b h with (h | h) | h | h
                  · exact hr.fr.okNew b h
                  · exact hok'0 b h
                  · exact .inr (.inl (by omega))
                  · exact .inr (own0 b h)
                · exact .inr (.inl (by simp at h; omega))
                · exact .inr (own01 b h)
              · rcases hf2.own k o b L (SubO.of gO k o g1) g2 with h | h
                · exact .inl (by simp at h; omega)
                · exact own01 b h
              · obtain ⟨o1, h1, h2⟩ := hr.fr.kind b o hb
                obtain ⟨o2, h3, h4⟩ := kind4 b o1 h1
                exact ⟨o2, h3, h2.trans h4⟩
              · rcases hf2.hid b h with h | h
                · rcases hf1.hid b h with h | h
                  · exact hr.fr.hid b h
                  · exact .inr (by omega)
                · exact .inr (by simp at h; omega)
            · -- the marks
              obtain ⟨d1, d2, d3, d4⟩ := hr.ds D hD
              have hDl : D ≠ l := by rintro rfl; rw [hr.rec_] at d1; cases d1
              have f1 := hf1.free (Array.getElem?_eq_some_iff.1 d1).1 (def_notOwn hsr.hp d1) (fun h => h.elim d3.1 (hFok D d4)) d3.2
              have e1 : (w1.putObj l (.loop { rec .ready none with state := .busy })).heap[D]? = some (.deferred (some [])) := by rw [World.putObj_heap_other hDl, f1.1, d1]
              have f2 := hf2.free (Array.getElem?_eq_some_iff.1 e1).1 (def_notOwn hs2.hp e1) f1.2.1 f1.2.2
              exact ⟨by rw [World.putObj_heap_other hDl, f2.1, e1], d2, f2.2, .inl d4⟩
            · rcases ok2F b h with h1 | h1
              · exact .inl h1
              · exact .inr (hnewF b h1 (hs3.hp.lt b h))
            · have := own2 k o b L (SubO.of gO k o h1) h2
              exact hnewF b this (own_lt hs3.hp (SubO.of gO k o h1) h2)
            · exact hnewF b (hid2 b h) (hs3.hp.hlt b h)
          -- how the round ends
          have leave : ∀ (c : Code) (lE : List (Nat × AV)) (lO : List (Nat × Ob)), AllIn E2 lE → AllInO O2 lO → (∀ p, p ∈ lE → memB p.1 fz = true) → jumpQ (lentQ kp OE Q) c (envL lE) (objL lO) →
              ∃ v w', (Instr.endRound l (some c)).run P w2 = .ok v w' ∧ ∃ b F', Ending.returned v = .returned (.bool b) ∧ FrY F W F' w' ∧ (b = true → I (i + 1) ok' F' w') ∧ (b = false → Xs ok' F' w') := by
            intro c lE lO g1 g2 g3 g4
            obtain ⟨v, w', h1, rfl, h3, h4⟩ := fin (some c) lE lO g1 g2 g3
            exact ⟨_, w', h1, false, _, rfl, h3, (fun h => by cases h), fun _ => ⟨c, lE, lO, K2, ok2, g4, h4⟩⟩
          cases e with
          | normal =>
            obtain ⟨g', q1, q2, q3⟩ := hq2
            obtain ⟨v, w', h1, rfl, h3, h4⟩ := fin none (sE (i + 1) g') (sO (i + 1) g') q2 q3 (fun p hp => hfz _ _ p hp)
            exact ⟨_, w', h1, true, _, rfl, h3, fun _ => ⟨g', K2, ok2, q1, h4⟩, fun h => by cases h⟩
          | ret => obtain ⟨lE, lO, q1, q2, q3, q4⟩ := hq2; exact leave .ret lE lO q1 q2 q3 q4
          | exit j => obtain ⟨lE, lO, q1, q2, q3, q4⟩ := hq2; exact leave (.exit j) lE lO q1 q2 q3 q4
          | goto j => obtain ⟨lE, lO, q1, q2, q3, q4⟩ := hq2; exact leave (.goto j) lE lO q1 q2 q3 q4
          | panic _ => exact hq2.elim
          | outgrown => exact hq2.elim
        | _ => exact hq.elim
    have hfn : callable P f = true := by simp [callable, hf, hb, hnm]
    simp only [okIn, Bool.and_eq_true, List.all_eq_true] at hσi
    obtain ⟨i1, i2, i3⟩ := hσi
    replace i1 := nodB_spec i1
    replace i2 := nodB_spec i2
    let KI : Km := ⟨fun q => (lk (swapL σ) q).bind fun k => K k, F0⟩
    have hKI : ∀ k q, (k, q) ∈ σ → KI q = K k := fun k q h => by
      have : lk (swapL σ) q = some k := mem_lk (by rw [swap_fst]; exact i2) (swap_mem.2 h)
      show (lk (swapL σ) q).bind _ = _
      rw [this]; rfl
    have hσ : ∀ k q, lk σ k = some q → KI q = K k := fun k q h => hKI k q (lk_mem h)
    have h2m : ∀ k q, (k, q) ∈ σ → q ≠ 2000000 := fun k q h e => by
      have := List.all_eq_true.1 hσ0 _ h
      subst e
      simp at this
    have hK20 : KI 2000000 = none := by
      show (lk (swapL σ) 2000000).bind _ = _
      cases hl : lk (swapL σ) 2000000 with
      | none => rfl
      | some k => exact absurd rfl (h2m k _ (swap_mem.1 (lk_mem hl)))
    have hcs : ∀ k o, Objs.get ((2000000, some (Ob.abs (I 0))) :: takeO σ O σ) k = some o → (k = 2000000 ∧ o = .abs (I 0)) ∨ (takeO σ O σ).get k = some o := fun k o h => by
      simp only [Objs.get] at h
      cases hb : Nat.beq 2000000 k with
      | true => rw [hb] at h; cases h; exact .inl ⟨(Nat.eq_of_beq_eq_true hb).symm, rfl⟩
      | false => rw [hb] at h; exact .inr h
    have hown : ∀ k o b L, Objs.get ((2000000, some (Ob.abs (I 0))) :: takeO σ O σ) k = some o → KI k = some (b, L) → ∃ k' p, (k', k) ∈ σ ∧ O.get k' = some p ∧ K k' = some (b, L) := fun k o b L h e => by
      rcases hcs k o h with ⟨rfl, _⟩ | h
      · rw [hK20] at e; cases e
      · obtain ⟨k', p, g1, g2, _⟩ := takeO_get h
        rw [hKI k' k g1] at e
        exact ⟨k', p, g1, g2, e⟩
    have hp0 : Hp KI ok W1 ((2000000, some (.abs (I 0))) :: takeO σ O σ) := by
      refine ⟨fun k o h => ?_, fun k k' o o' b L L' h1 h2 e1 e2 => ?_, fun k o b L h e => ?_, hp1.lt, fun b h => h.1, fun b h => h.2.1, fun k o b L h e hh => ?_⟩
      · rcases hcs k o h with ⟨rfl, rfl⟩ | h
        · exact ⟨hK20, hY.st 0, hI0⟩
        · obtain ⟨k', p, g1, g2, rfl⟩ := takeO_get h
          refine (hp1.obs k' p g2).ren hσ (hKI k' k g1) fun J hJ => ?_
          subst hJ
          have : hasAbs σ O = true := List.any_eq_true.2 ⟨_, g1, by simp [g2, isAbs]⟩
          rw [hσa] at this; cases this
      · obtain ⟨a1, p, g1, g2, g3⟩ := hown k o b L h1 e1
        obtain ⟨a2, p', g1', g2', g3'⟩ := hown k' o' b L' h2 e2
        have := hs.hp.inj a1 a2 p p' b L L' g2 g2' g3 g3'
        subst this
        have b1 := mem_lk i1 g1
        have b2 := mem_lk i1 g1'
        rw [b1] at b2
        cases b2; rfl
      · obtain ⟨a1, p, g1, g2, g3⟩ := hown k o b L h e
        exact hs.hp.apart a1 p b L g2 g3
      · obtain ⟨a1, p, g1, g2, g3⟩ := hown k o b L h e
        exact hh.2.2 ⟨a1, k, p, L, g1, g2, g3⟩
    have hlb1 : RelAs KI ok W1 ((caps.map .c).map (renA σ)) lb :=
      mapAs_rel (fun x v => renP_rel hσ) (hlb.mono (fun _ h => h) (fun b _ hb => hsame b hb) hsz fun r _ => hsh r)
    have hrun := (hit yv I Xs rfl hY).run _ ok W1 (yv :: lb) hp0 (RelAs.cons (.c (.cl (.cb rfl))) hlb1)
    have harr : (#[yv] ++ lb.toArray : Array Value) = (yv :: lb).toArray := by apply Array.ext'; simp
    refine ⟨l, Ds.map mark, W1, { target := .fn (.func f) lb.toArray, args := #[yv] }, W1, f, (yv :: lb).toArray, W1, he, ?_, fun _ _ => trivial, ?_, fun h => (by cases h), ?_⟩
    · simp only [resolve, hgv]
      simp [go_sem, yv]
    · rw [← harr]
      simp [invoke, exec_call hfn]
    · refine (FR_calls R _).2 ?_
      rcases hrun with ⟨_, hrun⟩ | ⟨v, w', h, _⟩
      · refine hrun.mono fun e w' hh => ?_
        obtain ⟨v, K', ok', rfl, _, hpE, hfE⟩ := hh
        obtain ⟨_, _, hJ⟩ := hpE.obs 2000000 (.abs fun ok F w => I items.length ok F w ∨ Xs ok F w) rfl
        have hkq : ∀ K2 : Km, (∀ r, PIN ≤ r → K2 r = K r) → ∀ q, q ∈ kp → q ≠ 2000000 ∧ K2 q = K' q ∧ K2 q = K q ∧ ∃ o, O.get q = some o := fun K2 hpin q hq => by
          have := List.all_eq_true.1 hkp q hq
          rw [Bool.and_eq_true] at this
          have hm : (q, q) ∈ σ := by
            cases hl : lk σ q with
            | none => rw [hl] at this; cases this.1
            | some r =>
              rw [hl] at this
              have e := Nat.eq_of_beq_eq_true (show Nat.beq r q = true from this.1)
              subst e
              exact lk_mem hl
          have hge : PIN ≤ q := Nat.le_of_ble_eq_true (i3 _ hm)
          refine ⟨h2m q q hm, ?_, hpin q hge, ?_⟩
          · rw [hpin q hge, ← hKI q q hm]; exact (hfE.pin q hge).symm
          · cases ho : O.get q with
            | none => rw [ho] at this; cases this.2
            | some o => exact ⟨o, rfl⟩
        rw [Bool.and_eq_true] at hOE
        -- the state behind the loop
        have out : ∀ (st : LoopState) (pe : Option Code) (lE : List (Nat × AV)) (lO : List (Nat × Ob)) (K2 : Km) (okc : Nat → Prop), RngI X1 K ok w O l (rec st pe) Ds a.tmps (envL lE) (objL lO) ok' K'.hid w' K2 okc → st ≠ .busy →
            ∃ w4, (Instr.endLoop l).run P w' = .ok pe w4 ∧ Sim ⟨N, R, B, old⟩ K2 (fun b => okc b ∨ ok' b) w4 (envL lE) (outL (kp.map fun q => (q, q)) OE ++ objL lO) { a with defers := Ds.map mark ++ a.defers } ∧ Fr K ok w O K2 (fun b => okc b ∨ ok' b) w4 (outL (kp.map fun q => (q, q)) OE ++ objL lO) := by
          intro st pe lE lO K2 okc hr hst
          have hend : (Instr.endLoop l).run P w' = .ok pe (w'.putObj l (.loop { rec st pe with state := .exhausted })) := by
            have h := run_endLoop (P := P) hr.rec_ (by rw [hrec]; exact hst)
            subst hrec
            exact h
          refine ⟨_, hend, ?_⟩
          obtain ⟨hsj, hfj⟩ := hr.join rfl hpE (hkq K2 hr.fr.pin) (nodB_spec hOE.1) hOE.2
          have hfree : Free K2 (fun b => okc b ∨ ok' b) l := ⟨fun h => h.elim hr.free.1 (hpE.hok l hr.lF), hr.free.2⟩
          have hs4 := hsj.putLoop hr.rec_ hfree { rec st pe with state := .exhausted }
          have hfr4 : Fr K ok w O K2 (fun b => okc b ∨ ok' b) (w'.putObj l (.loop { rec st pe with state := .exhausted })) (outL (kp.map fun q => (q, q)) OE ++ objL lO) :=
            ⟨by simpa using hfj.size, fun b hb g1 g2 => by rw [World.putObj_heap_other (by have := hr.new; omega)]; exact hfj.keep b hb g1 g2, hfj.okUp, hfj.okNew, hfj.own, hfj.os, hfj.tape, hfj.output, fun b o hb => by
              obtain ⟨o1, h1, h2⟩ := hfj.kind b o hb
              obtain ⟨o2, h3, h4⟩ := kind_putLoop (r' := { rec st pe with state := .exhausted }) hr.rec_ b o1 h1
              exact ⟨o2, h3, h2.trans h4⟩, hfj.pin, hfj.hid⟩
          refine ⟨⟨hs.size, ?_, Nat.le_trans hs.base hfr4.size, hs.rnd' hfr4, hs.old, hs4.hp, hs4.env⟩, hfr4⟩
          obtain ⟨Ds0, d1, d2, d3⟩ := hs.defers' hfr4
          obtain ⟨Ds1, e1, e2, e3⟩ := hs.defers
          have hDe : Ds0 = Ds1 := by
            have : Ds0.map mark = Ds1.map mark := d1.symm.trans e1
            have inj : ∀ {l m : List Nat}, l.map mark = m.map mark → l = m := by
              intro l
              induction l with
              | nil => intro m h; cases m with
                | nil => rfl
                | cons _ _ => cases h
              | cons x l ih =>
                intro m h
                cases m with
                | nil => cases h
                | cons y m =>
                  simp only [List.map_cons, List.cons.injEq] at h
                  have hxy : x = y := by simpa [mark] using h.1
                  rw [hxy, ih h.2]
            exact inj this
          subst hDe
          refine ⟨Ds ++ Ds0, by simp [d1], ?_, fun D hD => ?_⟩
          · refine List.nodup_append.2 ⟨hnd, d2, fun x hx y hy e => ?_⟩
            subst e
            have := (hDs x hx).2
            have := (Array.getElem?_eq_some_iff.1 (e3 x hy).2.1).1
            omega
          · rcases List.mem_append.1 hD with h | h
            · obtain ⟨g1, g2, g3, g4⟩ := hr.ds D h
              have hDl : D ≠ l := by rintro rfl; rw [hr.rec_] at g1; cases g1
              exact ⟨Nat.le_trans hs.base g2, by rw [World.putObj_heap_other hDl]; exact g1, fun h => h.elim g3.1 (hpE.hok D g4), g3.2⟩
            · exact d3 D h
        rcases hJ with ⟨g, K2, okc, hinv, hr⟩ | ⟨c, lE, lO, K2, okc, hj, hr⟩
        · obtain ⟨w4, h1, h2, h3⟩ := out .ready none _ _ K2 okc hr (by simp)
          exact ⟨none, w4, h1, _, _, K2, _, after g hinv, h2, h3⟩
        · obtain ⟨w4, h1, h2, h3⟩ := out .done (some c) _ _ K2 okc hr (by simp)
          refine ⟨some c, w4, h1, ?_⟩
          cases c with
          | ret => exact wpIn_ret ⟨_, _, K2, _, hj, h2, h3⟩
          | exit j => exact wpIn_exit ⟨_, _, K2, _, hj, h2, h3⟩
          | goto j => exact wpIn_goto ⟨_, _, K2, _, hj, h2, h3⟩
          | _ => exact hj.elim
      · rw [exec_call hfn] at h; cases h
  cases hR : R with
  | none =>
    subst hR
    refine main (w.heap.size + 1) [w.heap.size] _ w.heap.size (run_enterLoop_outer _ _ _ _ _) ?_ (by simp) (fun D hD => ?_) (by omega) (fun b hb => ?_) (by simp; try omega) rfl rfl rfl
    · have := World.alloc_heap_new (w.alloc (.deferred (some []))) (.loop { state := .ready, pending := none, fn := fnid, tmps := a.tmps, params := ps.toArray, assign := assign, body := body, defers := w.heap.size })
      rwa [World.size_alloc] at this
    · simp only [List.mem_singleton] at hD
      subst hD
      exact ⟨(RowKit.Below.heap_alloc _ _ _ (by simp)).trans (World.alloc_heap_new w _), Nat.le_refl _⟩
    · rw [RowKit.Below.heap_alloc _ _ _ (by simp; omega), RowKit.Below.heap_alloc _ _ _ hb]
  | some l0 =>
    subst hR
    obtain ⟨r0, hr0⟩ := hs.rnd l0 rfl
    refine main w.heap.size [] _ r0.defers (run_enterLoop_inner hr0 _ _ _ _ _) (World.alloc_heap_new w _) List.nodup_nil (fun D hD => by simp at hD) (Nat.le_refl _) (fun b hb => RowKit.Below.heap_alloc _ _ _ hb) (by simp) rfl rfl rfl
theorem rangeC (hT : T.ok P) (hm : P.follows .mixedOrders = true) {g : Operand} {ps : Array Tmp} {assign body : Code} {Q : PQ} {f : FuncId} {fn : Func} {c0 : Code} {caps : List PC} {items : List (List A1)}
    (hit : CtI P f (caps.map .c) items) (hf : P.funcs[f]? = some fn) (hb : fn.body = some c0) (hnm : (fn.name == "runtime.NumGoroutine") = false)
    (hg : E.ev g = some (.c (.fn f caps))) (hcl : closedL caps = true)
    (hlen : ∀ args, args ∈ items → args.length = ps.toList.length ∧ closedAs args = true) (fz : List Nat) (hps : (nodB ps.toList && ps.toList.all fun t => Nat.blt t N.n && !(memB t fz)) = true)
    {G : Type} (inv : Nat → G → Prop) (sE : Nat → G → List (Nat × AV)) (sO : Nat → G → List (Nat × Ob)) (g0 : G) (h0 : inv 0 g0) (hE : AllIn E (sE 0 g0)) (hO : AllInO O (sO 0 g0)) (hfz : ∀ i g, ((sE i g).all fun p => memB p.1 fz) = true)
    (round : ∀ i g args, items[i]? = some args → inv i g → codeS P T ⟨N.n, fz⟩ assign (envP ps.toList args ++ envL (sE i g)) (objL (sO i g)) (thenQ (fun E1 O1 => codeS P T ⟨N.n, fz⟩ body E1 O1 (roundQ fz Q (fun E' O' => ∃ g', inv (i + 1) g' ∧ AllIn E' (sE (i + 1) g') ∧ AllInO O' (sO (i + 1) g')))) (fun _ _ _ => False)))
    (after : ∀ g, inv items.length g → Q .normal (envL (sE items.length g)) (objL (sO items.length g))) (hlt : Nat.blt f 1000000 = true := by rfl) : WI P N E O (.rangeFunc g ps assign body) Q := by
  have h := W.rangeO (P := P) (T := T) (N := N) (E := E) (O := O) (Q := Q) (ps := ps.toList) (σ := []) (OE := []) (kp := []) hT hm hg hf hb hnm (by rw [renAs_closed (closedAs_caps hcl)]; exact hit) rfl rfl rfl rfl rfl hlen fz hps inv sE sO g0 h0 hE hO (fun i g p hp => by
    have := hfz i g
    rw [List.all_eq_true] at this
    exact this p hp) round after hlt
  exact .of h
theorem rangeL (hT : T.ok P) (hm : P.follows .mixedOrders = true) {g : Operand} {ps : Array Tmp} {assign body : Code} {Q : PQ} {f : FuncId} {fn : Func} {c0 : Code} {caps : List PC} {items : List (List A1)} {OT OE : Objs} {as_ : List A1} (σ : List (Nat × Nat)) (kp : List Nat)
    (hit : CtIO P f OT as_ items OE) (hf : P.funcs[f]? = some fn) (hb : fn.body = some c0) (hnm : (fn.name == "runtime.NumGoroutine") = false)
    (hg : E.ev g = some (.c (.fn f caps))) (ho : takeO σ O σ = OT) (has : (caps.map .c).map (renA σ) = as_) (hσ : (okIn σ && ((σ.all fun p => !(Nat.beq p.2 2000000)) && (!(hasAbs σ O) && (kp.all fun q => eqO (lk σ q) q && isSm (O.get q))))) = true) (hOE : (nodB (OE.map (·.1)) && noAbs OE) = true)
    (hlen : ∀ args, args ∈ items → args.length = ps.toList.length ∧ closedAs args = true) (fz : List Nat) (hps : (nodB ps.toList && ps.toList.all fun t => Nat.blt t N.n && !(memB t fz)) = true)
    {G : Type} (inv : Nat → G → Prop) (sE : Nat → G → List (Nat × AV)) (sO : Nat → G → List (Nat × Ob)) (g0 : G) (h0 : inv 0 g0) (hE : AllIn E (sE 0 g0)) (hO : AllInO (O.delL (σ.map (·.1))) (sO 0 g0)) (hfz : ∀ i g, ((sE i g).all fun p => memB p.1 fz) = true)
    (round : ∀ i g args, items[i]? = some args → inv i g → codeS P T ⟨N.n, fz⟩ assign (envP ps.toList args ++ envL (sE i g)) (objL (sO i g)) (thenQ (fun E1 O1 => codeS P T ⟨N.n, fz⟩ body E1 O1 (roundQ fz (lentQ kp OE Q) (fun E' O' => ∃ g', inv (i + 1) g' ∧ AllIn E' (sE (i + 1) g') ∧ AllInO O' (sO (i + 1) g')))) (fun _ _ _ => False)))
    (after : ∀ g, inv items.length g → lentQ kp OE Q .normal (envL (sE items.length g)) (objL (sO items.length g))) (hlt : Nat.blt f 1000000 = true := by rfl) : WI P N E O (.rangeFunc g ps assign body) Q := by
  subst ho has
  simp only [Bool.and_eq_true, Bool.not_eq_true'] at hσ
  have h := W.rangeO (P := P) (T := T) (N := N) (E := E) (O := O) (Q := Q) (ps := ps.toList) hT hm hg hf hb hnm hit hσ.1 hσ.2.1 hσ.2.2.1 hσ.2.2.2 hOE hlen fz hps inv sE sO g0 h0 hE hO (fun i g p hp => by
    have := hfz i g
    rw [List.all_eq_true] at this
    exact this p hp) round after hlt
  exact .of h
end
end Go.Proofs.YtjpbijdpkdmeaaaGreat.Pv
namespace Go.Proofs.YtjpbijdpkdmeaaaGreat.Pv
open Go
section
variable {P : Program} {T : Ty} {N : Nx} {E : Env} {O : Objs} {c : Code} {Q Q' : PQ}
theorem W.post (h : W P N E O c Q) (hq : ∀ (X : Cx) e E' O' K' ok' w' a', Q e E' O' → Sim X K' ok' w' E' O' a' → ∃ E2 O2 K2 ok2, Q' e E2 O2 ∧ Sim X K2 ok2 w' E2 O2 a' ∧ Fr K' ok' w' O' K2 ok2 w' O2) : W P N E O c Q' :=
  fun R B old K ok w a hs => wpIn_mono (h R B old K ok w a hs) fun e a' w' ⟨E', O', K', ok', h1, h2, h3⟩ => by
    obtain ⟨E2, O2, K2, ok2, g1, g2, g3⟩ := hq _ _ _ _ _ _ _ _ h1 h2
    exact ⟨E2, O2, K2, ok2, g1, g2, h3.trans g3⟩
theorem Sim.abs {X : Cx} {K : Km} {ok : Nat → Prop} {w : World} {a : Act} {k : Nat} {J J' : St} (hs : Sim X K ok w E O a) (h : O.get k = some (.abs J)) (hJ : ∀ ok F w, J ok F w → J' ok F w) (hst : Stable J') :
    Sim X K ok w E (O.set k (.abs J')) a ∧ Fr K ok w O K ok w (O.set k (.abs J')) := by
  have hsub : ∀ t o, (O.set k (.abs J')).get t = some o → ∃ o', O.get t = some o' := fun t o g => by
    rw [Objs.get_set] at g
    split at g
    · rename_i e; subst e; exact ⟨_, h⟩
    · exact ⟨o, g⟩
  refine ⟨⟨hs.size, hs.defers, hs.base, hs.rnd, hs.old, ⟨fun t o g => ?_, fun t t' o o' b L L' g1 g2 => ?_, fun t o b L g => ?_, hs.hp.lt, hs.hp.hlt, hs.hp.hok, fun t o b L g => ?_⟩, hs.env⟩,
    ⟨Nat.le_refl _, fun _ _ _ _ => rfl, fun _ h => h, fun _ h => .inl h, fun t o b L g1 g2 => by obtain ⟨o', g3⟩ := hsub t o g1; exact .inr ⟨t, o', L, g3, g2⟩, rfl, rfl, rfl, fun _ o h => ⟨o, h, SK.refl o⟩, fun _ _ => rfl, fun _ h => .inl h⟩⟩
  · rw [Objs.get_set] at g
    split at g
    · rename_i e
      subst e
      cases g
      obtain ⟨a1, _, a3⟩ := hs.hp.obs k _ h
      exact ⟨a1, hst, hJ _ _ _ a3⟩
    · exact hs.hp.obs t o g
  · obtain ⟨p, q1⟩ := hsub t o g1
    obtain ⟨p', q2⟩ := hsub t' o' g2
    exact hs.hp.inj t t' p p' b L L' q1 q2
  · obtain ⟨p, q1⟩ := hsub t o g; exact hs.hp.apart t p b L q1
  · obtain ⟨p, q1⟩ := hsub t o g; exact hs.hp.how t p b L q1
def iterO (OE : Objs) (I : Nat → St) (X : St) (n : Nat) : PQ := fun e _ O2 => (match e with | .normal => True | .ret => True | _ => False) ∧ (O2.get 2000000 = some (.abs (I n)) ∨ O2.get 2000000 = some (.abs X)) ∧ SubO OE O2
def iterQ (I : Nat → St) (X : St) (n : Nat) : PQ := fun e _ O2 => (match e with | .normal => True | .ret => True | _ => False) ∧ (O2.get 2000000 = some (.abs (I n)) ∨ O2.get 2000000 = some (.abs X))
theorem CtIO.go {f : FuncId} {fn : Func} {args : List A1} {items : List (List A1)} {OT OE : Objs} (hf : P.funcs[f]? = some fn) (hb : fn.body = some c) (hn : (fn.name == "runtime.NumGoroutine") = false) (hN : fn.ntmps = N.n) (hl : Nat.ble (args.length + 1) N.n = true) (hr : fn.results.toList = [])
    (h : ∀ (v : Value) (I : Nat → St) (X : St), one v = true → Yields P v items I X → W P N (envA 0 (.c (.cb v) :: args)) ((2000000, some (.abs (I 0))) :: OT) c (iterO OE I X items.length)) (hfz : N.fz = [] := by rfl) : CtIO P f OT args items OE := by
  intro v I X hv hY
  refine Ct.of hf hb hn hN hl ((h v I X hv hY).post fun Y e E' O' K' ok' w' a' hq hs => ?_) hfz
  obtain ⟨h1, h2, hOE⟩ := hq
  have hst : Stable (fun ok F w => I items.length ok F w ∨ X ok F w) := fun ok ok1 F w w1 hj g1 g2 g3 g4 g5 g6 g7 g8 =>
    hj.imp (fun hj => hY.st _ ok ok1 F w w1 hj g1 g2 g3 g4 g5 g6 g7 g8) (fun hj => hY.stX ok ok1 F w w1 hj g1 g2 g3 g4 g5 g6 g7 g8)
  have fin : ∀ J : St, O'.get 2000000 = some (.abs J) → (∀ ok F w, J ok F w → I items.length ok F w ∨ X ok F w) → _ := fun J hJ hi => hs.abs hJ hi hst
  have goal : ∃ (J : St), O'.get 2000000 = some (.abs J) ∧ ∀ ok F w, J ok F w → I items.length ok F w ∨ X ok F w := by
    rcases h2 with h2 | h2
    · exact ⟨_, h2, fun _ _ _ h => .inl h⟩
    · exact ⟨_, h2, fun _ _ _ h => .inr h⟩
  obtain ⟨J, hJ, hi⟩ := goal
  obtain ⟨g1, g2⟩ := fin J hJ hi
  refine ⟨E', _, K', ok', ⟨h1, fun k o hk => ?_, [], by rw [hr]; trivial, trivial⟩, g1, g2⟩
  simp only [Objs.get] at hk
  rw [Objs.get_set]
  cases hbq : Nat.beq 2000000 k with
  | true =>
    rw [hbq] at hk
    have e := Nat.eq_of_beq_eq_true hbq
    rw [if_pos e]
    exact hk
  | false =>
    rw [hbq] at hk
    rw [if_neg fun e => by rw [e, Nat.beq_refl] at hbq; cases hbq]
    exact hOE k o hk
theorem CtI.go (hT : T.ok P) (hm : P.follows .mixedOrders = true) {f : FuncId} {fn : Func} {args : List A1} {items : List (List A1)} (hf : P.funcs[f]? = some fn) (hb : fn.body = some c) (hn : (fn.name == "runtime.NumGoroutine") = false) (hN : fn.ntmps = N.n) (hl : Nat.ble (args.length + 1) N.n = true) (hr : fn.results.toList = [])
    (h : ∀ (v : Value) (I : Nat → St) (X : St), one v = true → Yields P v items I X → codeS P T N c (envA 0 (.c (.cb v) :: args)) [(2000000, some (.abs (I 0)))] (iterQ I X items.length)) (hfz : N.fz = [] := by rfl) : CtI P f args items :=
  CtIO.go hf hb hn hN hl hr (fun v I X hv hY => (codeS_sound hT hm c _ _ _ (h v I X hv hY)).mono fun _ _ _ ⟨h1, h2⟩ => ⟨h1, h2, fun k o hk => by simp [Objs.get] at hk⟩) hfz
theorem CtIO.walk (hT : T.ok P) (hm : P.follows .mixedOrders = true) {f : FuncId} {fn : Func} {args : List A1} {items : List (List A1)} {OT OE : Objs} (hf : P.funcs[f]? = some fn) (hb : fn.body = some c) (hn : (fn.name == "runtime.NumGoroutine") = false) (hN : fn.ntmps = N.n) (hl : Nat.ble (args.length + 1) N.n = true) (hr : fn.results.toList = [])
    (h : ∀ (v : Value) (I : Nat → St) (X : St), one v = true → Yields P v items I X → codeS P T N c (envA 0 (.c (.cb v) :: args)) ((2000000, some (.abs (I 0))) :: OT) (iterO OE I X items.length)) (hfz : N.fz = [] := by rfl) : CtIO P f OT args items OE :=
  CtIO.go hf hb hn hN hl hr (fun v I X hv hY => codeS_sound hT hm c _ _ _ (h v I X hv hY)) hfz
end
end Go.Proofs.YtjpbijdpkdmeaaaGreat.Pv
namespace Go.Proofs.YtjpbijdpkdmeaaaGreat.Pv
open Go
abbrev Cnt := List Int × Int
structure CLim (l : List Cnt) : Prop where
  len : l.length ≤ 1000000
  g : ∀ x, x ∈ l → x.1.length ≤ 1000000
structure CCLim (L : List (List Cnt)) : Prop where
  len : L.length ≤ 1000000
  l : ∀ l, l ∈ L → CLim l
theorem CLim.at' {l : List Cnt} (h : CLim l) {i : Nat} (hi : i < l.length) : l[i].1.length ≤ 1000000 := h.g _ (List.getElem_mem hi)
theorem CCLim.at' {L : List (List Cnt)} (h : CCLim L) {i : Nat} (hi : i < L.length) : CLim L[i] := h.l _ (List.getElem_mem hi)
theorem drop_getD {l : List Int} {i : Nat} (h : i < l.length) : l.drop i = l.getD i 0 :: l.drop (i + 1) := by
  rw [List.drop_eq_getElem_cons h]; simp [List.getD_eq_getElem?_getD, h]
theorem lexC_end {l m : List Int} {i : Nat} (h1 : i ≤ l.length) (h2 : i ≤ m.length) (h3 : i = l.length ∨ i = m.length) (h : lexC l m = lexC (l.drop i) (m.drop i)) : lexC l m = if l.length < m.length then -1 else if l.length > m.length then 1 else 0 := by
  rw [h]
  rcases Nat.lt_trichotomy l.length m.length with hl | hl | hl
  · have : i = l.length := by omega
    subst this
    rw [if_pos hl, List.drop_length, drop_getD hl]; rfl
  · have e1 : l.drop i = [] := List.drop_eq_nil_of_le (by omega)
    have e2 : m.drop i = [] := List.drop_eq_nil_of_le (by omega)
    rw [e1, e2, if_neg (by omega), if_neg (by omega)]; rfl
  · have : i = m.length := by omega
    subst this
    rw [if_neg (by omega), if_pos hl, List.drop_length, drop_getD hl]; rfl
theorem rcompare_ct (l m : List Int) (hl : l.length ≤ 1000000) (hm : m.length ≤ 1000000) : Ct P 52 [.c (iSl l), .c (iSl m)] [.c (eI .i64 (lexC l m))] := by
  refine Ct.go T_ok T_mix (N := 46) Tryz.func52 rfl rfl rfl rfl ?_
  refine loopJ T_ok T_mix (fun i : Nat => i ≤ l.length ∧ i ≤ m.length ∧ lexC l m = lexC (l.drop i) (m.drop i)) (fun i => [(0, .c (iSl l)), (1, .c (iSl m)), (5, .c (nI .i64 i))]) (fun _ => []) (fun i => l.length - i)
    0 ⟨by omega, by omega, rfl⟩ ⟨rfl, rfl, rfl, trivial⟩ trivial (fun _ : Unit => lexC l m = if l.length < m.length then -1 else if l.length > m.length then 1 else 0) (fun _ => [(0, .c (iSl l)), (1, .c (iSl m))]) (fun _ => []) (fun i hi => ?_) (fun _ he => ?_)
  · obtain ⟨h1, h2, h3⟩ := hi
    refine And.intro (by rw [iRow_len]; omega) ?_
    rw [iRow_len]
    refine dcase (fun h5 => ?_) (fun h5 => ?_)
    · refine And.intro (by rw [iRow_len]; omega) ?_
      rw [iRow_len]
      refine dcase (fun h6 => ?_) (fun h6 => ?_)
      · have hd := h3
        rw [drop_getD (l := l) (i := i) (by omega), drop_getD (l := m) (i := i) (by omega), lexC] at hd
        refine And.intro (by omega) (X1 _ (iRow_getN rfl (by omega)) ?_)
        refine And.intro (by omega) (X1 _ (iRow_getN rfl (by omega)) ?_)
        refine And.intro rfl ?_
        refine dcase (fun h7 => ?_) (fun h7 => ?_)
        · have e : cmpI (l.getD i 0) (m.getD i 0) = -1 := by rw [cmpI, if_pos h7]
          rw [e, if_pos (by decide)] at hd
          exact ⟨trivial, r1 (iE hd.symm), trivial⟩
        · refine And.intro (by omega) (X1 _ (iRow_getN rfl (by omega)) ?_)
          refine And.intro (by omega) (X1 _ (iRow_getN rfl (by omega)) ?_)
          refine And.intro rfl ?_
          refine dcase (fun h8 => ?_) (fun h8 => ?_)
          · have e : cmpI (l.getD i 0) (m.getD i 0) = 1 := by rw [cmpI, if_neg h7, if_pos h8]
            rw [e, if_pos (by decide)] at hd
            exact ⟨trivial, r1 (iE hd.symm), trivial⟩
          · have e : cmpI (l.getD i 0) (m.getD i 0) = 0 := by rw [cmpI, if_neg h7, if_neg h8]
            rw [e, if_neg (by decide)] at hd
            refine X1 ((i + 1 : Nat) : Int) (wI1 (by omega)) ?_
            exact ⟨i + 1, ⟨by omega, by omega, hd⟩, by omega, ⟨rfl, rfl, rfl, trivial⟩, trivial⟩
      · exact ⟨(), lexC_end h1 h2 (.inr (by omega)) h3, ⟨rfl, rfl, trivial⟩, trivial⟩
    · exact ⟨(), lexC_end h1 h2 (.inl (by omega)) h3, ⟨rfl, rfl, trivial⟩, trivial⟩
  · refine And.intro (by rw [iRow_len]; omega) ?_
    refine And.intro (by rw [iRow_len]; omega) ?_
    rw [iRow_len, iRow_len]
    refine dcase (fun h5 => ?_) (fun h5 => ?_)
    · rw [if_pos (by omega)] at he
      exact ⟨trivial, r1 (iE he.symm), trivial⟩
    · rw [if_neg (by omega)] at he
      refine And.intro (by rw [iRow_len]; omega) ?_
      refine And.intro (by rw [iRow_len]; omega) ?_
      rw [iRow_len, iRow_len]
      refine dcase (fun h6 => ?_) (fun h6 => ?_)
      · rw [if_pos (by omega)] at he
        exact ⟨trivial, r1 (iE he.symm), trivial⟩
      · rw [if_neg (by omega)] at he
        exact ⟨trivial, r1 (iE he.symm), trivial⟩
theorem blC {a b : Bool} (h : a = b) : (some (.c (.sc (.bool a))) : Option AV) = some (.c (.sc (.bool b))) := by rw [h]
structure WLim (l : List Cnt) : Prop where
  len : l.length ≤ 140737488355328
  g : ∀ x, x ∈ l → x.1.length ≤ 140737488355328
structure WWLim (L : List (List Cnt)) : Prop where
  len : L.length ≤ 140737488355328
  l : ∀ l, l ∈ L → WLim l
theorem WLim.at' {l : List Cnt} (h : WLim l) {i : Nat} (hi : i < l.length) : l[i].1.length ≤ 140737488355328 := h.g _ (List.getElem_mem hi)
theorem WWLim.at' {L : List (List Cnt)} (h : WWLim L) {i : Nat} (hi : i < L.length) : WLim L[i] := h.l _ (List.getElem_mem hi)
structure CCForm (L : List (List Cnt)) : Prop where
  lim : CCLim L
  form : ∀ (n : Nat) (h : n < L.length) (i : Nat) (hi : i < L[n].length), L[n][i].1.length = n + 1
theorem one_closed {el : List PC} (h : closedL el = true) : closedLL [el] := by
  intro e he
  simp only [List.mem_singleton] at he
  subst he; exact h
theorem sRow_closed {l : List ByteArray} : closedLL (sRow l) := by
  intro el h
  obtain ⟨x, _, rfl⟩ := List.mem_map.1 h
  rfl
theorem sRow_app (l : List ByteArray) (x : ByteArray) : sRow (l ++ [x]) = sRow l ++ [[sS x]] := by simp [sRow]
theorem mulN {x c : Nat} : IntKind.u64.wrap ((x : Int) * (c : Int)) = ((x * c % 18446744073709551616 : Nat) : Int) := by
  have e : (x : Int) * (c : Int) = ((x * c : Nat) : Int) := by simp
  rw [e, ← modU]
theorem mix_ct (s : ByteArray) (hs : s.size ≤ 1000000) : Ct P 166 [.c (sS s)] [.c (nI .u64 (mixF s))] := by
  have hdl : s.data.toList.length = s.size := rfl
  refine Ct.go T_ok T_mix (N := 22) Tryz.func166 rfl rfl rfl rfl ?_
  refine loopJ T_ok T_mix (fun i : Nat => i ≤ s.size) (fun i => [(0, .c (sS s)), (3, .c (nI .u64 (mixL (s.data.toList.take i)))), (4, .c (nI .i64 i))]) (fun _ => []) (fun i => s.size - i)
    0 (by omega) ⟨rfl, rfl, rfl, trivial⟩ trivial (fun _ : Unit => True) (fun _ => [(3, .c (nI .u64 (mixL s.data.toList)))]) (fun _ => []) (fun i hi => ?_) (fun _ _ => ?_)
  · refine dcase (fun h5 => ?_) (fun h5 => ?_)
    · have hi' : i < s.size := by omega
      have hlt := mixL_lt (s.data.toList.take i)
      obtain ⟨b, hb⟩ : ∃ b, s.data[i]? = some b := ⟨_, Array.getElem?_eq_getElem hi'⟩
      have hbl : b.toNat < 256 := b.toNat_lt
      have hsn : mixL (s.data.toList.take (i + 1)) = mixS (mixL (s.data.toList.take i)) b := by
        rw [← mixL_snoc, List.take_add_one, Array.getElem?_toList, hb]; rfl
      refine And.intro (by omega) (X1 b (by rw [Int.toNat_natCast]; exact hb) ?_)
      refine X1 ((b.toNat : Nat) : Int) (wU rfl (by omega) (by omega)) ?_
      refine X1 _ (xorN hlt (by omega)) ?_
      refine X1 ((mixS (mixL (s.data.toList.take i)) b : Nat) : Int) (by rw [mixS]; exact mulN (c := 1099511628211)) ?_
      refine X1 ((i + 1 : Nat) : Int) (wI1 (by omega)) ?_
      exact ⟨i + 1, by omega, by omega, ⟨rfl, iE (by rw [hsn]), rfl, trivial⟩, trivial⟩
    · have e : i = s.size := by omega
      subst e
      exact ⟨(), trivial, ⟨iE (by rw [List.take_of_length_le (by rw [hdl]; exact Nat.le_refl _)]), trivial⟩, trivial⟩
  · have h1 := mixL_lt s.data.toList
    have h2 := Nat.div_le_self (mixL s.data.toList) 536870912
    refine And.intro (by decide) (X1 ((mixL s.data.toList / 536870912 : Nat) : Int) (shrN (x := mixL s.data.toList) (k := 29) (by omega)) (And.intro (inU (by omega)) ?_))
    refine X1 _ (xorN h1 (by omega)) ?_
    exact ⟨trivial, r1 rfl, trivial⟩
abbrev tbC (a b v n m : Nat) : List PC := [.ow a 1 n, .ow b 1 m, .fn 166 [], .fn 167 [.ad v 0]]
abbrev tbO (a b : Nat) (Tx : List ByteArray) (s : List Nat) : Objs := [(1000000, some (.var (tbC a b 1000003 Tx.length s.length))), (a, some (.row 1 (sRow Tx))), (b, some (.row 1 (nRow .i32 s))), (1000003, some (.var [.ad 1000000 0]))]
theorem tbSub {a b : Nat} {Tx : List ByteArray} {s : List Nat} {O : Objs} (h1 : O.get 1000000 = some (.var (tbC a b 1000003 Tx.length s.length))) (h2 : O.get a = some (.row 1 (sRow Tx))) (h3 : O.get b = some (.row 1 (nRow .i32 s))) (h4 : O.get 1000003 = some (.var [.ad 1000000 0])) : SubO (tbO a b Tx s) O :=
  SubO.of (l := [(1000000, .var (tbC a b 1000003 Tx.length s.length)), (a, .row 1 (sRow Tx)), (b, .row 1 (nRow .i32 s)), (1000003, .var [.ad 1000000 0])]) ⟨h1, h2, h3, h4, trivial⟩
theorem key_ct (Tx : List ByteArray) (s : List Nat) (i : Nat) (hi : i < Tx.length) (hl : Tx.length ≤ 100000) : CtO P 167 (tbO 1000001 1000002 Tx s) [.c (nI .i64 i), .c (.ad 1000003 0)] (tbO 1000001 1000002 Tx s) [.c (sS (Tx.getD i ⟨#[]⟩))] := by
  refine Ct.io T_ok T_mix (N := 11) Tryz.func167 rfl rfl rfl rfl ?_
  refine And.intro (by omega) (And.intro (by omega) ?_)
  refine X1 _ (show (sRow Tx)[((i : Nat) : Int).toNat]? = some [sS (Tx.getD i ⟨#[]⟩)] by rw [sRow_getN rfl hi, List.getD_eq_getElem?_getD, List.getElem?_eq_getElem hi]; rfl) ?_
  exact ⟨trivial, tbSub rfl rfl rfl rfl, r1 rfl, trivial⟩
theorem key_arg {Tx : List ByteArray} {i : Nat} (h : i < Tx.length) : Tx[i]? = some (Tx.getD i ⟨#[]⟩) := by rw [List.getD_eq_getElem?_getD, List.getElem?_eq_getElem h]; rfl
abbrev σt : List (Nat × Nat) := [(1000000, 1000000), (1000001, 1000001), (1000002, 1000002), (1000003, 1000003)]
theorem place_ct (Tx : List ByteArray) (s : List Nat) (k : ByteArray) (d p : Nat) (hp : s.length = 2 ^ p) (hp2 : p ≤ 20) (hTx : Tx.length ≤ 100000) (hk : k.size ≤ 1000000) (hv : ∀ q, s.getD q 0 ≤ Tx.length) (hf : First mixF Tx s k d) :
    CtO P 142 (tbO 1000001 1000002 Tx s) [.c (.ad 1000000 1), .c (sS k)] (tbO 1000001 1000002 Tx s) [.c (nI .i64 (wayS mixF s k d))] := by
  have ht := hf.at'
  have hpl : 2 ^ p ≤ 2 ^ 20 := Nat.pow_le_pow_right (by omega) hp2
  have h20 : (2 : Nat) ^ 20 = 1048576 := rfl
  have hpp := Nat.two_pow_pos p
  have hway : ∀ e, wayS mixF s k e < s.length := fun e => Nat.mod_lt _ (by omega)
  have hm := mixF_lt k
  refine Ct.io T_ok T_mix (N := 53) Tryz.func142 rfl rfl rfl rfl ?_
  refine And.intro (by show s.length ≤ _; omega) ?_
  refine X1 ((2 ^ p - 1 : Nat) : Int) (wI (by rw [hp]; omega) (by omega) (by omega)) ?_
  refine X1 _ (mix_ct k hk) ?_
  refine X1 _ rfl ?_
  refine X1 ((wayS mixF s k 0 : Nat) : Int) (by rw [wayS, Nat.add_zero, hp]; exact and_hash (by omega) hm) ?_
  refine loopJ T_ok T_mix (fun e : Nat => e ≤ d) (fun e => [(0, .c (.ad 1000000 1)), (1, .c (sS k)), (5, .c (nI .i64 (2 ^ p - 1))), (6, .c (nI .i64 (wayS mixF s k e)))])
    (fun _ => [(1000000, .var (tbC 1000001 1000002 1000003 Tx.length s.length)), (1000001, .row 1 (sRow Tx)), (1000002, .row 1 (nRow .i32 s)), (1000003, .var [.ad 1000000 0])]) (fun e => d - e)
    0 (by omega) ⟨rfl, rfl, rfl, rfl, trivial⟩ ⟨rfl, rfl, rfl, rfl, trivial⟩ (fun _ : Unit => True) (fun _ => [(6, .c (nI .i64 (wayS mixF s k d)))])
    (fun _ => [(1000000, .var (tbC 1000001 1000002 1000003 Tx.length s.length)), (1000001, .row 1 (sRow Tx)), (1000002, .row 1 (nRow .i32 s)), (1000003, .var [.ad 1000000 0])]) (fun e he => ?_) (fun _ _ => ?_)
  · have hw := hway e
    obtain ⟨q, hq⟩ : ∃ q, q = wayS mixF s k e := ⟨_, rfl⟩
    obtain ⟨x, hx⟩ : ∃ x, x = s.getD q 0 := ⟨_, rfl⟩
    have hxl := hv q
    rw [← hx] at hxl
    rw [← hq] at hw
    have hget : (nRow .i32 s)[((q : Nat) : Int).toNat]? = some [nI .i32 x] := by rw [hx]; exact nRow_ix hw
    have hstop : stopS Tx s k q ↔ x = 0 ∨ Tx[x - 1]? = some k := by unfold stopS; rw [← hx]
    have fin : stopS Tx s k q → e = d := fun h => by
      apply Classical.byContradiction
      intro hne
      exact hf.no e (by omega) (by rw [← hq]; exact h)
    have more : ¬ stopS Tx s k q → e < d := fun h => by
      apply Classical.byContradiction
      intro hne
      have : e = d := by omega
      subst this
      rw [← hq] at ht
      exact h ht
    have hnx := way_next (H := mixF) (s := s) (k := k) (e := e)
    rw [← hq, hp] at hnx
    have hget' : (nRow .i32 s)[((wayS mixF s k e : Nat) : Int).toNat]? = some [nI .i32 x] := by rw [← hq]; exact hget
    have hw' : wayS mixF s k e < s.length := by rw [← hq]; exact hw
    refine And.intro (by omega) (And.intro (by omega) (X1 _ hget' ?_))
    refine ncase (fun h1 => ?_) (fun h1 => ?_)
    · have hx0 : x ≠ 0 := by omega
      have hxi : x - 1 < Tx.length := by omega
      refine And.intro (by omega) (And.intro (by omega) (X1 _ hget' ?_))
      refine X1 ((x : Nat) : Int) (wI rfl (by omega) (by omega)) ?_
      refine X1 ((x - 1 : Nat) : Int) (wI (by omega) (by omega) (by omega)) ?_
      refine ⟨σt, rfl, _, key_ct Tx s (x - 1) hxi hTx, ?_⟩
      refine And.intro rfl ?_
      refine bcase (fun h2 => ?_) (fun h2 => ?_)
      · have hne : Tx.getD (x - 1) ⟨#[]⟩ ≠ k := by simpa [tl_beq] using h2
        have hns : ¬ stopS Tx s k q := fun hs => by
          rcases hstop.1 hs with h3 | h3
          · exact hx0 h3
          · rw [key_arg hxi] at h3
            exact hne (Option.some.inj h3)
        have hlt := more hns
        refine X1 ((wayS mixF s k e + 1 : Nat) : Int) (wI (by simp) (by omega) (by omega)) ?_
        refine X1 ((wayS mixF s k (e + 1) : Nat) : Int) (by rw [← hnx, ← hq]; exact and_next (by omega) (by omega)) ?_
        exact ⟨e + 1, by omega, by omega, ⟨rfl, rfl, rfl, rfl, trivial⟩, ⟨rfl, rfl, rfl, rfl, trivial⟩⟩
      · have heq : Tx.getD (x - 1) ⟨#[]⟩ = k := by simpa [tl_beq] using h2
        have hd := fin (hstop.2 (.inr (by rw [key_arg hxi, heq])))
        subst hd
        exact ⟨(), trivial, ⟨rfl, trivial⟩, ⟨rfl, rfl, rfl, rfl, trivial⟩⟩
    · have hd := fin (hstop.2 (.inl (by omega)))
      subst hd
      refine And.intro rfl ?_
      exact ⟨(), trivial, ⟨rfl, trivial⟩, ⟨rfl, rfl, rfl, rfl, trivial⟩⟩
  · exact ⟨trivial, tbSub rfl rfl rfl rfl, r1 rfl, trivial⟩
end Go.Proofs.YtjpbijdpkdmeaaaGreat.Pv
namespace Go.Proofs.YtjpbijdpkdmeaaaGreat.Pv
open Go
theorem cloneU_ct (l : List Nat) (hl : l.length ≤ 1000000) : Ct P 176 [.c (nSl .u64 l)] [.c (nSl .u64 l)] := by
  refine Ct.go T_ok T_mix (N := 8) Tryz.func176 rfl rfl rfl rfl ?_
  intro b hb
  cases b with
  | true =>
    have : l = [] := List.length_eq_zero_iff.1 (by have := hb rfl; rwa [nRow_len] at this)
    subst this
    exact ⟨trivial, ⟨_, rfl, .inr (.inl ⟨rfl, 1, rfl⟩)⟩, trivial⟩
  | false =>
    refine ⟨rfl, by rw [nRow_len]; show (0 + l.length + 768) * 8 ≤ _; omega, by rw [nRow_len]; show 0 + l.length ≤ _; omega, nil_closed, nRow_closed, ?_⟩
    exact ⟨trivial, r1 rfl, trivial⟩
section
variable {u d1 d0 x q r : Nat}
end
def gs (u2 u1 u0 top next : Nat) : Nat := if top ≤ u2 then 18446744073709551615 else ((u2 * 18446744073709551616 + u1) * 18446744073709551616 + u0) / (top * 18446744073709551616 + next)
end Go.Proofs.YtjpbijdpkdmeaaaGreat.Pv
namespace Go.Proofs.YtjpbijdpkdmeaaaGreat.Pv
open Go
theorem bwords'_ct (n V : Nat) (hn : n ≤ 1000000) : Ct P 157 [.c (bN' n V)] [.c (nSl .u64 (wsN n V))] := by
  have := needN_le n
  refine Ct.go T_ok T_mix (N := 10) Tryz.func157 rfl rfl rfl rfl ?_
  refine X1 _ (cloneU_ct (wsN n V) (by rw [wsN_len]; omega)) ?_
  exact ⟨trivial, r1 rfl, trivial⟩
def nearP (V K k : Nat) : List Nat := (List.range k).map (nearE V) ++ List.replicate (K - k) 0
theorem nearP_len {V K k : Nat} (h : k ≤ K) : (nearP V K k).length = K := by simp [nearP]; omega
theorem nearP_set {V K k : Nat} (h : k < K) : (nearP V K k).set k (nearE V k) = nearP V K (k + 1) := by
  unfold nearP
  rw [List.set_append_right _ _ (by simp), List.length_map, List.length_range, Nat.sub_self, List.range_succ, List.map_append, List.append_assoc]
  congr 1
  rw [show K - k = (K - (k + 1)) + 1 by omega, List.replicate_succ]
  rfl
theorem nearP_all (n V : Nat) : nearP V (needN n) (needN n) = nearL n V := by simp [nearP, nearL]
theorem wrap16 {h : Nat} (hh : h ≤ 65535) : IntKind.u16.wrap (h : Int) = (h : Int) := wrap_of_inR ⟨by omega, by omega⟩
theorem wsN_ix {n V k : Nat} (h : k < needN n) : (nRow .u64 (wsN n V))[((k : Nat) : Int).toNat]? = some [nI .u64 (wdN V k)] := by
  rw [Int.toNat_natCast]; exact nRow_at' (wsN_get h)
set_option maxHeartbeats 1000000 in
theorem rdnew_ct (n V : Nat) (hV : V < 2 ^ n) (hn : n ≤ 1000000) : Ct P 113 [.c (bN' n V)] [.c (rdV n V)] := by
  have hK := needN_le n
  have hpc : ∀ a, popc (wdN V a) ≤ 64 := fun a => by
    have h1 := rk_le (wdN V a) 64
    rwa [rk_top (by rw [p64]; exact wdN_lt V a) (Nat.le_refl _)] at h1
  refine Ct.go T_ok T_mix (N := 78) Tryz.func113 rfl rfl rfl rfl ?_
  refine X1 _ (bwords'_ct n V hn) ?_
  refine X1 _ (blen'_ct n V) ?_
  refine And.intro (by rw [nRow_len, wsN_len]; omega) ?_
  rw [nRow_len, wsN_len]
  refine ⟨by omega, by omega, by omega, .inl (by decide), ?_⟩
  refine And.intro (by rw [nRow_len, wsN_len]; omega) ?_
  rw [nRow_len, wsN_len]
  refine nilVar (r := 61) (k := 13) (i := 1) (sz := 1) rfl rfl rfl ?_
  refine loopJ T_ok T_mix (fun k : Nat => k ≤ needN n) (fun k => [(3, .c (.ad 13 0)), (4, .c (nI .i64 (rk V (64 * k)))), (5, .c (nI .i64 (hereF V k))), (27, .c (nI .i64 (needN n))), (28, .c (nI .i64 k))])
    (fun k => [(13, .var [nSl .u64 (wsN n V), .ow 61 1 (marksK V k).length, .ow 20 1 (needN n), nI .i64 n]), (61, .row 1 (nRow .i64 (marksK V k))), (20, .row 1 (nRow .u16 (nearP V (needN n) k)))]) (fun k => needN n - k)
    0 (by omega) ⟨rfl, iE (by rw [Nat.mul_zero, rk_0]; rfl), rfl, rfl, rfl, trivial⟩ ⟨rfl, rfl, rowE (by unfold nearP; exact rep_row (by omega)), trivial⟩
    (fun _ : Unit => True) (fun _ => [(3, .c (.ad 13 0)), (4, .c (nI .i64 (popc V)))]) (fun _ => [(13, .var [nSl .u64 (wsN n V), .ow 61 1 (marksK V (needN n)).length, .ow 20 1 (nearL n V).length, nI .i64 n]), (61, .row 1 (nRow .i64 (marksK V (needN n)))), (20, .row 1 (nRow .u16 (nearL n V)))]) (fun k hk => ?_) (fun _ _ => ?_)
  · refine dcase (fun h5 => ?_) (fun h5 => ?_)
    · have hk' : k < needN n := by omega
      have hr1 := rk_le V (64 * k)
      have hp := hpc k
      have hr2 := wd_popc' (a := k) hV
      have hh := hereF_le V k
      have hml := marksK_len V k
      have hnl := nearP_len (V := V) (K := needN n) (k := k) hk
      refine And.intro (by decide) (X1 ((k % 8 : Nat) : Int) (tmodN rfl) (And.intro ⟨by omega, by omega⟩ ?_))
      refine ecase (fun h8 => ?_) (fun h8 => ?_)
      · have h8' : k % 8 = 0 := by omega
        have hin := hereF_in hV h8'
        refine app_row rfl (by rw [hml]; show (k + 7) / 8 + 1 ≤ _; omega) c1_closed ?_
        refine X1 ((0 : Nat) : Int) rfl ?_
        refine And.intro (by omega) (And.intro (by omega) ?_)
        refine X1 _ (by rw [Int.toNat_natCast]; exact nRow_at' (x := (nearP V (needN n) k).getD k 0) (by rw [List.getD_eq_getElem?_getD, List.getElem?_eq_getElem (by omega)]; rfl)) ?_
        refine And.intro (by omega) (X1 _ (wsN_ix hk') ?_)
        refine X1 _ (ones_ct _ (wdN_lt V k)) ?_
        refine X1 ((rk V (64 * (k + 1)) : Nat) : Int) (wI (by omega) (by omega) (by omega)) ?_
        refine X1 ((hereF V (k + 1) : Nat) : Int) (wI (by omega) (by omega) (by omega)) ?_
        refine X1 ((k + 1 : Nat) : Int) (wI (by simp) (by omega) (by omega)) ?_
        refine ⟨k + 1, by omega, by omega, ⟨rfl, rfl, rfl, rfl, rfl, trivial⟩, ⟨?_, ?_, ?_, trivial⟩⟩
        · show some (Ob.var [_, .ow 61 1 (nRow .i64 (marksK V k) ++ [[nI .i64 _]]).length, _, _]) = some (Ob.var [_, .ow 61 1 (marksK V (k + 1)).length, _, _])
          rw [List.length_append, nRow_len, marksK_in h8', List.length_append]; rfl
        · refine rowE ?_
          rw [marksK_in h8', ← nRow_app]; rfl
        · refine rowE ?_
          rw [← nearP_set hk', hin.2, Int.toNat_natCast, ← nRow_set]; rfl
      · have h8' : k % 8 ≠ 0 := by omega
        have hin := hereF_no hV h8'
        refine X1 ((hereF V k : Nat) : Int) (wrap16 (by omega)) ?_
        refine And.intro (by omega) (And.intro (by omega) ?_)
        refine X1 _ (by rw [Int.toNat_natCast]; exact nRow_at' (x := (nearP V (needN n) k).getD k 0) (by rw [List.getD_eq_getElem?_getD, List.getElem?_eq_getElem (by omega)]; rfl)) ?_
        refine And.intro (by omega) (X1 _ (wsN_ix hk') ?_)
        refine X1 _ (ones_ct _ (wdN_lt V k)) ?_
        refine X1 ((rk V (64 * (k + 1)) : Nat) : Int) (wI (by omega) (by omega) (by omega)) ?_
        refine X1 ((hereF V (k + 1) : Nat) : Int) (wI (by omega) (by omega) (by omega)) ?_
        refine X1 ((k + 1 : Nat) : Int) (wI (by simp) (by omega) (by omega)) ?_
        refine ⟨k + 1, by omega, by omega, ⟨rfl, rfl, rfl, rfl, rfl, trivial⟩, ⟨by rw [marksK_no h8']; rfl, by rw [marksK_no h8']; rfl, ?_, trivial⟩⟩
        refine rowE ?_
        rw [← nearP_set hk', hin.2, Int.toNat_natCast, ← nRow_set]; rfl
    · have e : k = needN n := by omega
      subst e
      exact ⟨(), trivial, ⟨rfl, iE (by rw [rk_words hV]), trivial⟩, ⟨by rw [nearL_len]; rfl, rfl, rowE (by rw [nearP_all]), trivial⟩⟩
  · refine app_row rfl (by rw [marksK_len]; show (needN n + 7) / 8 + 1 ≤ _; omega) c1_closed ?_
    refine ⟨trivial, r1 ?_, trivial⟩
    show some (AV.c (.rd [nSl .u64 (wsN n V), .sl 1 (nRow .i64 (marksK V (needN n)) ++ [[nI .i64 (popc V)]]), nSl .u16 (nearL n V), nI .i64 n])) = _
    rw [nRow_1, nRow_app]; rfl
theorem rlen_ct (n V : Nat) : Ct P 199 [.c (rdV n V)] [.c (nI .i64 n)] := by
  refine Ct.go T_ok T_mix (N := 9) Tryz.func199 rfl rfl rfl rfl ?_
  exact ⟨trivial, r1 rfl, trivial⟩
theorem rank_ct (n V i : Nat) (hV : V < 2 ^ n) (hn : n ≤ 1000000) (hi : i ≤ 100000000) : Ct P 119 [.c (rdV n V), .c (nI .i64 i)] [.c (nI .i64 (rk V i))] := by
  have hK := needN_le n
  have hrl := rk_le V i
  refine Ct.go T_ok T_mix (N := 66) Tryz.func119 rfl rfl rfl rfl ?_
  refine dcase (fun h => ?_) (fun h => ?_)
  · have : i = 0 := by omega
    subst this
    exact ⟨trivial, r1 (iE (by rw [rk_0]; rfl)), trivial⟩
  refine ecase (fun h2 => ?_) (fun h2 => ?_)
  · have : n = 0 := by omega
    subst this
    have hv0 : V = 0 := by rw [Nat.pow_zero] at hV; omega
    subst hv0
    exact ⟨trivial, r1 (iE (by unfold rk; rw [Nat.zero_mod, popc_zero]; rfl)), trivial⟩
  obtain ⟨hl1, hl2⟩ := marksL_last n V
  have hml : (marksL n V).length ≤ 1000000 := by unfold marksL; rw [List.length_append, marksK_len]; show _ + 1 ≤ _; omega
  refine dcase (fun h3 => ?_) (fun h3 => ?_)
  · refine And.intro (by rw [nRow_len]; omega) ?_
    rw [nRow_len]
    refine X1 (((marksL n V).length - 1 : Nat) : Int) (wI (by omega) (by omega) (by omega)) ?_
    refine And.intro (by omega) (X1 _ (nRow_ix (by omega)) ?_)
    refine And.intro rfl ?_
    exact ⟨trivial, r1 (iE (by rw [hl1, rk_top hV (by omega)])), trivial⟩
  · obtain ⟨a1, a2⟩ := marksL_get (n := n) (V := V) (j := i / 512) (by omega)
    obtain ⟨b1, b2⟩ := nearL_get (n := n) (V := V) (j := i / 64) (by omega)
    have hw : i / 64 < needN n := by rw [nearL_len] at b1; exact b1
    have hat := rank_at (V := V) i
    have hb := nearE_le V (i / 64)
    refine And.intro (by decide) (X1 ((i / 512 : Nat) : Int) (tdivN rfl) (And.intro ⟨by omega, by omega⟩ ?_))
    refine And.intro (by omega) (X1 _ (nRow_ix a1) ?_)
    refine And.intro (by decide) (X1 ((i / 64 : Nat) : Int) (tdivN rfl) (And.intro ⟨by omega, by omega⟩ ?_))
    refine And.intro (by omega) (X1 _ (nRow_ix b1) ?_)
    rw [a2, b2]
    refine X1 ((nearE V (i / 64) : Nat) : Int) (wI rfl (by omega) (by omega)) ?_
    refine X1 ((rk V (512 * (i / 512)) + nearE V (i / 64) : Nat) : Int) (wI (by omega) (by omega) (by omega)) ?_
    refine And.intro (by decide) (X1 ((i / 64 : Nat) : Int) (tdivN rfl) (And.intro ⟨by omega, by omega⟩ ?_))
    refine And.intro (by omega) (X1 _ (wsN_ix hw) ?_)
    refine And.intro (by decide) (X1 ((i % 64 : Nat) : Int) (tmodN rfl) (And.intro ⟨by omega, by omega⟩ ?_))
    refine X1 _ (lrank_ct _ (i % 64) (wdN_lt V _) (by omega)) ?_
    refine X1 ((rk V i : Nat) : Int) (wI (by omega) (by omega) (by omega)) ?_
    refine And.intro rfl ?_
    exact ⟨trivial, r1 rfl, trivial⟩
theorem zeros_ct (n V i : Nat) (hV : V < 2 ^ n) (hn : n ≤ 1000000) (hi : i ≤ 100000000) : Ct P 196 [.c (rdV n V), .c (nI .i64 i)] [.c (nI .i64 (min i n - rk V (min i n)))] := by
  have hr := rk_min (i := i) hV
  have hl := rk_le V (min i n)
  refine Ct.go T_ok T_mix (N := 14) Tryz.func196 rfl rfl rfl rfl ?_
  refine X1 _ (rlen_ct n V) ?_
  refine X1 _ (rank_ct n V i hV hn hi) ?_
  rw [← hr]
  refine X1 ((min i n - rk V (min i n) : Nat) : Int) (wI ?_ (by omega) (by omega)) ?_
  · repeat' split
    all_goals omega
  exact ⟨trivial, r1 rfl, trivial⟩
end Go.Proofs.YtjpbijdpkdmeaaaGreat.Pv
