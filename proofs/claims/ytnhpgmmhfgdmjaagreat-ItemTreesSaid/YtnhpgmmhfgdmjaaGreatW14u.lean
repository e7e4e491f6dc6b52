/- Proved here: contracts of functions of this chapter: called with these values, each returns these values and changes nothing that was. Conditions: none but those that each theorem names. -/
import Derived.Test.YtnhpgmmhfgdmjaaGreatW14r
set_option linter.unusedVariables false
set_option linter.unusedSimpArgs false
open Go Go.Proofs Go.Ev
namespace Go.Proofs.YtnhpgmmhfgdmjaaGreat.P14
set_option maxRecDepth 100000
theorem qIdContent : (nId.toList == nContent.toList) = false := by decide +kernel
theorem qVersionContent : (nVersion.toList == nContent.toList) = false := by decide +kernel
theorem qKindContent : (nKind.toList == nContent.toList) = false := by decide +kernel
theorem qStemContent : (nStem.toList == nContent.toList) = false := by decide +kernel
theorem qOptionsContent : (nOptions.toList == nContent.toList) = false := by decide +kernel
theorem qChoicesContent : (nChoices.toList == nContent.toList) = false := by decide +kernel
theorem qValueContent : (nValue.toList == nContent.toList) = false := by decide +kernel
theorem qTolContent : (nTol.toList == nContent.toList) = false := by decide +kernel
theorem qTextsContent : (nTexts.toList == nContent.toList) = false := by decide +kernel
theorem qPointsContent : (nPoints.toList == nContent.toList) = false := by decide +kernel
theorem qContentContent : (nContent.toList == nContent.toList) = true := by decide +kernel
theorem qFamilyContent : (nFamily.toList == nContent.toList) = false := by decide +kernel
theorem qSetContent : (nSet.toList == nContent.toList) = false := by decide +kernel
theorem qWordsContent : (nWords.toList == nContent.toList) = false := by decide +kernel
theorem qSecondsContent : (nSeconds.toList == nContent.toList) = false := by decide +kernel
theorem qAssetsContent : (nAssets.toList == nContent.toList) = false := by decide +kernel
theorem qRubricContent : (nRubric.toList == nContent.toList) = false := by decide +kernel
theorem hasContent (s t : It) : hasL (diffR s t) nContent = (!(s.content.toList == t.content.toList)) := by
  unfold diffR
  simp only [hasL_addN, hasL_nil, qIdContent, qVersionContent, qKindContent, qStemContent, qOptionsContent, qChoicesContent, qValueContent, qTolContent, qTextsContent, qPointsContent, qContentContent, qFamilyContent, qSetContent, qWordsContent, qSecondsContent, qAssetsContent, qRubricContent, Bool.and_false, Bool.and_true, Bool.or_false, Bool.false_or]
theorem qIdFamily : (nId.toList == nFamily.toList) = false := by decide +kernel
theorem qVersionFamily : (nVersion.toList == nFamily.toList) = false := by decide +kernel
theorem qKindFamily : (nKind.toList == nFamily.toList) = false := by decide +kernel
theorem qStemFamily : (nStem.toList == nFamily.toList) = false := by decide +kernel
theorem qOptionsFamily : (nOptions.toList == nFamily.toList) = false := by decide +kernel
theorem qChoicesFamily : (nChoices.toList == nFamily.toList) = false := by decide +kernel
theorem qValueFamily : (nValue.toList == nFamily.toList) = false := by decide +kernel
theorem qTolFamily : (nTol.toList == nFamily.toList) = false := by decide +kernel
theorem qTextsFamily : (nTexts.toList == nFamily.toList) = false := by decide +kernel
theorem qPointsFamily : (nPoints.toList == nFamily.toList) = false := by decide +kernel
theorem qContentFamily : (nContent.toList == nFamily.toList) = false := by decide +kernel
theorem qFamilyFamily : (nFamily.toList == nFamily.toList) = true := by decide +kernel
theorem qSetFamily : (nSet.toList == nFamily.toList) = false := by decide +kernel
theorem qWordsFamily : (nWords.toList == nFamily.toList) = false := by decide +kernel
theorem qSecondsFamily : (nSeconds.toList == nFamily.toList) = false := by decide +kernel
theorem qAssetsFamily : (nAssets.toList == nFamily.toList) = false := by decide +kernel
theorem qRubricFamily : (nRubric.toList == nFamily.toList) = false := by decide +kernel
theorem hasFamily (s t : It) : hasL (diffR s t) nFamily = (s.family != t.family) := by
  unfold diffR
  simp only [hasL_addN, hasL_nil, qIdFamily, qVersionFamily, qKindFamily, qStemFamily, qOptionsFamily, qChoicesFamily, qValueFamily, qTolFamily, qTextsFamily, qPointsFamily, qContentFamily, qFamilyFamily, qSetFamily, qWordsFamily, qSecondsFamily, qAssetsFamily, qRubricFamily, Bool.and_false, Bool.and_true, Bool.or_false, Bool.false_or]
theorem qIdSet : (nId.toList == nSet.toList) = false := by decide +kernel
theorem qVersionSet : (nVersion.toList == nSet.toList) = false := by decide +kernel
theorem qKindSet : (nKind.toList == nSet.toList) = false := by decide +kernel
theorem qStemSet : (nStem.toList == nSet.toList) = false := by decide +kernel
theorem qOptionsSet : (nOptions.toList == nSet.toList) = false := by decide +kernel
theorem qChoicesSet : (nChoices.toList == nSet.toList) = false := by decide +kernel
theorem qValueSet : (nValue.toList == nSet.toList) = false := by decide +kernel
theorem qTolSet : (nTol.toList == nSet.toList) = false := by decide +kernel
theorem qTextsSet : (nTexts.toList == nSet.toList) = false := by decide +kernel
theorem qPointsSet : (nPoints.toList == nSet.toList) = false := by decide +kernel
theorem qContentSet : (nContent.toList == nSet.toList) = false := by decide +kernel
theorem qFamilySet : (nFamily.toList == nSet.toList) = false := by decide +kernel
theorem qSetSet : (nSet.toList == nSet.toList) = true := by decide +kernel
theorem qWordsSet : (nWords.toList == nSet.toList) = false := by decide +kernel
theorem qSecondsSet : (nSeconds.toList == nSet.toList) = false := by decide +kernel
theorem qAssetsSet : (nAssets.toList == nSet.toList) = false := by decide +kernel
theorem qRubricSet : (nRubric.toList == nSet.toList) = false := by decide +kernel
theorem hasSet (s t : It) : hasL (diffR s t) nSet = (s.group != t.group) := by
  unfold diffR
  simp only [hasL_addN, hasL_nil, qIdSet, qVersionSet, qKindSet, qStemSet, qOptionsSet, qChoicesSet, qValueSet, qTolSet, qTextsSet, qPointsSet, qContentSet, qFamilySet, qSetSet, qWordsSet, qSecondsSet, qAssetsSet, qRubricSet, Bool.and_false, Bool.and_true, Bool.or_false, Bool.false_or]
theorem qIdWords : (nId.toList == nWords.toList) = false := by decide +kernel
theorem qVersionWords : (nVersion.toList == nWords.toList) = false := by decide +kernel
theorem qKindWords : (nKind.toList == nWords.toList) = false := by decide +kernel
theorem qStemWords : (nStem.toList == nWords.toList) = false := by decide +kernel
theorem qOptionsWords : (nOptions.toList == nWords.toList) = false := by decide +kernel
theorem qChoicesWords : (nChoices.toList == nWords.toList) = false := by decide +kernel
theorem qValueWords : (nValue.toList == nWords.toList) = false := by decide +kernel
theorem qTolWords : (nTol.toList == nWords.toList) = false := by decide +kernel
theorem qTextsWords : (nTexts.toList == nWords.toList) = false := by decide +kernel
theorem qPointsWords : (nPoints.toList == nWords.toList) = false := by decide +kernel
theorem qContentWords : (nContent.toList == nWords.toList) = false := by decide +kernel
theorem qFamilyWords : (nFamily.toList == nWords.toList) = false := by decide +kernel
theorem qSetWords : (nSet.toList == nWords.toList) = false := by decide +kernel
theorem qWordsWords : (nWords.toList == nWords.toList) = true := by decide +kernel
theorem qSecondsWords : (nSeconds.toList == nWords.toList) = false := by decide +kernel
theorem qAssetsWords : (nAssets.toList == nWords.toList) = false := by decide +kernel
theorem qRubricWords : (nRubric.toList == nWords.toList) = false := by decide +kernel
theorem hasWords (s t : It) : hasL (diffR s t) nWords = (s.words != t.words) := by
  unfold diffR
  simp only [hasL_addN, hasL_nil, qIdWords, qVersionWords, qKindWords, qStemWords, qOptionsWords, qChoicesWords, qValueWords, qTolWords, qTextsWords, qPointsWords, qContentWords, qFamilyWords, qSetWords, qWordsWords, qSecondsWords, qAssetsWords, qRubricWords, Bool.and_false, Bool.and_true, Bool.or_false, Bool.false_or]
theorem qIdSeconds : (nId.toList == nSeconds.toList) = false := by decide +kernel
theorem qVersionSeconds : (nVersion.toList == nSeconds.toList) = false := by decide +kernel
theorem qKindSeconds : (nKind.toList == nSeconds.toList) = false := by decide +kernel
theorem qStemSeconds : (nStem.toList == nSeconds.toList) = false := by decide +kernel
theorem qOptionsSeconds : (nOptions.toList == nSeconds.toList) = false := by decide +kernel
theorem qChoicesSeconds : (nChoices.toList == nSeconds.toList) = false := by decide +kernel
theorem qValueSeconds : (nValue.toList == nSeconds.toList) = false := by decide +kernel
theorem qTolSeconds : (nTol.toList == nSeconds.toList) = false := by decide +kernel
theorem qTextsSeconds : (nTexts.toList == nSeconds.toList) = false := by decide +kernel
theorem qPointsSeconds : (nPoints.toList == nSeconds.toList) = false := by decide +kernel
theorem qContentSeconds : (nContent.toList == nSeconds.toList) = false := by decide +kernel
theorem qFamilySeconds : (nFamily.toList == nSeconds.toList) = false := by decide +kernel
theorem qSetSeconds : (nSet.toList == nSeconds.toList) = false := by decide +kernel
theorem qWordsSeconds : (nWords.toList == nSeconds.toList) = false := by decide +kernel
theorem qSecondsSeconds : (nSeconds.toList == nSeconds.toList) = true := by decide +kernel
theorem qAssetsSeconds : (nAssets.toList == nSeconds.toList) = false := by decide +kernel
theorem qRubricSeconds : (nRubric.toList == nSeconds.toList) = false := by decide +kernel
theorem hasSeconds (s t : It) : hasL (diffR s t) nSeconds = (s.seconds != t.seconds) := by
  unfold diffR
  simp only [hasL_addN, hasL_nil, qIdSeconds, qVersionSeconds, qKindSeconds, qStemSeconds, qOptionsSeconds, qChoicesSeconds, qValueSeconds, qTolSeconds, qTextsSeconds, qPointsSeconds, qContentSeconds, qFamilySeconds, qSetSeconds, qWordsSeconds, qSecondsSeconds, qAssetsSeconds, qRubricSeconds, Bool.and_false, Bool.and_true, Bool.or_false, Bool.false_or]
theorem qIdAssets : (nId.toList == nAssets.toList) = false := by decide +kernel
theorem qVersionAssets : (nVersion.toList == nAssets.toList) = false := by decide +kernel
theorem qKindAssets : (nKind.toList == nAssets.toList) = false := by decide +kernel
theorem qStemAssets : (nStem.toList == nAssets.toList) = false := by decide +kernel
theorem qOptionsAssets : (nOptions.toList == nAssets.toList) = false := by decide +kernel
theorem qChoicesAssets : (nChoices.toList == nAssets.toList) = false := by decide +kernel
theorem qValueAssets : (nValue.toList == nAssets.toList) = false := by decide +kernel
theorem qTolAssets : (nTol.toList == nAssets.toList) = false := by decide +kernel
theorem qTextsAssets : (nTexts.toList == nAssets.toList) = false := by decide +kernel
theorem qPointsAssets : (nPoints.toList == nAssets.toList) = false := by decide +kernel
theorem qContentAssets : (nContent.toList == nAssets.toList) = false := by decide +kernel
theorem qFamilyAssets : (nFamily.toList == nAssets.toList) = false := by decide +kernel
theorem qSetAssets : (nSet.toList == nAssets.toList) = false := by decide +kernel
theorem qWordsAssets : (nWords.toList == nAssets.toList) = false := by decide +kernel
theorem qSecondsAssets : (nSeconds.toList == nAssets.toList) = false := by decide +kernel
theorem qAssetsAssets : (nAssets.toList == nAssets.toList) = true := by decide +kernel
theorem qRubricAssets : (nRubric.toList == nAssets.toList) = false := by decide +kernel
theorem hasAssets (s t : It) : hasL (diffR s t) nAssets = (!(sameI s.nAs s.ass t.nAs t.ass)) := by
  unfold diffR
  simp only [hasL_addN, hasL_nil, qIdAssets, qVersionAssets, qKindAssets, qStemAssets, qOptionsAssets, qChoicesAssets, qValueAssets, qTolAssets, qTextsAssets, qPointsAssets, qContentAssets, qFamilyAssets, qSetAssets, qWordsAssets, qSecondsAssets, qAssetsAssets, qRubricAssets, Bool.and_false, Bool.and_true, Bool.or_false, Bool.false_or]
/-- Which fields differ, in the order of declaration. -/
def cndF (s t : It) : Nat → Bool
  | 0 => s.id != t.id
  | 1 => s.version != t.version
  | 2 => s.kind != t.kind
  | 3 => !(s.stem.toList == t.stem.toList)
  | 4 => !(sameS s.nOpt s.opt t.nOpt t.opt)
  | 5 => !(sameI s.nCh s.ch t.nCh t.ch)
  | 6 => s.value != t.value
  | 7 => s.tol != t.tol
  | 8 => !(sameS s.nTx s.tx t.nTx t.tx)
  | 9 => s.points != t.points
  | 10 => !(s.content.toList == t.content.toList)
  | 11 => s.family != t.family
  | 12 => s.group != t.group
  | 13 => s.words != t.words
  | 14 => s.seconds != t.seconds
  | 15 => !(sameI s.nAs s.ass t.nAs t.ass)
  | 16 => s.rubric != t.rubric
  | _ => false
def fldF : Nat → ByteArray
  | 0 => nId
  | 1 => nVersion
  | 2 => nKind
  | 3 => nStem
  | 4 => nOptions
  | 5 => nChoices
  | 6 => nValue
  | 7 => nTol
  | 8 => nTexts
  | 9 => nPoints
  | 10 => nContent
  | 11 => nFamily
  | 12 => nSet
  | 13 => nWords
  | 14 => nSeconds
  | 15 => nAssets
  | 16 => nRubric
  | _ => ⟨#[]⟩
theorem fields_has (s t : It) (i : Nat) (h : i < 17) : hasL (diffR s t) (fldF i) = cndF s t i := by
  rcases i with _ | _ | _ | _ | _ | _ | _ | _ | _ | _ | _ | _ | _ | _ | _ | _ | _ | i
  · exact hasId s t
  · exact hasVersion s t
  · exact hasKind s t
  · exact hasStem s t
  · exact hasOptions s t
  · exact hasChoices s t
  · exact hasValue s t
  · exact hasTol s t
  · exact hasTexts s t
  · exact hasPoints s t
  · exact hasContent s t
  · exact hasFamily s t
  · exact hasSet s t
  · exact hasWords s t
  · exact hasSeconds s t
  · exact hasAssets s t
  · exact hasRubric s t
  · omega
theorem getD_str17 (a0 a1 a2 a3 a4 a5 a6 a7 a8 a9 a10 a11 a12 a13 a14 a15 a16 z : ByteArray) (i : Nat) : [DV.str a0, DV.str a1, DV.str a2, DV.str a3, DV.str a4, DV.str a5, DV.str a6, DV.str a7, DV.str a8, DV.str a9, DV.str a10, DV.str a11, DV.str a12, DV.str a13, DV.str a14, DV.str a15, DV.str a16].getD i (.str z) = .str ([a0, a1, a2, a3, a4, a5, a6, a7, a8, a9, a10, a11, a12, a13, a14, a15, a16].getD i z) := by
  rcases i with _ | _ | _ | _ | _ | _ | _ | _ | _ | _ | _ | _ | _ | _ | _ | _ | _ | i <;> simp
def cntF (p : Nat → Bool) : Nat → Nat
  | 0 => 0
  | n + 1 => cntF p n + (bif p n then 1 else 0)
theorem addN_length (b : Bool) (x : ByteArray) (r : List ByteArray) : (addN b x r).length = r.length + (bif b then 1 else 0) := by cases b <;> simp [addN]
theorem diff_length (s t : It) : (diffR s t).length = cntF (cndF s t) 17 := by
  unfold diffR
  simp only [addN_length, cntF, List.length_nil, cndF]
theorem eq_int (t k a b : Int) : (!eqN (.leaf t k a ⟨#[]⟩) (.leaf t k b ⟨#[]⟩)) = (a != b) := by
  simp only [eqN, eqH, Nd.tag, Nd.kind, Nd.n, Nd.s, Nd.m, bne_self_eq_false, cond_false, Bool.not_not, beq_self_eq_true, Bool.not_true]
  cases a != b <;> rfl
theorem eq_str (t k n : Int) (a b : ByteArray) : (!eqN (.leaf t k n a) (.leaf t k n b)) = !(a.toList == b.toList) := by
  simp only [eqN, eqH, Nd.tag, Nd.kind, Nd.n, Nd.s, Nd.m, bne_self_eq_false, cond_false, Bool.not_not]
  cases a.toList == b.toList <;> rfl
theorem int_bne (m k : Nat) : ((m : Int) != (k : Int)) = !(m == k) := by
  by_cases h : m = k
  · subst h; simp
  · have h1 : (m == k) = false := by simpa using h
    have h2 : ((m : Int) != (k : Int)) = true := by simpa using fun e => h (Int.ofNat.inj e)
    rw [h1, h2]
    rfl
theorem eq_lst (t k n : Int) (m j : Nat) (f g : Nat → Nd) : (!eqN (.mk t k n ⟨#[]⟩ m f) (.mk t k n ⟨#[]⟩ j g)) = !((m == j) && allN (fun i => eqN (f i) (g i)) m) := by
  simp only [eqN, eqH, Nd.tag, Nd.kind, Nd.n, Nd.s, Nd.m, Nd.kids, bne_self_eq_false, cond_false, beq_self_eq_true, Bool.not_true, int_bne, Bool.not_not]
theorem eqN_cnd (s t : It) (i : Nat) (h : i < 17) : (!eqN (encN s i) (encN t i)) = cndF s t i := by
  have lS : ∀ (tg : Int) (m : Nat) (a : Nat → ByteArray) (j : Nat) (b : Nat → ByteArray), (!eqN (.mk tg 3 0 ⟨#[]⟩ m fun i => .leaf 0 2 0 (a i)) (.mk tg 3 0 ⟨#[]⟩ j fun i => .leaf 0 2 0 (b i))) = !(sameS m a j b) := fun tg m a j b => by
    rw [eq_lst]
    unfold sameS
    congr 2
    refine allN_congr fun i _ => ?_
    have := eq_str 0 2 0 (a i) (b i)
    simpa using this
  have lI : ∀ (tg : Int) (m : Nat) (a : Nat → Int) (j : Nat) (b : Nat → Int), (!eqN (.mk tg 3 0 ⟨#[]⟩ m fun i => .leaf 0 1 (a i) ⟨#[]⟩) (.mk tg 3 0 ⟨#[]⟩ j fun i => .leaf 0 1 (b i) ⟨#[]⟩)) = !(sameI m a j b) := fun tg m a j b => by
    rw [eq_lst]
    unfold sameI
    congr 2
    refine allN_congr fun i _ => ?_
    have := eq_int 0 1 (a i) (b i)
    rw [← Bool.not_not (b := eqN _ _), this]
    simp [bne]
  rcases i with _ | _ | _ | _ | _ | _ | _ | _ | _ | _ | _ | _ | _ | _ | _ | _ | _ | i
  · exact eq_int _ _ _ _
  · exact eq_int _ _ _ _
  · exact eq_int _ _ _ _
  · exact eq_str _ _ _ _ _
  · exact lS _ _ _ _ _
  · exact lI _ _ _ _ _
  · exact eq_int _ _ _ _
  · exact eq_int _ _ _ _
  · exact lS _ _ _ _ _
  · exact eq_int _ _ _ _
  · exact eq_str _ _ _ _ _
  · exact eq_int _ _ _ _
  · exact eq_int _ _ _ _
  · exact eq_int _ _ _ _
  · exact eq_int _ _ _ _
  · exact lI _ _ _ _ _
  · exact eq_int _ _ _ _
  · omega
def encNd (t : It) : Nd := .mk 14 3 0 ⟨#[]⟩ 17 (encN t)
theorem cnt_zero (p : Nat → Bool) : ∀ n, (cntF p n == 0) = allN (fun i => !p i) n
  | 0 => rfl
  | n + 1 => by
    rw [allN_succ, ← cnt_zero p n]
    simp only [cntF]
    cases p n <;> simp
theorem eqN_all (s t : It) : eqN (encNd s) (encNd t) = ((diffR s t).length == 0) := by
  rw [diff_length, cnt_zero]
  have := eq_lst 14 3 0 17 17 (encN s) (encN t)
  rw [Bool.not_inj_iff] at this
  unfold encNd
  rw [this]
  simp only [beq_self_eq_true, Bool.true_and]
  refine allN_congr fun i hi => ?_
  rw [← eqN_cnd s t i hi, Bool.not_not]
end Go.Proofs.YtnhpgmmhfgdmjaaGreat.P14
/- Proved here: contracts of functions of this chapter: called with these values, each returns these values and changes nothing that was. Conditions: none but those that each theorem names. -/
set_option linter.unusedVariables false
set_option linter.unusedSimpArgs false
open Go Go.Proofs Go.Ev
namespace Go.Proofs.YtnhpgmmhfgdmjaaGreat.P14
set_option maxRecDepth 100000
/-- What Encode gives, as a tree. -/
def encX (t : It) : Nd := if validR t = 0 then encNd t else .leaf 0 0 0 ⟨#[]⟩
theorem encodeX_ok (t : It) (hn : t.nCh * 8 ≤ 140737488351232) : FnD Tryz.prog 4 [.d (iD t)] [(encX t).D, .int .i64 (validR t)] := by
  have h := encode_ok t hn
  have e : encR t = (encX t).D := by
    unfold encR encX
    by_cases hv : validR t = 0
    · rw [if_pos hv, hv]
      rfl
    · rw [if_neg hv, show (validR t != 0) = true by simpa using hv]
      rfl
  rw [e] at h
  exact h
theorem encode_val {t : It} (hv : validR t = 0) (hn : t.nCh * 8 ≤ 140737488351232) : FnD Tryz.prog 4 [.d (iD t)] [nodeD t, .int .i64 0] := by
  have h := encodeX_ok t hn
  rw [hv, show encX t = encNd t from if_pos hv] at h
  exact h
theorem valid_zero {t : It} (hv : validR t = 0) (hn : t.nCh * 8 ≤ 140737488351232) : FnD Tryz.prog 13 [.d (iD t)] [.int .i64 0] := by
  have h := valid_ok t hn
  rw [hv] at h
  exact h
theorem decode_val {t : It} (hv : validR t = 0) : FnD Tryz.prog 7 [.d (nodeD t)] [iD t, .int .i64 0] := decode_enc t (valid_len hv) hv
theorem same_self (t : It) : FnD Tryz.prog 9 [.d (iD t), .d (iD t)] [.bool true] := by
  have h := same_ok t t
  rw [diffR_refl] at h
  exact h
theorem cnt_le (p : Nat → Bool) : ∀ n, cntF p n ≤ n
  | 0 => Nat.le_refl _
  | n + 1 => by
    have := cnt_le p n
    simp only [cntF]
    cases p n <;> simp <;> omega
end Go.Proofs.YtnhpgmmhfgdmjaaGreat.P14
