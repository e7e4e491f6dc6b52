/- Proved here: contracts of functions of this chapter: called with these values, each returns these values and changes nothing that was. Conditions: none but those that each theorem names. -/
import Derived.Test.YtnhpgmmhfgdmjaaGreatW14q
set_option linter.unusedVariables false
set_option linter.unusedSimpArgs false
open Go Go.Proofs Go.Ev
namespace Go.Proofs.YtnhpgmmhfgdmjaaGreat.P14
set_option maxRecDepth 100000
/-- A name is in the list. -/
def hasL (r : List ByteArray) (x : ByteArray) : Bool := hasN (fun i => (nm r i).toList == x.toList) r.length
theorem hasN_succ (p : Nat → Bool) (n : Nat) : hasN p (n + 1) = (hasN p n || p n) := by simp [hasN, List.range_succ]
theorem hasN_congr {p q : Nat → Bool} {n : Nat} (h : ∀ i, i < n → p i = q i) : hasN p n = hasN q n := by
  induction n with
  | zero => rfl
  | succ n ih => rw [hasN_succ, hasN_succ, ih fun i hi => h i (by omega), h n (by omega)]
theorem hasL_nil (x : ByteArray) : hasL [] x = false := rfl
theorem hasL_addN (b : Bool) (y : ByteArray) (r : List ByteArray) (x : ByteArray) : hasL (addN b y r) x = ((b && (y.toList == x.toList)) || hasL r x) := by
  cases b with
  | false => simp [addN]
  | true =>
    simp only [addN, cond_true, hasL, List.length_cons, hasN_succ, nm_last, Bool.true_and]
    rw [Bool.or_comm]
    congr 1
    exact hasN_congr fun i hi => by rw [nm_lt y r hi]
theorem allN_congr {p q : Nat → Bool} {n : Nat} (h : ∀ i, i < n → p i = q i) : allN p n = allN q n := by
  induction n with
  | zero => rfl
  | succ n ih => rw [allN_succ, allN_succ, ih fun i hi => h i (by omega), h n (by omega)]
theorem bne_sym (a b : Int) : (a != b) = (b != a) := bne_comm
theorem beq_symL (a b : List UInt8) : (a == b) = (b == a) := by rw [Bool.eq_iff_iff, beq_iff_eq, beq_iff_eq]; exact eq_comm
theorem beq_symI (a b : Int) : (a == b) = (b == a) := by rw [Bool.eq_iff_iff, beq_iff_eq, beq_iff_eq]; exact eq_comm
theorem sameS_symm (m : Nat) (a : Nat → ByteArray) (k : Nat) (b : Nat → ByteArray) : sameS m a k b = sameS k b m a := by
  unfold sameS
  by_cases h : m = k
  · subst h
    simp only [beq_self_eq_true, Bool.true_and]
    exact allN_congr fun i _ => beq_symL _ _
  · have h1 : (m == k) = false := by simpa using h
    have h2 : (k == m) = false := by simpa using fun e => h (Eq.symm e)
    simp only [h1, h2, Bool.false_and]
theorem sameI_symm (m : Nat) (a : Nat → Int) (k : Nat) (b : Nat → Int) : sameI m a k b = sameI k b m a := by
  unfold sameI
  by_cases h : m = k
  · subst h
    simp only [beq_self_eq_true, Bool.true_and]
    exact allN_congr fun i _ => beq_symI _ _
  · have h1 : (m == k) = false := by simpa using h
    have h2 : (k == m) = false := by simpa using fun e => h (Eq.symm e)
    simp only [h1, h2, Bool.false_and]
theorem sameS_refl (m : Nat) (a : Nat → ByteArray) : sameS m a m a = true := by
  simp only [sameS, beq_self_eq_true, Bool.true_and]
  exact allN_yes fun i _ => rfl
theorem sameI_refl (m : Nat) (a : Nat → Int) : sameI m a m a = true := by
  simp only [sameI, beq_self_eq_true, Bool.true_and]
  exact allN_yes fun i _ => rfl
theorem diffR_symm (s t : It) : diffR t s = diffR s t := by
  unfold diffR
  rw [bne_sym t.id, bne_sym t.version, bne_sym t.kind, beq_symL t.stem.toList, sameS_symm t.nOpt, sameI_symm t.nCh, bne_sym t.value, bne_sym t.tol, sameS_symm t.nTx, bne_sym t.points, beq_symL t.content.toList, bne_sym t.family, bne_sym t.group, bne_sym t.words, bne_sym t.seconds, sameI_symm t.nAs, bne_sym t.rubric]
theorem diffR_refl (s : It) : diffR s s = [] := by
  unfold diffR
  simp only [bne_self_eq_false, beq_self_eq_true, sameS_refl, sameI_refl, Bool.not_true, addN, cond_false]
theorem majorR_symm (s t : It) : majorR t s = majorR s t := by
  unfold majorR maj1
  rw [bne_sym t.kind, beq_symL t.stem.toList, sameS_symm t.nOpt, sameI_symm t.nCh, bne_sym t.value, bne_sym t.tol, sameS_symm t.nTx, bne_sym t.points, bne_sym t.rubric]
theorem sameS_self {r r' : List ByteArray} (h : r = r') : sameS r.length (nm r) r'.length (nm r') = true := by subst h; exact sameS_refl _ _
theorem qIdKind : (nId.toList == nKind.toList) = false := by decide +kernel
theorem qVersionKind : (nVersion.toList == nKind.toList) = false := by decide +kernel
theorem qKindKind : (nKind.toList == nKind.toList) = true := by decide +kernel
theorem qStemKind : (nStem.toList == nKind.toList) = false := by decide +kernel
theorem qOptionsKind : (nOptions.toList == nKind.toList) = false := by decide +kernel
theorem qChoicesKind : (nChoices.toList == nKind.toList) = false := by decide +kernel
theorem qValueKind : (nValue.toList == nKind.toList) = false := by decide +kernel
theorem qTolKind : (nTol.toList == nKind.toList) = false := by decide +kernel
theorem qTextsKind : (nTexts.toList == nKind.toList) = false := by decide +kernel
theorem qPointsKind : (nPoints.toList == nKind.toList) = false := by decide +kernel
theorem qContentKind : (nContent.toList == nKind.toList) = false := by decide +kernel
theorem qFamilyKind : (nFamily.toList == nKind.toList) = false := by decide +kernel
theorem qSetKind : (nSet.toList == nKind.toList) = false := by decide +kernel
theorem qWordsKind : (nWords.toList == nKind.toList) = false := by decide +kernel
theorem qSecondsKind : (nSeconds.toList == nKind.toList) = false := by decide +kernel
theorem qAssetsKind : (nAssets.toList == nKind.toList) = false := by decide +kernel
theorem qRubricKind : (nRubric.toList == nKind.toList) = false := by decide +kernel
theorem hasKind (s t : It) : hasL (diffR s t) nKind = (s.kind != t.kind) := by
  unfold diffR
  simp only [hasL_addN, hasL_nil, qIdKind, qVersionKind, qKindKind, qStemKind, qOptionsKind, qChoicesKind, qValueKind, qTolKind, qTextsKind, qPointsKind, qContentKind, qFamilyKind, qSetKind, qWordsKind, qSecondsKind, qAssetsKind, qRubricKind, Bool.and_false, Bool.and_true, Bool.or_false, Bool.false_or]
theorem qIdStem : (nId.toList == nStem.toList) = false := by decide +kernel
theorem qVersionStem : (nVersion.toList == nStem.toList) = false := by decide +kernel
theorem qKindStem : (nKind.toList == nStem.toList) = false := by decide +kernel
theorem qStemStem : (nStem.toList == nStem.toList) = true := by decide +kernel
theorem qOptionsStem : (nOptions.toList == nStem.toList) = false := by decide +kernel
theorem qChoicesStem : (nChoices.toList == nStem.toList) = false := by decide +kernel
theorem qValueStem : (nValue.toList == nStem.toList) = false := by decide +kernel
theorem qTolStem : (nTol.toList == nStem.toList) = false := by decide +kernel
theorem qTextsStem : (nTexts.toList == nStem.toList) = false := by decide +kernel
theorem qPointsStem : (nPoints.toList == nStem.toList) = false := by decide +kernel
theorem qContentStem : (nContent.toList == nStem.toList) = false := by decide +kernel
theorem qFamilyStem : (nFamily.toList == nStem.toList) = false := by decide +kernel
theorem qSetStem : (nSet.toList == nStem.toList) = false := by decide +kernel
theorem qWordsStem : (nWords.toList == nStem.toList) = false := by decide +kernel
theorem qSecondsStem : (nSeconds.toList == nStem.toList) = false := by decide +kernel
theorem qAssetsStem : (nAssets.toList == nStem.toList) = false := by decide +kernel
theorem qRubricStem : (nRubric.toList == nStem.toList) = false := by decide +kernel
theorem hasStem (s t : It) : hasL (diffR s t) nStem = (!(s.stem.toList == t.stem.toList)) := by
  unfold diffR
  simp only [hasL_addN, hasL_nil, qIdStem, qVersionStem, qKindStem, qStemStem, qOptionsStem, qChoicesStem, qValueStem, qTolStem, qTextsStem, qPointsStem, qContentStem, qFamilyStem, qSetStem, qWordsStem, qSecondsStem, qAssetsStem, qRubricStem, Bool.and_false, Bool.and_true, Bool.or_false, Bool.false_or]
theorem qIdOptions : (nId.toList == nOptions.toList) = false := by decide +kernel
theorem qVersionOptions : (nVersion.toList == nOptions.toList) = false := by decide +kernel
theorem qKindOptions : (nKind.toList == nOptions.toList) = false := by decide +kernel
theorem qStemOptions : (nStem.toList == nOptions.toList) = false := by decide +kernel
theorem qOptionsOptions : (nOptions.toList == nOptions.toList) = true := by decide +kernel
theorem qChoicesOptions : (nChoices.toList == nOptions.toList) = false := by decide +kernel
theorem qValueOptions : (nValue.toList == nOptions.toList) = false := by decide +kernel
theorem qTolOptions : (nTol.toList == nOptions.toList) = false := by decide +kernel
theorem qTextsOptions : (nTexts.toList == nOptions.toList) = false := by decide +kernel
theorem qPointsOptions : (nPoints.toList == nOptions.toList) = false := by decide +kernel
theorem qContentOptions : (nContent.toList == nOptions.toList) = false := by decide +kernel
theorem qFamilyOptions : (nFamily.toList == nOptions.toList) = false := by decide +kernel
theorem qSetOptions : (nSet.toList == nOptions.toList) = false := by decide +kernel
theorem qWordsOptions : (nWords.toList == nOptions.toList) = false := by decide +kernel
theorem qSecondsOptions : (nSeconds.toList == nOptions.toList) = false := by decide +kernel
theorem qAssetsOptions : (nAssets.toList == nOptions.toList) = false := by decide +kernel
theorem qRubricOptions : (nRubric.toList == nOptions.toList) = false := by decide +kernel
theorem hasOptions (s t : It) : hasL (diffR s t) nOptions = (!(sameS s.nOpt s.opt t.nOpt t.opt)) := by
  unfold diffR
  simp only [hasL_addN, hasL_nil, qIdOptions, qVersionOptions, qKindOptions, qStemOptions, qOptionsOptions, qChoicesOptions, qValueOptions, qTolOptions, qTextsOptions, qPointsOptions, qContentOptions, qFamilyOptions, qSetOptions, qWordsOptions, qSecondsOptions, qAssetsOptions, qRubricOptions, Bool.and_false, Bool.and_true, Bool.or_false, Bool.false_or]
theorem qIdChoices : (nId.toList == nChoices.toList) = false := by decide +kernel
theorem qVersionChoices : (nVersion.toList == nChoices.toList) = false := by decide +kernel
theorem qKindChoices : (nKind.toList == nChoices.toList) = false := by decide +kernel
theorem qStemChoices : (nStem.toList == nChoices.toList) = false := by decide +kernel
theorem qOptionsChoices : (nOptions.toList == nChoices.toList) = false := by decide +kernel
theorem qChoicesChoices : (nChoices.toList == nChoices.toList) = true := by decide +kernel
theorem qValueChoices : (nValue.toList == nChoices.toList) = false := by decide +kernel
theorem qTolChoices : (nTol.toList == nChoices.toList) = false := by decide +kernel
theorem qTextsChoices : (nTexts.toList == nChoices.toList) = false := by decide +kernel
theorem qPointsChoices : (nPoints.toList == nChoices.toList) = false := by decide +kernel
theorem qContentChoices : (nContent.toList == nChoices.toList) = false := by decide +kernel
theorem qFamilyChoices : (nFamily.toList == nChoices.toList) = false := by decide +kernel
theorem qSetChoices : (nSet.toList == nChoices.toList) = false := by decide +kernel
theorem qWordsChoices : (nWords.toList == nChoices.toList) = false := by decide +kernel
theorem qSecondsChoices : (nSeconds.toList == nChoices.toList) = false := by decide +kernel
theorem qAssetsChoices : (nAssets.toList == nChoices.toList) = false := by decide +kernel
theorem qRubricChoices : (nRubric.toList == nChoices.toList) = false := by decide +kernel
theorem hasChoices (s t : It) : hasL (diffR s t) nChoices = (!(sameI s.nCh s.ch t.nCh t.ch)) := by
  unfold diffR
  simp only [hasL_addN, hasL_nil, qIdChoices, qVersionChoices, qKindChoices, qStemChoices, qOptionsChoices, qChoicesChoices, qValueChoices, qTolChoices, qTextsChoices, qPointsChoices, qContentChoices, qFamilyChoices, qSetChoices, qWordsChoices, qSecondsChoices, qAssetsChoices, qRubricChoices, Bool.and_false, Bool.and_true, Bool.or_false, Bool.false_or]
theorem qIdValue : (nId.toList == nValue.toList) = false := by decide +kernel
theorem qVersionValue : (nVersion.toList == nValue.toList) = false := by decide +kernel
theorem qKindValue : (nKind.toList == nValue.toList) = false := by decide +kernel
theorem qStemValue : (nStem.toList == nValue.toList) = false := by decide +kernel
theorem qOptionsValue : (nOptions.toList == nValue.toList) = false := by decide +kernel
theorem qChoicesValue : (nChoices.toList == nValue.toList) = false := by decide +kernel
theorem qValueValue : (nValue.toList == nValue.toList) = true := by decide +kernel
theorem qTolValue : (nTol.toList == nValue.toList) = false := by decide +kernel
theorem qTextsValue : (nTexts.toList == nValue.toList) = false := by decide +kernel
theorem qPointsValue : (nPoints.toList == nValue.toList) = false := by decide +kernel
theorem qContentValue : (nContent.toList == nValue.toList) = false := by decide +kernel
theorem qFamilyValue : (nFamily.toList == nValue.toList) = false := by decide +kernel
theorem qSetValue : (nSet.toList == nValue.toList) = false := by decide +kernel
theorem qWordsValue : (nWords.toList == nValue.toList) = false := by decide +kernel
theorem qSecondsValue : (nSeconds.toList == nValue.toList) = false := by decide +kernel
theorem qAssetsValue : (nAssets.toList == nValue.toList) = false := by decide +kernel
theorem qRubricValue : (nRubric.toList == nValue.toList) = false := by decide +kernel
theorem hasValue (s t : It) : hasL (diffR s t) nValue = (s.value != t.value) := by
  unfold diffR
  simp only [hasL_addN, hasL_nil, qIdValue, qVersionValue, qKindValue, qStemValue, qOptionsValue, qChoicesValue, qValueValue, qTolValue, qTextsValue, qPointsValue, qContentValue, qFamilyValue, qSetValue, qWordsValue, qSecondsValue, qAssetsValue, qRubricValue, Bool.and_false, Bool.and_true, Bool.or_false, Bool.false_or]
theorem qIdTol : (nId.toList == nTol.toList) = false := by decide +kernel
theorem qVersionTol : (nVersion.toList == nTol.toList) = false := by decide +kernel
theorem qKindTol : (nKind.toList == nTol.toList) = false := by decide +kernel
theorem qStemTol : (nStem.toList == nTol.toList) = false := by decide +kernel
theorem qOptionsTol : (nOptions.toList == nTol.toList) = false := by decide +kernel
theorem qChoicesTol : (nChoices.toList == nTol.toList) = false := by decide +kernel
theorem qValueTol : (nValue.toList == nTol.toList) = false := by decide +kernel
theorem qTolTol : (nTol.toList == nTol.toList) = true := by decide +kernel
theorem qTextsTol : (nTexts.toList == nTol.toList) = false := by decide +kernel
theorem qPointsTol : (nPoints.toList == nTol.toList) = false := by decide +kernel
theorem qContentTol : (nContent.toList == nTol.toList) = false := by decide +kernel
theorem qFamilyTol : (nFamily.toList == nTol.toList) = false := by decide +kernel
theorem qSetTol : (nSet.toList == nTol.toList) = false := by decide +kernel
theorem qWordsTol : (nWords.toList == nTol.toList) = false := by decide +kernel
theorem qSecondsTol : (nSeconds.toList == nTol.toList) = false := by decide +kernel
theorem qAssetsTol : (nAssets.toList == nTol.toList) = false := by decide +kernel
theorem qRubricTol : (nRubric.toList == nTol.toList) = false := by decide +kernel
theorem hasTol (s t : It) : hasL (diffR s t) nTol = (s.tol != t.tol) := by
  unfold diffR
  simp only [hasL_addN, hasL_nil, qIdTol, qVersionTol, qKindTol, qStemTol, qOptionsTol, qChoicesTol, qValueTol, qTolTol, qTextsTol, qPointsTol, qContentTol, qFamilyTol, qSetTol, qWordsTol, qSecondsTol, qAssetsTol, qRubricTol, Bool.and_false, Bool.and_true, Bool.or_false, Bool.false_or]
theorem qIdTexts : (nId.toList == nTexts.toList) = false := by decide +kernel
theorem qVersionTexts : (nVersion.toList == nTexts.toList) = false := by decide +kernel
theorem qKindTexts : (nKind.toList == nTexts.toList) = false := by decide +kernel
theorem qStemTexts : (nStem.toList == nTexts.toList) = false := by decide +kernel
theorem qOptionsTexts : (nOptions.toList == nTexts.toList) = false := by decide +kernel
theorem qChoicesTexts : (nChoices.toList == nTexts.toList) = false := by decide +kernel
theorem qValueTexts : (nValue.toList == nTexts.toList) = false := by decide +kernel
theorem qTolTexts : (nTol.toList == nTexts.toList) = false := by decide +kernel
theorem qTextsTexts : (nTexts.toList == nTexts.toList) = true := by decide +kernel
theorem qPointsTexts : (nPoints.toList == nTexts.toList) = false := by decide +kernel
theorem qContentTexts : (nContent.toList == nTexts.toList) = false := by decide +kernel
theorem qFamilyTexts : (nFamily.toList == nTexts.toList) = false := by decide +kernel
theorem qSetTexts : (nSet.toList == nTexts.toList) = false := by decide +kernel
theorem qWordsTexts : (nWords.toList == nTexts.toList) = false := by decide +kernel
theorem qSecondsTexts : (nSeconds.toList == nTexts.toList) = false := by decide +kernel
theorem qAssetsTexts : (nAssets.toList == nTexts.toList) = false := by decide +kernel
theorem qRubricTexts : (nRubric.toList == nTexts.toList) = false := by decide +kernel
theorem hasTexts (s t : It) : hasL (diffR s t) nTexts = (!(sameS s.nTx s.tx t.nTx t.tx)) := by
  unfold diffR
  simp only [hasL_addN, hasL_nil, qIdTexts, qVersionTexts, qKindTexts, qStemTexts, qOptionsTexts, qChoicesTexts, qValueTexts, qTolTexts, qTextsTexts, qPointsTexts, qContentTexts, qFamilyTexts, qSetTexts, qWordsTexts, qSecondsTexts, qAssetsTexts, qRubricTexts, Bool.and_false, Bool.and_true, Bool.or_false, Bool.false_or]
theorem qIdPoints : (nId.toList == nPoints.toList) = false := by decide +kernel
theorem qVersionPoints : (nVersion.toList == nPoints.toList) = false := by decide +kernel
theorem qKindPoints : (nKind.toList == nPoints.toList) = false := by decide +kernel
theorem qStemPoints : (nStem.toList == nPoints.toList) = false := by decide +kernel
theorem qOptionsPoints : (nOptions.toList == nPoints.toList) = false := by decide +kernel
theorem qChoicesPoints : (nChoices.toList == nPoints.toList) = false := by decide +kernel
theorem qValuePoints : (nValue.toList == nPoints.toList) = false := by decide +kernel
theorem qTolPoints : (nTol.toList == nPoints.toList) = false := by decide +kernel
theorem qTextsPoints : (nTexts.toList == nPoints.toList) = false := by decide +kernel
theorem qPointsPoints : (nPoints.toList == nPoints.toList) = true := by decide +kernel
theorem qContentPoints : (nContent.toList == nPoints.toList) = false := by decide +kernel
theorem qFamilyPoints : (nFamily.toList == nPoints.toList) = false := by decide +kernel
theorem qSetPoints : (nSet.toList == nPoints.toList) = false := by decide +kernel
theorem qWordsPoints : (nWords.toList == nPoints.toList) = false := by decide +kernel
theorem qSecondsPoints : (nSeconds.toList == nPoints.toList) = false := by decide +kernel
theorem qAssetsPoints : (nAssets.toList == nPoints.toList) = false := by decide +kernel
theorem qRubricPoints : (nRubric.toList == nPoints.toList) = false := by decide +kernel
theorem hasPoints (s t : It) : hasL (diffR s t) nPoints = (s.points != t.points) := by
  unfold diffR
  simp only [hasL_addN, hasL_nil, qIdPoints, qVersionPoints, qKindPoints, qStemPoints, qOptionsPoints, qChoicesPoints, qValuePoints, qTolPoints, qTextsPoints, qPointsPoints, qContentPoints, qFamilyPoints, qSetPoints, qWordsPoints, qSecondsPoints, qAssetsPoints, qRubricPoints, Bool.and_false, Bool.and_true, Bool.or_false, Bool.false_or]
theorem qIdRubric : (nId.toList == nRubric.toList) = false := by decide +kernel
theorem qVersionRubric : (nVersion.toList == nRubric.toList) = false := by decide +kernel
theorem qKindRubric : (nKind.toList == nRubric.toList) = false := by decide +kernel
theorem qStemRubric : (nStem.toList == nRubric.toList) = false := by decide +kernel
theorem qOptionsRubric : (nOptions.toList == nRubric.toList) = false := by decide +kernel
theorem qChoicesRubric : (nChoices.toList == nRubric.toList) = false := by decide +kernel
theorem qValueRubric : (nValue.toList == nRubric.toList) = false := by decide +kernel
theorem qTolRubric : (nTol.toList == nRubric.toList) = false := by decide +kernel
theorem qTextsRubric : (nTexts.toList == nRubric.toList) = false := by decide +kernel
theorem qPointsRubric : (nPoints.toList == nRubric.toList) = false := by decide +kernel
theorem qContentRubric : (nContent.toList == nRubric.toList) = false := by decide +kernel
theorem qFamilyRubric : (nFamily.toList == nRubric.toList) = false := by decide +kernel
theorem qSetRubric : (nSet.toList == nRubric.toList) = false := by decide +kernel
theorem qWordsRubric : (nWords.toList == nRubric.toList) = false := by decide +kernel
theorem qSecondsRubric : (nSeconds.toList == nRubric.toList) = false := by decide +kernel
theorem qAssetsRubric : (nAssets.toList == nRubric.toList) = false := by decide +kernel
theorem qRubricRubric : (nRubric.toList == nRubric.toList) = true := by decide +kernel
theorem hasRubric (s t : It) : hasL (diffR s t) nRubric = (s.rubric != t.rubric) := by
  unfold diffR
  simp only [hasL_addN, hasL_nil, qIdRubric, qVersionRubric, qKindRubric, qStemRubric, qOptionsRubric, qChoicesRubric, qValueRubric, qTolRubric, qTextsRubric, qPointsRubric, qContentRubric, qFamilyRubric, qSetRubric, qWordsRubric, qSecondsRubric, qAssetsRubric, qRubricRubric, Bool.and_false, Bool.and_true, Bool.or_false, Bool.false_or]
theorem qIdVersion : (nId.toList == nVersion.toList) = false := by decide +kernel
theorem qVersionVersion : (nVersion.toList == nVersion.toList) = true := by decide +kernel
theorem qKindVersion : (nKind.toList == nVersion.toList) = false := by decide +kernel
theorem qStemVersion : (nStem.toList == nVersion.toList) = false := by decide +kernel
theorem qOptionsVersion : (nOptions.toList == nVersion.toList) = false := by decide +kernel
theorem qChoicesVersion : (nChoices.toList == nVersion.toList) = false := by decide +kernel
theorem qValueVersion : (nValue.toList == nVersion.toList) = false := by decide +kernel
theorem qTolVersion : (nTol.toList == nVersion.toList) = false := by decide +kernel
theorem qTextsVersion : (nTexts.toList == nVersion.toList) = false := by decide +kernel
theorem qPointsVersion : (nPoints.toList == nVersion.toList) = false := by decide +kernel
theorem qContentVersion : (nContent.toList == nVersion.toList) = false := by decide +kernel
theorem qFamilyVersion : (nFamily.toList == nVersion.toList) = false := by decide +kernel
theorem qSetVersion : (nSet.toList == nVersion.toList) = false := by decide +kernel
theorem qWordsVersion : (nWords.toList == nVersion.toList) = false := by decide +kernel
theorem qSecondsVersion : (nSeconds.toList == nVersion.toList) = false := by decide +kernel
theorem qAssetsVersion : (nAssets.toList == nVersion.toList) = false := by decide +kernel
theorem qRubricVersion : (nRubric.toList == nVersion.toList) = false := by decide +kernel
theorem hasVersion (s t : It) : hasL (diffR s t) nVersion = (s.version != t.version) := by
  unfold diffR
  simp only [hasL_addN, hasL_nil, qIdVersion, qVersionVersion, qKindVersion, qStemVersion, qOptionsVersion, qChoicesVersion, qValueVersion, qTolVersion, qTextsVersion, qPointsVersion, qContentVersion, qFamilyVersion, qSetVersion, qWordsVersion, qSecondsVersion, qAssetsVersion, qRubricVersion, Bool.and_false, Bool.and_true, Bool.or_false, Bool.false_or]
theorem qIdId : (nId.toList == nId.toList) = true := by decide +kernel
theorem qVersionId : (nVersion.toList == nId.toList) = false := by decide +kernel
theorem qKindId : (nKind.toList == nId.toList) = false := by decide +kernel
theorem qStemId : (nStem.toList == nId.toList) = false := by decide +kernel
theorem qOptionsId : (nOptions.toList == nId.toList) = false := by decide +kernel
theorem qChoicesId : (nChoices.toList == nId.toList) = false := by decide +kernel
theorem qValueId : (nValue.toList == nId.toList) = false := by decide +kernel
theorem qTolId : (nTol.toList == nId.toList) = false := by decide +kernel
theorem qTextsId : (nTexts.toList == nId.toList) = false := by decide +kernel
theorem qPointsId : (nPoints.toList == nId.toList) = false := by decide +kernel
theorem qContentId : (nContent.toList == nId.toList) = false := by decide +kernel
theorem qFamilyId : (nFamily.toList == nId.toList) = false := by decide +kernel
theorem qSetId : (nSet.toList == nId.toList) = false := by decide +kernel
theorem qWordsId : (nWords.toList == nId.toList) = false := by decide +kernel
theorem qSecondsId : (nSeconds.toList == nId.toList) = false := by decide +kernel
theorem qAssetsId : (nAssets.toList == nId.toList) = false := by decide +kernel
theorem qRubricId : (nRubric.toList == nId.toList) = false := by decide +kernel
theorem hasId (s t : It) : hasL (diffR s t) nId = (s.id != t.id) := by
  unfold diffR
  simp only [hasL_addN, hasL_nil, qIdId, qVersionId, qKindId, qStemId, qOptionsId, qChoicesId, qValueId, qTolId, qTextsId, qPointsId, qContentId, qFamilyId, qSetId, qWordsId, qSecondsId, qAssetsId, qRubricId, Bool.and_false, Bool.and_true, Bool.or_false, Bool.false_or]
def majN : List ByteArray := [nKind, nStem, nOptions, nChoices, nValue, nTol, nTexts, nPoints, nRubric]
def majF (i : Nat) : ByteArray := majN.getD i ⟨#[]⟩
theorem major_names (s t : It) : hasN (fun i => hasL (diffR s t) (majF i)) 9 = majorR s t := by
  simp only [hasN_succ, show hasN (fun i => hasL (diffR s t) (majF i)) 0 = false from rfl, Bool.false_or]
  rw [show majF 0 = nKind from rfl, show majF 1 = nStem from rfl, show majF 2 = nOptions from rfl, show majF 3 = nChoices from rfl, show majF 4 = nValue from rfl, show majF 5 = nTol from rfl, show majF 6 = nTexts from rfl, show majF 7 = nPoints from rfl, show majF 8 = nRubric from rfl]
  rw [hasKind, hasStem, hasOptions, hasChoices, hasValue, hasTol, hasTexts, hasPoints, hasRubric]
  unfold majorR maj1
  cases s.kind != t.kind <;> cases (s.stem.toList == t.stem.toList) <;> cases sameS s.nOpt s.opt t.nOpt t.opt <;> cases sameI s.nCh s.ch t.nCh t.ch <;> cases s.value != t.value <;> cases s.tol != t.tol <;> cases sameS s.nTx s.tx t.nTx t.tx <;> cases s.points != t.points <;> cases s.rubric != t.rubric <;> rfl
theorem succ_parts {s t : It} (h : succR s t = 0) : validR t = 0 ∧ s.id = t.id ∧ t.version - 1 = s.version := by
  unfold succR at h
  by_cases hv : validR t = 0
  · simp only [hv, bne_self_eq_false, cond_false] at h
    obtain ⟨h1, h⟩ := bif0 (by decide) h
    obtain ⟨h2, -⟩ := bif0 (by decide) h
    exact ⟨hv, by simpa using h1, by simpa using h2⟩
  · have : (validR t != 0) = true := by simpa using hv
    simp only [this, cond_true] at h
    exact absurd h hv
end Go.Proofs.YtnhpgmmhfgdmjaaGreat.P14
/- Proved here: contracts of functions of this chapter: called with these values, each returns these values and changes nothing that was. Conditions: none but those that each theorem names. -/
set_option linter.unusedVariables false
set_option linter.unusedSimpArgs false
open Go Go.Proofs Go.Ev
namespace Go.Proofs.YtnhpgmmhfgdmjaaGreat.P14
set_option maxRecDepth 100000
theorem getD_str9 (a b c d e f g h k z : ByteArray) (i : Nat) : [DV.str a, DV.str b, DV.str c, DV.str d, DV.str e, DV.str f, DV.str g, DV.str h, DV.str k].getD i (.str z) = .str ([a, b, c, d, e, f, g, h, k].getD i z) := by
  rcases i with _ | _ | _ | _ | _ | _ | _ | _ | _ | i <;> simp
theorem diffL_ok (s t : It) : FnD Tryz.prog 41 [.d (iD s), .d (iD t)] [.list 1 (diffR s t).length fun i => .str (nm (diffR s t) i)] := diff_ok s t
end Go.Proofs.YtnhpgmmhfgdmjaaGreat.P14
/- Proved here: contracts of functions of this chapter: called with these values, each returns these values and changes nothing that was. Conditions: none but those that each theorem names. -/
set_option linter.unusedVariables false
set_option linter.unusedSimpArgs false
open Go Go.Proofs Go.Ev
namespace Go.Proofs.YtnhpgmmhfgdmjaaGreat.P14
set_option maxRecDepth 100000
/-- The heads of two nodes differ. -/
def eqH (t1 k1 n1 : Int) (s1 : ByteArray) (m1 : Nat) (t2 k2 n2 : Int) (s2 : ByteArray) (m2 : Nat) : Bool := bif (bif (bif (bif t1 != t2 then true else k1 != k2) then true else n1 != n2) then true else !(s1.toList == s2.toList)) then true else (m1 : Int) != m2
def eqN : Nd → Nd → Bool
  | .leaf t k n s, y => !(eqH t k n s 0 y.tag y.kind y.n y.s y.m)
  | .mk t k n s m f, y => !(eqH t k n s m y.tag y.kind y.n y.s y.m) && allN (fun i => eqN (f i) (y.kids i)) m
theorem eqN_up (x y : Nd) : eqN x.up y.up = eqN x y := by
  cases x <;> cases y <;> simp only [Nd.up, eqN, Nd.tag, Nd.kind, Nd.n, Nd.s, Nd.m, Nd.kids] <;> simp [allN]
theorem args2' {P : Program} {K : FuncId} {a d a' d' : DV} {rs : List DV} (h : FnD P K [.d a, .d d] rs) (ha : ∀ S w v, a'.rep S w v → a.rep S w v) (hd : ∀ S w v, d'.rep S w v → d.rep S w v) : FnD P K [.d a', .d d'] rs :=
  h.args fun S α w vs hv => by
    simp only [prepL, PV.rep] at hv ⊢
    obtain ⟨u, us, rfl, h1, u2, _, rfl, h2, rfl⟩ := hv
    exact ⟨u, _, rfl, ha _ _ _ h1, u2, _, rfl, hd _ _ _ h2, rfl⟩
theorem up_mk (y : Nd) : ∃ t k n s m f, y.up = .mk t k n s m f := by cases y <;> exact ⟨_, _, _, _, _, _, rfl⟩
end Go.Proofs.YtnhpgmmhfgdmjaaGreat.P14
