/- Contracts of what uri hands on: all in one text. -/
import Derived.Test.YthfppglmjkjcoaaDoorFuriClosures
set_option linter.unusedVariables false
set_option linter.unusedSimpArgs false
