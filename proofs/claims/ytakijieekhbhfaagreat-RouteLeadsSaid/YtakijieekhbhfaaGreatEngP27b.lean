/- Plain laws of chapter 27 (enter): bytes as numbers: EnterComes. -/
import Derived.Test.YtakijieekhbhfaaGreatEngP27
import Derived.Test.YtakijieekhbhfaaGreatEngB0
import Derived.Test.YtakijieekhbhfaaGreatEngR15
